/- My own texts, packed: NetR, GluL, NetX, One6, Check6, Do10, AlikeE, OpenKit, EdAw, Ed12a, Ed12b, Same12, Par6, Par7, Par8. -/
import Derived.Test.YtofjodppljnlaaaGreatDoorP5
namespace Go.Proofs.YtofjodppljnlaaaGreatDoor
open Go.RowKit
set_option linter.unusedVariables false
set_option linter.unusedSimpArgs false
/-- The places to which a word leads. -/
structure Plc (N : NetD) (u : List Int) (out : List Bool) : Prop where
  len : out.length = N.nx.length
  iff : ∀ j, out.getD j false = true ↔ Rch N.E 0 u j
theorem rch_one {N : NetD} {p j : Nat} {u : List Int} (h : Rch N.E p u j) : ∀ t, u = [t] → ∃ (i q : Nat), Rch N.E p [] i ∧ t ∈ N.bys.getD i [] ∧ N.nx.getD i (-1) = (q : Int) ∧ Rch N.E q [] j := by
  induction h with
  | nil p => intro t h; cases h
  | cons he hr ih =>
    intro t hu
    rcases he with ⟨rfl, hm⟩ | ⟨t', rfl, h1, h2⟩
    · obtain ⟨i, q, a, b, c, d⟩ := ih t hu
      exact ⟨i, q, by simpa using Rch.cons (u := []) (.inl ⟨rfl, hm⟩) a, b, c, d⟩
    · simp only [List.cons_append, List.nil_append, List.cons.injEq] at hu
      obtain ⟨rfl, rfl⟩ := hu
      exact ⟨_, _, .nil _, h1, h2, hr⟩
theorem Plc.first {N : NetD} {out : List Bool} {n : Nat} (h0 : 0 < n) (h : SpreadR N ((List.replicate n false).set 0 true) out) : Plc N [] out := by
  refine ⟨h.len, fun j => (h.iff j).trans ⟨fun ⟨i, hi, hr⟩ => ?_, fun hr => ⟨0, ?_, hr⟩⟩⟩
  · rw [getD_set1] at hi
    split at hi
    · rename_i hc
      rw [hc.1]; exact hr
    · simp [List.getD, List.getElem?_replicate] at hi
      split at hi <;> simp at hi
  · rw [getD_set1, if_pos ⟨rfl, by simpa using h0⟩]
/-- What the loop of step has laid. -/
def StpK (N : NetD) (inn : List Bool) (t : Int) (k : Nat) (xs : List Bool) : Prop := ∀ q : Nat, xs.getD q false = true ↔ ∃ i, i < k ∧ inn.getD i false = true ∧ t ∈ N.bys.getD i [] ∧ N.nx.getD i (-1) = (q : Int)
def StpQ (N : NetD) (inn : List Bool) (t : Int) (k m : Nat) (xs : List Bool) : Prop := ∀ q : Nat, xs.getD q false = true ↔ (∃ i, i < k ∧ inn.getD i false = true ∧ t ∈ N.bys.getD i [] ∧ N.nx.getD i (-1) = (q : Int)) ∨ (inn.getD k false = true ∧ t ∈ (N.bys.getD k []).take m ∧ N.nx.getD k (-1) = (q : Int))
structure StpR (N : NetD) (u : List Int) (out : List Bool) (some : Bool) : Prop where
  plc : Plc N u out
  any : some = true ↔ ∃ j, Rch N.E 0 u j
theorem StpR.done {N : NetD} {inn xs out : List Bool} {u : List Int} {t : Int} {some : Bool} {n : Nat} (hok : N.Ok) (hn : n = N.nx.length) (hp : Plc N u inn) (hs : StpK N inn t n xs) (ha : some = true ↔ ∃ q, xs.getD q false = true) (h : SpreadR N xs out) : StpR N (u ++ [t]) out some := by
  have key : ∀ j, (∃ q, xs.getD q false = true ∧ Rch N.E q [] j) ↔ Rch N.E 0 (u ++ [t]) j := by
    intro j
    constructor
    · rintro ⟨q, hq, hr⟩
      obtain ⟨i, _, h1, h2, h3⟩ := (hs q).1 hq
      have h4 : Rch N.E i [t] q := Rch.one (.inr ⟨t, rfl, h2, h3⟩)
      exact ((hp.iff i).1 h1).trans (by simpa using h4.trans hr)
    · intro hr
      obtain ⟨r, h1, h2⟩ := hr.split u [t] rfl
      obtain ⟨i, q, a, b, c, d⟩ := rch_one h2 t rfl
      have h3 : Rch N.E 0 u i := by simpa using h1.trans a
      have h4 := (hp.iff i).2 h3
      have h5 : i < N.nx.length := (Ok.lt hok (u := [t]) (q := q) (.inr ⟨t, rfl, b, c⟩)).1
      exact ⟨q, (hs q).2 ⟨i, by omega, h4, b, c⟩, d⟩
  refine ⟨⟨h.len, fun j => (h.iff j).trans (key j)⟩, ha.trans ⟨fun ⟨q, hq⟩ => ⟨q, (key q).1 ⟨q, hq, .nil q⟩⟩, fun ⟨j, hj⟩ => ?_⟩⟩
  obtain ⟨q, hq, _⟩ := (key j).2 hj
  exact ⟨q, hq⟩
theorem bool_made {w : World} {g n : Nat} (h : w.ownsRow 0 4 1 (.slice (some ⟨g, 0, none⟩) n n) n (madeCells (Value.bool false).cells (n * 1)).toList) {F : Nat → Prop} (hF : F g) : BoolO w F (.slice (some ⟨g, 0, none⟩) n n) (List.replicate n false) := by
  refine bool_own.2 ⟨?_, fun k hk => by simp [Value.ownBlock] at hk; subst hk; exact hF⟩
  have e : (madeCells (Value.bool false).cells (n * 1)).toList = (List.replicate n false).map .bool := by
    rw [Nat.mul_one, List.map_replicate]
    exact toList_madeCells_one _ _
  rw [List.length_replicate, ← e]
  exact h
theorem first_set (w : World) {g n : Nat} (h0 : 0 < n) {F : Nat → Prop} (h : BoolO w F (.slice (some ⟨g, 0, none⟩) n n) (List.replicate n false)) : BoolO (w.setCell ⟨g, 0, none⟩ (.bool true)) F (.slice (some ⟨g, 0, none⟩) n n) ((List.replicate n false).set 0 true) :=
  bool_set2 h (by simp) h0 true
theorem NetV.nx0 {w : World} {nb : Nat} {N : NetD} (h : NetV w nb N) : ∃ An cn, w.cell? ⟨nb, 2, none⟩ = some (.slice An N.nx.length cn) ∧ intR.row w AnyB An N.nx := by
  obtain ⟨At, ct, Ab, cb, An, cn, h0, h1, h2, h3⟩ := h
  exact ⟨An, cn, by unfold World.cell?; simp only [h0]; rfl, h3⟩
theorem bool_row {w : World} {F : Nat → Prop} {g n c : Nat} {xs : List Bool} (h : BoolO w F (.slice (some ⟨g, 0, none⟩) n c) xs) : Rp.bool.row w F (some ⟨g, 0, none⟩) xs := by
  obtain ⟨A, c', hv, _, hr⟩ := Rp.own_slice h
  simp only [Value.slice.injEq] at hv
  rw [hv.1]
  exact hr
set_option maxRecDepth 100000 in
set_option maxHeartbeats 4000000 in
theorem nfirst_calls {w : World} {nb : Nat} {N : NetD} (hN : NetV w nb N) (ok : N.Ok) (h0 : 0 < N.nx.length) (hb : N.nx.length ≤ 1048576) (hrow : ∀ x ∈ N.tos, x.length ≤ 1048576) :
    Calls Tryz.prog 172 #[.pointer (some ⟨nb, 0, none⟩)] w fun r w' => (∃ v out, r = .returned v ∧ BoolO w' (fun k => w.heap.size ≤ k) v out ∧ Plc N [] out) ∧ Pure w w' := by
  have HN := As.mk hN
  have HK := As.mk ok
  have HR := As.mk hrow
  obtain ⟨An, cn, q0, _⟩ := hN.nx0
  obtain ⟨i0, hi, hz0, hz1, hz2⟩ := info_parts bool_info
  clear hN ok hrow
  go_enter Tryz.func172, Tryz.ntmps172
  go_wp2_with (at_make; refine wpList_make_full _ rfl _ _ 180 rfl 0 4 i0 (.bool false) 1 Tryz.underlying180 hi hz0 hz1 .i64 .i64 _ _ N.nx.length rfl rfl rfl rfl (by rw [hz2]; omega) (by unfold maxLen; omega) (Nat.zero_le _) ?_; intro w1 ho1 hg1; apply As.out)
  refine ⟨?_⟩
  have HP1 : As (Pure w w1) := ⟨Upd.grown1 hg1 (fun k hk => by cases hk)⟩
  have HB1 := As.mk (bool_made ho1 (F := fun k => w.heap.size ≤ k) (Nat.le_refl _))
  have hP2 : Pure w (w1.setCell ⟨w.heap.size, 0, none⟩ (.bool true)) := HP1.out.trans (Upd.setCell1 (S := fun k => k = w.heap.size) w1 (p := ⟨w.heap.size, 0, none⟩) rfl _) (fun k hk h => by omega)
  have hB2 := first_set w1 h0 HB1.out
  have HP2 := As.mk hP2
  have HR2 := As.mk (bool_row hB2)
  obtain ⟨u0, u1⟩ := bool_cell2 HB1.out (by simp) (i := 0) (b := false) (by rw [List.getElem?_replicate, if_pos h0])
  have hwl : w.heap.size < w1.heap.size := (Rp.own_block_lt HB1.out _ rfl).2
  have hn0 : (0 : Int) < (N.nx.length : Int) := by omega
  clear ho1 hg1 hP2 hB2 hi hz0 hz1 hz2 q0
  go_wp2_with (go_at_call 201; refine (spread_calls (HN.out.pure HP2.out) HK.out HR2.out (by simp) h0 hb HR.out).mono ?_; rintro r w3 ⟨⟨v3, out, rfl, ho, hs⟩, hu⟩; have HO3 := As.mk ho; have HS3 := As.mk hs; have HU3 := As.mk hu; clear ho hs hu)
  go_ret
  exact ⟨⟨_, out, rfl, Rp.own_fp HO3.out (fun k hk => by have := HP2.out.size; omega), Plc.first h0 HS3.out⟩, HP2.out.trans HU3.out (fun _ _ h => h)⟩
theorem NetV.bys {w : World} {nb : Nat} {N : NetD} (h : NetV w nb N) (ok : N.Ok) {k : Nat} {x : List Int} (hx : N.bys[k]? = some x) :
    ∃ b o ct A1 c1, w.cell? ⟨nb, 1, none⟩ = some (.slice (some ⟨b, o, none⟩) N.nx.length ct) ∧ w.cell? ⟨b, o + k, none⟩ = some (.slice A1 x.length c1) ∧ intR.row w AnyB A1 x := by
  obtain ⟨At, ct, Ab, cb, An, cn, h0, h1, h2, h3⟩ := h
  obtain ⟨b, o, A1, c1, rfl, _, h4, h5⟩ := tyrow_at h2 hx
  rw [ok.bl] at h0
  exact ⟨b, o, cb, A1, c1, by unfold World.cell?; simp only [h0]; rfl, h4, h5⟩
theorem NetV.bys0 {w : World} {nb : Nat} {N : NetD} (h : NetV w nb N) (ok : N.Ok) : ∃ At ct, w.cell? ⟨nb, 1, none⟩ = some (.slice At N.nx.length ct) := by
  obtain ⟨At, ct, Ab, cb, An, cn, h0, h1, h2, h3⟩ := h
  rw [ok.bl] at h0
  exact ⟨Ab, cb, by unfold World.cell?; simp only [h0]; rfl⟩
theorem NetV.nx {w : World} {nb : Nat} {N : NetD} (h : NetV w nb N) {k : Nat} {x : Int} (hx : N.nx[k]? = some x) :
    ∃ b o ct, w.cell? ⟨nb, 2, none⟩ = some (.slice (some ⟨b, o, none⟩) N.nx.length ct) ∧ w.cell? ⟨b, o + k, none⟩ = some (.int .i64 x) := by
  obtain ⟨An, cn, h1, h2⟩ := h.nx0
  obtain ⟨b, o, rfl, _, _, h3⟩ := int_at h2 hx
  exact ⟨b, o, cn, h1, h3⟩
theorem StpQ.hit {N : NetD} {inn xs : List Bool} {t : Int} {k m z : Nat} (h : StpQ N inn t k m xs) (hi : inn.getD k false = true) (hb : (N.bys.getD k [])[m]? = some t) (hz : N.nx.getD k (-1) = (z : Int)) (hl : z < xs.length) : StpQ N inn t k (m + 1) (xs.set z true) := by
  intro q
  rw [getD_set1]
  constructor
  · intro hq
    split at hq
    · rename_i hc
      refine .inr ⟨hi, ?_, by rw [hz, hc.1]⟩
      rw [List.take_add_one, hb]
      simp
    · rcases (h q).1 hq with h1 | ⟨_, h2, h3⟩
      · exact .inl h1
      · exact .inr ⟨hi, by rw [List.take_add_one]; exact List.mem_append_left _ h2, h3⟩
  · intro hq
    split
    · rfl
    · rename_i hc
      rcases hq with h1 | ⟨_, h2, h3⟩
      · exact (h q).2 (.inl h1)
      · exfalso
        rw [hz] at h3
        exact hc ⟨by omega, by omega⟩
theorem StpQ.miss {N : NetD} {inn xs : List Bool} {t y : Int} {k m : Nat} (h : StpQ N inn t k m xs) (hb : (N.bys.getD k [])[m]? = some y) (hy : ¬ y = t) : StpQ N inn t k (m + 1) xs := by
  intro q
  rw [h q, List.take_add_one, hb, Option.toList_some, List.mem_append, List.mem_singleton]
  constructor
  · rintro (h1 | ⟨h1, h2, h3⟩)
    · exact .inl h1
    · exact .inr ⟨h1, .inl h2, h3⟩
  · rintro (h1 | ⟨h1, h2 | h2, h3⟩)
    · exact .inl h1
    · exact .inr ⟨h1, h2, h3⟩
    · exact absurd h2.symm hy
theorem StpQ.shut {N : NetD} {inn xs : List Bool} {t : Int} {k m : Nat} (h : StpQ N inn t k m xs) (hi : inn.getD k false = false ∨ (N.bys.getD k []).length ≤ m) : StpK N inn t (k + 1) xs := by
  intro q
  rw [h q]
  constructor
  · rintro (⟨i, h1, h2⟩ | ⟨h1, h2, h3⟩)
    · exact ⟨i, by omega, h2⟩
    · exact ⟨k, by omega, h1, List.mem_of_mem_take h2, h3⟩
  · rintro ⟨i, h1, h2, h3, h4⟩
    rcases Nat.lt_succ_iff_lt_or_eq.1 h1 with h1 | rfl
    · exact .inl ⟨i, h1, h2, h3, h4⟩
    · rcases hi with hi | hi
      · rw [hi] at h2; cases h2
      · exact .inr ⟨h2, by rw [List.take_of_length_le hi]; exact h3, h4⟩
theorem getD_rep (n q : Nat) : (List.replicate n false).getD q false = false := by
  simp only [List.getD, List.getElem?_replicate]
  split <;> rfl
theorem any_set {xs : List Bool} {z : Nat} (hl : z < xs.length) : true = true ↔ ∃ q, (xs.set z true).getD q false = true :=
  ⟨fun _ => ⟨z, by rw [getD_set1, if_pos ⟨rfl, hl⟩]⟩, fun _ => rfl⟩
structure StpS (N : NetD) (inn : List Bool) (t : Int) (k : Nat) (xs : List Bool) (sm : Bool) : Prop where
  len : xs.length = N.nx.length
  at_ : StpK N inn t k xs
  any : sm = true ↔ ∃ q, xs.getD q false = true
structure StpT (N : NetD) (inn : List Bool) (t : Int) (k m : Nat) (xs : List Bool) (sm : Bool) : Prop where
  len : xs.length = N.nx.length
  at_ : StpQ N inn t k m xs
  any : sm = true ↔ ∃ q, xs.getD q false = true
set_option maxRecDepth 100000 in
set_option maxHeartbeats 4000000 in
theorem step_calls2 {w : World} {nb : Nat} {N : NetD} {F : Nat → Prop} {A : Option Addr} {c : Nat} {inn : List Bool} {u : List Int} (t : Int) (hN : NetV w nb N) (ok : N.Ok) (h0 : 0 < N.nx.length) (hb : N.nx.length ≤ 1048576) (hrow : ∀ x ∈ N.tos, x.length ≤ 1048576) (hby : ∀ x ∈ N.bys, x.length ≤ 1048576) (hin : Rp.bool.row w F A inn) (hp : Plc N u inn) :
    Calls Tryz.prog 173 #[.pointer (some ⟨nb, 0, none⟩), .slice A N.nx.length c, .int .i64 t] w fun r w' => (∃ v out s, r = .returned (.tuple #[v, .bool s]) ∧ BoolO w' (fun k => w.heap.size ≤ k) v out ∧ StpR N (u ++ [t]) out s) ∧ Pure w w' := by
  have HN := As.mk hN
  have HK := As.mk ok
  have HR := As.mk hrow
  have HBL := As.mk hby
  have HIN := As.mk hin
  have HPL := As.mk hp
  have hil := hp.len
  obtain ⟨An, cn, q0, _⟩ := hN.nx0
  obtain ⟨i0, hi, hz0, hz1, hz2⟩ := info_parts bool_info
  have HIL := As.mk hil
  clear hN ok hrow hby hin hp hil
  go_enter Tryz.func173, Tryz.ntmps173
  go_wp2_with (at_make; refine wpList_make_full _ rfl _ _ 180 rfl 0 4 i0 (.bool false) 1 Tryz.underlying180 hi hz0 hz1 .i64 .i64 _ _ N.nx.length rfl rfl rfl rfl (by rw [hz2]; omega) (by unfold maxLen; omega) (Nat.zero_le _) ?_; intro w1 ho1 hg1; apply As.out)
  refine ⟨?_⟩
  have HP1 : As (Pure w w1) := ⟨Upd.grown1 hg1 (fun k hk => by cases hk)⟩
  have HB1 := As.mk (bool_made ho1 (F := fun k => w.heap.size ≤ k) (Nat.le_refl _))
  clear ho1 hg1 hi hz0 hz1 hz2 q0
  go_wp2
  go_loopg [10, 9] N.nx.length (fun g1 i s wr => ∃ (k : Nat) (xs : List Bool) (sm : Bool), k + g1 = N.nx.length ∧ i = .int .i64 k ∧ s = .bool sm ∧ As (StpS N inn t k xs sm) ∧ As (BoolO wr (fun k => w.heap.size ≤ k) (.slice (some ⟨w.heap.size, 0, none⟩) N.nx.length N.nx.length) xs) ∧ As (Pure w wr))
  case atStart => exact ⟨0, List.replicate N.nx.length false, false, by omega, rfl, rfl, ⟨⟨by simp, fun q => by rw [getD_rep]; simp, by simp only [getD_rep]; simp⟩⟩, HB1, HP1⟩
  case round =>
    obtain ⟨k, xs, sm, hk, rfl, rfl, HS, HO, HP⟩ := hrel
    obtain ⟨Ab, cb, q0⟩ := (HN.out.pure HP.out).bys0 HK.out
    by_cases hlt : k < N.nx.length
    · obtain ⟨x, hx⟩ : ∃ x, N.bys[k]? = some x := ⟨_, List.getElem?_eq_getElem (by rw [HK.out.bl]; exact hlt)⟩
      obtain ⟨g1, rfl⟩ : ∃ m, gk = m + 1 := ⟨gk - 1, by omega⟩
      have hxl := HBL.out x (List.mem_of_getElem? hx)
      have HX := As.mk hx
      have HXD := As.mk (getD_of (d := []) hx)
      have HKK := As.mk hk
      clear hk hx
      go_wp2
      go_loopg [11, 9] x.length (fun g2 j s wx => ∃ (m : Nat) (xs2 : List Bool) (s2 : Bool), m + g2 = x.length ∧ j = .int .i64 m ∧ s = .bool s2 ∧ As (StpT N inn t k m xs2 s2) ∧ As (BoolO wx (fun k => w.heap.size ≤ k) (.slice (some ⟨w.heap.size, 0, none⟩) N.nx.length N.nx.length) xs2) ∧ As (Pure w wx))
      case atStart => exact ⟨0, xs, sm, by omega, rfl, rfl, ⟨⟨HS.out.len, fun q => by rw [HS.out.at_ q]; simp, HS.out.any⟩⟩, HO, HP⟩
      case round =>
        obtain ⟨m, xs2, s2, hm, rfl, rfl, HT, HOx, HPx⟩ := hrel
        obtain ⟨bt, ot, ct2, A1, c1, t0, t1, hr1⟩ := (HN.out.pure HPx.out).bys HK.out HX.out
        obtain ⟨bk, hbk⟩ : ∃ b, inn[k]? = some b := ⟨_, List.getElem?_eq_getElem (by rw [HIL.out]; exact hlt)⟩
        obtain ⟨bi, oi, rfl, _, _, u0⟩ := bool_at (Rp.row_pure HIN.out HPx.out) hbk
        have HR1 := As.mk hr1
        have HBK := As.mk (getD_of (d := false) hbk)
        have HQ := As.mk hm
        clear q0 hr1 hbk hm
        cases bk with
        | false =>
          go_wp2
          go_roundg g1
          case measure => omega
          case rel => exact ⟨k + 1, xs2, s2, by have := HKK.out; omega, by go_num, rfl, ⟨⟨HT.out.len, HT.out.at_.shut (.inl HBK.out), HT.out.any⟩⟩, HOx, HPx⟩
        | true =>
          by_cases hlt2 : m < x.length
          · obtain ⟨y, hy⟩ : ∃ y, x[m]? = some y := ⟨_, List.getElem?_eq_getElem hlt2⟩
            obtain ⟨g2, rfl⟩ : ∃ m, gk = m + 1 := ⟨gk - 1, by have := HQ.out; omega⟩
            obtain ⟨by0, oy, rfl, _, _, y0⟩ := int_at HR1.out hy
            have HY := As.mk (show (N.bys.getD k [])[m]? = some y by rw [HXD.out]; exact hy)
            have hne : N.bys.getD k [] ≠ [] := fun h => by rw [HXD.out] at h; rw [h] at hlt2; simp at hlt2
            obtain ⟨hz1, hz2⟩ := HK.out.nx k hne
            obtain ⟨zz, hzz⟩ : ∃ z, N.nx[k]? = some z := ⟨_, List.getElem?_eq_getElem hlt⟩
            rw [getD_of hzz] at hz1 hz2
            obtain ⟨z, rfl⟩ : ∃ z : Nat, zz = z := ⟨zz.toNat, by omega⟩
            obtain ⟨bn, on, cn2, n0, n1⟩ := (HN.out.pure HPx.out).nx hzz
            have HZ := As.mk (getD_of (d := -1) hzz)
            have hzl : z < N.nx.length := by omega
            obtain ⟨bz, hbz⟩ : ∃ b, xs2[z]? = some b := ⟨_, List.getElem?_eq_getElem (by rw [HT.out.len]; exact hzl)⟩
            obtain ⟨v0, v1⟩ := bool_cell2 HOx.out HT.out.len hbz
            have hgl := (Rp.own_block_lt HOx.out _ rfl).2
            clear hy hne hzz hbz hz1
            by_cases hyt : y = t
            · subst hyt
              go_wp2
              go_roundg g2
              case measure => omega
              case rel => exact ⟨m + 1, xs2.set z true, true, by have := HQ.out; omega, by go_num, rfl, ⟨⟨by rw [List.length_set]; exact HT.out.len, HT.out.at_.hit HBK.out HY.out HZ.out (by rw [HT.out.len]; exact hzl), any_set (by rw [HT.out.len]; exact hzl)⟩⟩, ⟨bool_set2 HOx.out HT.out.len hzl true⟩, ⟨HPx.out.trans (Upd.setCell1 (S := fun k => k = w.heap.size) _ (p := ⟨w.heap.size, z, none⟩) rfl _) (fun k hk h => by omega)⟩⟩
            · go_wp2
              go_roundg g2
              case measure => omega
              case rel => exact ⟨m + 1, xs2, s2, by have := HQ.out; omega, by go_num, rfl, ⟨⟨HT.out.len, HT.out.at_.miss HY.out hyt, HT.out.any⟩⟩, HOx, HPx⟩
          · have hql : m = x.length := by have := HQ.out; omega
            subst hql
            go_wp2
            go_roundg g1
            case measure => omega
            case rel => exact ⟨k + 1, xs2, s2, by have := HKK.out; omega, by go_num, rfl, ⟨⟨HT.out.len, HT.out.at_.shut (.inr (by rw [HXD.out]; exact Nat.le_refl _)), HT.out.any⟩⟩, HOx, HPx⟩
    · have hkl : k = N.nx.length := by omega
      subst hkl
      have HR2 := As.mk (bool_row HO.out)
      go_wp2_with (go_at_call 201; refine (spread_calls (HN.out.pure HP.out) HK.out HR2.out HS.out.len h0 hb HR.out).mono ?_; rintro r w3 ⟨⟨v3, out, rfl, ho, hs⟩, hu⟩; have HO3 := As.mk ho; have HS3 := As.mk hs; have HU3 := As.mk hu; clear ho hs hu)
      refine bodyPost_ret (results_tmp2 rfl _ _ _) rfl ?_
      exact ⟨⟨_, out, sm, rfl, Rp.own_fp HO3.out (fun k hk => by have := HP.out.size; omega), StpR.done HK.out rfl HPL.out HS.out.at_ HS.out.any HS3.out⟩, HP.out.trans HU3.out (fun _ _ h => h)⟩
end Go.Proofs.YtofjodppljnlaaaGreatDoor
namespace Go.Proofs.YtofjodppljnlaaaGreatDoor
open Go.RowKit
set_option linter.unusedVariables false
set_option linter.unusedSimpArgs false
inductive PW (r : St) : Int → List Int → Int → Prop
  | nil (x : Int) : PW r x [] x
  | cons {x y z t : Int} {w : List Int} : y ∈ r.2.getD x.toNat [] → t ∈ r.1.getD y.toNat [] → PW r y w z → PW r x (t :: w) z
theorem PW.trans {r : St} {x y z : Int} {u v : List Int} (h : PW r x u y) (h' : PW r y v z) : PW r x (u ++ v) z := by
  induction h with
  | nil x => exact h'
  | cons h1 h2 _ ih => exact .cons h1 h2 (ih h')
theorem PW.mono {r r' : St} (h1 : ∀ i a, a ∈ r.1.getD i [] → a ∈ r'.1.getD i []) (h2 : ∀ i a, a ∈ r.2.getD i [] → a ∈ r'.2.getD i []) {x z : Int} {w : List Int} (h : PW r x w z) : PW r' x w z := by
  induction h with
  | nil x => exact .nil x
  | cons a b _ ih => exact .cons (h2 _ _ a) (h1 _ _ b) ih
def AccL (r : St) (p : Part) (w : List Int) : Prop := (w = [] ∧ p.none = true) ∨ ∃ y t w' z, w = t :: w' ∧ y ∈ p.first ∧ t ∈ r.1.getD y.toNat [] ∧ PW r y w' z ∧ z ∈ p.last
structure Glu (s r : St) (p : Part) (L : List Int → Prop) : Prop where
  len0 : s.1.length = s.2.length
  len : r.1.length = r.2.length
  le : s.1.length ≤ r.1.length
  old1 : ∀ i, i < s.1.length → r.1.getD i [] = s.1.getD i []
  old2 : ∀ i, i < s.1.length → r.2.getD i [] = s.2.getD i []
  first : ∀ y ∈ p.first, (s.1.length : Int) ≤ y ∧ y < r.1.length
  last : ∀ y ∈ p.last, (s.1.length : Int) ≤ y ∧ y < r.1.length
  row : ∀ x : Int, (s.1.length : Int) ≤ x → x < r.1.length → ∀ y ∈ r.2.getD x.toNat [], (s.1.length : Int) ≤ y ∧ y < r.1.length
  some : ∃ w, L w
  none : p.none = true → L []
  word : ∀ w, L w → AccL r p w
  sound : ∀ T : List Int → Prop, ∃ K : Int → List Int → Prop, (∀ x ∈ p.last, ∀ v, T v → K x v) ∧
    (∀ x y t v, (s.1.length : Int) ≤ x → x < r.1.length → y ∈ r.2.getD x.toNat [] → t ∈ r.1.getD y.toNat [] → K y v → K x (t :: v)) ∧
    (∀ y t v, y ∈ p.first → t ∈ r.1.getD y.toNat [] → K y v → ∃ u v', t :: v = u ++ v' ∧ L u ∧ T v')
  trim : ∀ x : Int, (s.1.length : Int) ≤ x → x < r.1.length → ∃ w z, PW r x w z ∧ z ∈ p.last
theorem getD_none {α : Type} (l : List α) (d : α) (i : Nat) (h : l.length ≤ i) : l.getD i d = d := by simp [List.getD, List.getElem?_eq_none h]
theorem mem_old {s r : List (List Int)} {n : Nat} (hs : s.length = n) (h : ∀ i, i < n → r.getD i [] = s.getD i []) (i : Nat) (a : Int) (ha : a ∈ s.getD i []) : a ∈ r.getD i [] := by
  rcases Nat.lt_or_ge i n with hi | hi
  · rw [h i hi]; exact ha
  · rw [getD_none s [] i (by omega)] at ha
    cases ha
theorem Glu.imp {s r : St} {p : Part} {L M : List Int → Prop} (h : Glu s r p L) (hL : ∀ w, L w ↔ M w) : Glu s r p M := by
  have : L = M := funext fun w => propext (hL w)
  exact this ▸ h
theorem glu_empty {s : St} (h : s.1.length = s.2.length) : Glu s s ⟨true, [], []⟩ (fun w => w = []) where
  len0 := h
  len := h
  le := Nat.le_refl _
  old1 := fun _ _ => rfl
  old2 := fun _ _ => rfl
  first := fun y hy => by cases hy
  last := fun y hy => by cases hy
  row := fun x h1 h2 => by omega
  some := ⟨[], rfl⟩
  none := fun _ => rfl
  word := fun w hw => .inl ⟨hw, rfl⟩
  sound := fun T => ⟨fun _ _ => True, (fun x hx => by cases hx), (fun _ _ _ _ _ _ _ _ _ => trivial), (fun y t v hy => by cases hy)⟩
  trim := fun x h1 h2 => by omega
/-- One behind the other. -/
theorem Glu.seq {s0 s r : St} {p q : Part} {L M : List Int → Prop} (h1 : Glu s0 s p L) (h2 : Glu s r q M) :
    Glu s0 (r.1, joinF r.2 p.last q.first) ⟨p.none && q.none, if p.none = true then p.first ++ q.first else p.first, if q.none = true then p.last ++ q.last else q.last⟩ (fun w => ∃ u v, w = u ++ v ∧ L u ∧ M v) := by
  have e0 := h1.len0
  have e1 := h1.len
  have e2 := h2.len
  have l1 := h1.le
  have l2 := h2.le
  have hs1 : s.1.length = s.1.length := rfl
  have up1 : ∀ i a, a ∈ s.1.getD i [] → a ∈ r.1.getD i [] := mem_old rfl h2.old1
  have up2 : ∀ i a, a ∈ s.2.getD i [] → a ∈ (joinF r.2 p.last q.first).getD i [] := fun i a ha => (mem_joinF _ _ _ _ _).2 (.inl (mem_old e1.symm h2.old2 i a ha))
  have up3 : ∀ i a, a ∈ r.2.getD i [] → a ∈ (joinF r.2 p.last q.first).getD i [] := fun i a ha => (mem_joinF _ _ _ _ _).2 (.inl ha)
  have pl := h1.last
  have qf := h2.first
  have edge : ∀ x y, x ∈ p.last → y ∈ q.first → y ∈ (joinF r.2 p.last q.first).getD x.toNat [] := fun x y hx hy => by
    have := pl x hx
    exact (mem_joinF _ _ _ _ _).2 (.inr ⟨by omega, ⟨x, hx, rfl⟩, hy⟩)
  have pw1 : ∀ {x w z}, PW s x w z → PW (r.1, joinF r.2 p.last q.first) x w z := fun h => PW.mono (r' := (r.1, joinF r.2 p.last q.first)) up1 up2 h
  have pw2 : ∀ {x w z}, PW r x w z → PW (r.1, joinF r.2 p.last q.first) x w z := fun h => PW.mono (r := r) (r' := (r.1, joinF r.2 p.last q.first)) (fun _ _ h => h) up3 h
  have inl : ∀ z, z ∈ q.last → z ∈ (if q.none = true then p.last ++ q.last else q.last) := fun z hz => by
    split
    · exact List.mem_append.2 (.inr hz)
    · exact hz
  refine ⟨e0, by simp only [joinF_len]; exact e2, by simp only; omega, fun i hi => ?_, fun i hi => ?_, fun y hy => ?_, fun y hy => ?_, fun x hx1 hx2 y hy => ?_, ?_, fun hn => ?_, ?_, fun T => ?_, fun x hx1 hx2 => ?_⟩
  · simp only
    rw [h2.old1 i (by omega), h1.old1 i hi]
  · apply List.ext_getElem?
    intro n
    have hm : ∀ a, a ∈ (joinF r.2 p.last q.first).getD i [] ↔ a ∈ s0.2.getD i [] := fun a => by
      rw [mem_joinF, h2.old2 i (by omega), h1.old2 i hi]
      constructor
      · rintro (h | ⟨_, ⟨b, hb, hbi⟩, _⟩)
        · exact h
        · have := pl b hb
          omega
      · exact .inl
    have he : (joinF r.2 p.last q.first).getD i [] = s0.2.getD i [] := by
      rw [← h1.old2 i hi, ← h2.old2 i (by omega)]
      clear hm
      have key : ∀ (l : List Int) (fs : List (List Int)), (∀ b ∈ l, b.toNat ≠ i) → (joinF fs l q.first).getD i [] = fs.getD i [] := by
        intro l
        induction l with
        | nil => intro fs _; rfl
        | cons b l ih =>
          intro fs hb
          have e : joinF fs (b :: l) q.first = joinF (fs.modify b.toNat (· ++ q.first)) l q.first := rfl
          rw [e, ih _ (fun c hc => hb c (by simp [hc])), getD_modify, if_neg (by have := hb b (by simp); omega)]
      exact key p.last r.2 (fun b hb => by have := pl b hb; omega)
    rw [he]
  · simp only at hy ⊢
    have : y ∈ p.first ∨ y ∈ q.first := by
      split at hy
      · exact List.mem_append.1 hy
      · exact .inl hy
    rcases this with h | h
    · have := h1.first y h; omega
    · have := qf y h; omega
  · simp only at hy ⊢
    have : y ∈ p.last ∨ y ∈ q.last := by
      split at hy
      · exact List.mem_append.1 hy
      · exact .inr hy
    rcases this with h | h
    · have := pl y h; omega
    · have := h2.last y h; omega
  · simp only at hx2 hy ⊢
    rcases (mem_joinF _ _ _ _ _).1 hy with h | ⟨_, ⟨b, hb, hbx⟩, h⟩
    · rcases Int.lt_or_le x s.1.length with hlt | hge
      · rw [h2.old2 _ (by omega)] at h
        have := h1.row x hx1 hlt y h
        omega
      · have := h2.row x hge hx2 y h
        omega
    · have := qf y h; omega
  · obtain ⟨u, hu⟩ := h1.some
    obtain ⟨v, hv⟩ := h2.some
    exact ⟨u ++ v, u, v, rfl, hu, hv⟩
  · simp only [Bool.and_eq_true] at hn
    exact ⟨[], [], rfl, h1.none hn.1, h2.none hn.2⟩
  · rintro w ⟨u, v, rfl, hu, hv⟩
    rcases h1.word u hu with ⟨rfl, hn⟩ | ⟨y, t, u', z, rfl, hy, ht, hp, hz⟩
    · rcases h2.word v hv with ⟨rfl, hm⟩ | ⟨y, t, v', z, rfl, hy, ht, hp, hz⟩
      · exact .inl ⟨rfl, by simp [hn, hm]⟩
      · refine .inr ⟨y, t, v', z, by simp, ?_, ht, pw2 hp, inl z hz⟩
        simp only [if_pos hn]
        exact List.mem_append.2 (.inr hy)
    · have hy' : y ∈ (if p.none = true then p.first ++ q.first else p.first) := by
        split
        · exact List.mem_append.2 (.inl hy)
        · exact hy
      rcases h2.word v hv with ⟨rfl, hm⟩ | ⟨y2, t2, v', z2, rfl, hy2, ht2, hp2, hz2⟩
      · refine .inr ⟨y, t, u', z, by simp, hy', up1 _ _ ht, pw1 hp, ?_⟩
        simp only [if_pos hm]
        exact List.mem_append.2 (.inl hz)
      · exact .inr ⟨y, t, u' ++ t2 :: v', z2, by simp, hy', up1 _ _ ht, (pw1 hp).trans (.cons (edge z y2 hz hy2) ht2 (pw2 hp2)), inl z2 hz2⟩
  · obtain ⟨K2, a1, a2, a3⟩ := h2.sound T
    obtain ⟨K1, b1, b2, b3⟩ := h1.sound (fun v => ∃ u v', v = u ++ v' ∧ M u ∧ T v')
    refine ⟨fun x w => if x < (s.1.length : Int) then K1 x w else K2 x w, fun x hx v hv => ?_, fun x y t v hx1 hx2 hy ht hk => ?_, fun y t v hy ht hk => ?_⟩
    · simp only at hx ⊢
      by_cases hm : q.none = true
      · rw [if_pos hm] at hx
        rcases List.mem_append.1 hx with hx | hx
        · rw [if_pos (by have := pl x hx; omega)]
          exact b1 x hx v ⟨[], v, rfl, h2.none hm, hv⟩
        · rw [if_neg (by have := h2.last x hx; omega)]
          exact a1 x hx v hv
      · rw [if_neg hm] at hx
        rw [if_neg (by have := h2.last x hx; omega)]
        exact a1 x hx v hv
    · simp only at hx2 hy ht hk ⊢
      rcases (mem_joinF _ _ _ _ _).1 hy with h | ⟨_, ⟨b, hb, hbx⟩, h⟩
      · rcases Int.lt_or_le x s.1.length with hlt | hge
        · rw [h2.old2 _ (by omega)] at h
          have hyr := h1.row x hx1 hlt y h
          rw [if_pos (by omega)] at hk
          rw [if_pos hlt]
          rw [h2.old1 _ (by omega)] at ht
          exact b2 x y t v hx1 hlt h ht hk
        · have hyr := h2.row x hge hx2 y h
          rw [if_neg (by omega)] at hk
          rw [if_neg (by omega)]
          exact a2 x y t v hge hx2 h ht hk
      · have hb2 := pl b hb
        have hbe : b = x := by omega
        subst hbe
        have hyr := qf y h
        rw [if_neg (by omega)] at hk
        rw [if_pos (by omega)]
        obtain ⟨u, v', h5, h6, h7⟩ := a3 y t v h ht hk
        exact b1 b hb (t :: v) ⟨u, v', h5, h6, h7⟩
    · simp only at hy ht hk ⊢
      have old : y ∈ p.first → ∃ u v', t :: v = u ++ v' ∧ (∃ u_1 v, u = u_1 ++ v ∧ L u_1 ∧ M v) ∧ T v' := fun hy => by
        have hyr := h1.first y hy
        rw [if_pos (by omega)] at hk
        rw [h2.old1 _ (by omega)] at ht
        obtain ⟨u, v', h5, h6, x, v2, rfl, h7, h8⟩ := b3 y t v hy ht hk
        exact ⟨u ++ x, v2, by rw [h5, List.append_assoc], ⟨u, x, rfl, h6, h7⟩, h8⟩
      by_cases hn : p.none = true
      · rw [if_pos hn] at hy
        rcases List.mem_append.1 hy with hy | hy
        · exact old hy
        · have hyr := qf y hy
          rw [if_neg (by omega)] at hk
          obtain ⟨u, v', h5, h6, h7⟩ := a3 y t v hy ht hk
          exact ⟨u, v', h5, ⟨[], u, rfl, h1.none hn, h6⟩, h7⟩
      · rw [if_neg hn] at hy
        exact old hy
  · simp only at hx2 ⊢
    rcases Int.lt_or_le x s.1.length with hlt | hge
    · obtain ⟨w, z, hp, hz⟩ := h1.trim x hx1 hlt
      by_cases hm : q.none = true
      · rw [if_pos hm]
        exact ⟨w, z, pw1 hp, List.mem_append.2 (.inl hz)⟩
      · rw [if_neg hm]
        obtain ⟨v, hv⟩ := h2.some
        rcases h2.word v hv with ⟨_, hm2⟩ | ⟨y2, t2, v', z2, rfl, hy2, ht2, hp2, hz2⟩
        · exact absurd hm2 hm
        · exact ⟨w ++ t2 :: v', z2, (pw1 hp).trans (.cons (edge z y2 hz hy2) ht2 (pw2 hp2)), hz2⟩
    · obtain ⟨w, z, hp, hz⟩ := h2.trim x hge hx2
      exact ⟨w, z, pw2 hp, inl z hz⟩
/-- One or the other. -/
theorem Glu.alt {s0 s r : St} {p q : Part} {L M : List Int → Prop} (h1 : Glu s0 s p L) (h2 : Glu s r q M) : Glu s0 r ⟨p.none || q.none, p.first ++ q.first, p.last ++ q.last⟩ (fun w => L w ∨ M w) := by
  have e1 := h1.len
  have l1 := h1.le
  have l2 := h2.le
  have up1 : ∀ i a, a ∈ s.1.getD i [] → a ∈ r.1.getD i [] := mem_old rfl h2.old1
  have up2 : ∀ i a, a ∈ s.2.getD i [] → a ∈ r.2.getD i [] := mem_old e1.symm h2.old2
  have pw1 : ∀ {x w z}, PW s x w z → PW r x w z := fun h => h.mono up1 up2
  refine ⟨h1.len0, h2.len, by omega, fun i hi => ?_, fun i hi => ?_, fun y hy => ?_, fun y hy => ?_, fun x hx1 hx2 y hy => ?_, ?_, fun hn => ?_, ?_, fun T => ?_, fun x hx1 hx2 => ?_⟩
  · rw [h2.old1 i (by omega), h1.old1 i hi]
  · rw [h2.old2 i (by omega), h1.old2 i hi]
  · rcases List.mem_append.1 hy with h | h
    · have := h1.first y h; omega
    · have := h2.first y h; omega
  · rcases List.mem_append.1 hy with h | h
    · have := h1.last y h; omega
    · have := h2.last y h; omega
  · rcases Int.lt_or_le x s.1.length with hlt | hge
    · rw [h2.old2 _ (by omega)] at hy
      have := h1.row x hx1 hlt y hy
      omega
    · have := h2.row x hge hx2 y hy
      omega
  · obtain ⟨u, hu⟩ := h1.some
    exact ⟨u, .inl hu⟩
  · simp only [Bool.or_eq_true] at hn
    rcases hn with hn | hn
    · exact .inl (h1.none hn)
    · exact .inr (h2.none hn)
  · rintro w (hw | hw)
    · rcases h1.word w hw with ⟨rfl, hn⟩ | ⟨y, t, u', z, rfl, hy, ht, hp, hz⟩
      · exact .inl ⟨rfl, by simp [hn]⟩
      · exact .inr ⟨y, t, u', z, rfl, List.mem_append.2 (.inl hy), up1 _ _ ht, pw1 hp, List.mem_append.2 (.inl hz)⟩
    · rcases h2.word w hw with ⟨rfl, hn⟩ | ⟨y, t, u', z, rfl, hy, ht, hp, hz⟩
      · exact .inl ⟨rfl, by simp [hn]⟩
      · exact .inr ⟨y, t, u', z, rfl, List.mem_append.2 (.inr hy), ht, hp, List.mem_append.2 (.inr hz)⟩
  · obtain ⟨K2, a1, a2, a3⟩ := h2.sound T
    obtain ⟨K1, b1, b2, b3⟩ := h1.sound T
    refine ⟨fun x w => if x < (s.1.length : Int) then K1 x w else K2 x w, fun x hx v hv => ?_, fun x y t v hx1 hx2 hy ht hk => ?_, fun y t v hy ht hk => ?_⟩
    · simp only
      rcases List.mem_append.1 hx with hx | hx
      · rw [if_pos (by have := h1.last x hx; omega)]
        exact b1 x hx v hv
      · rw [if_neg (by have := h2.last x hx; omega)]
        exact a1 x hx v hv
    · simp only at hk ⊢
      rcases Int.lt_or_le x s.1.length with hlt | hge
      · rw [h2.old2 _ (by omega)] at hy
        have hyr := h1.row x hx1 hlt y hy
        rw [if_pos (by omega)] at hk
        rw [if_pos hlt]
        rw [h2.old1 _ (by omega)] at ht
        exact b2 x y t v hx1 hlt hy ht hk
      · have hyr := h2.row x hge hx2 y hy
        rw [if_neg (by omega)] at hk
        rw [if_neg (by omega)]
        exact a2 x y t v hge hx2 hy ht hk
    · simp only at hk
      rcases List.mem_append.1 hy with hy | hy
      · have hyr := h1.first y hy
        rw [if_pos (by omega)] at hk
        rw [h2.old1 _ (by omega)] at ht
        obtain ⟨u, v', h5, h6, h7⟩ := b3 y t v hy ht hk
        exact ⟨u, v', h5, .inl h6, h7⟩
      · have hyr := h2.first y hy
        rw [if_neg (by omega)] at hk
        obtain ⟨u, v', h5, h6, h7⟩ := a3 y t v hy ht hk
        exact ⟨u, v', h5, .inr h6, h7⟩
  · rcases Int.lt_or_le x s.1.length with hlt | hge
    · obtain ⟨w, z, hp, hz⟩ := h1.trim x hx1 hlt
      exact ⟨w, z, pw1 hp, List.mem_append.2 (.inl hz)⟩
    · obtain ⟨w, z, hp, hz⟩ := h2.trim x hge hx2
      exact ⟨w, z, hp, List.mem_append.2 (.inr hz)⟩
/-- A sign behind it. -/
theorem Glu.sign {s r : St} {p : Part} {L : List Int → Prop} (h : Glu s r p L) (k : Int) :
    Glu s (r.1, if k ≠ 6 then joinF r.2 p.last p.first else r.2) ⟨p.none || decide (k ≠ 5), p.first, p.last⟩ (signL k L) := by
  have e2 := h.len
  have hmem : ∀ i a, a ∈ (if k ≠ 6 then joinF r.2 p.last p.first else r.2).getD i [] ↔ a ∈ r.2.getD i [] ∨ (k ≠ 6 ∧ i < r.2.length ∧ (∃ b ∈ p.last, b.toNat = i) ∧ a ∈ p.first) := fun i a => by
    by_cases k6 : k = 6
    · simp [k6]
    · simp only [ne_eq, k6, not_false_eq_true, if_true, true_and, mem_joinF]
  have pw : ∀ {x w z}, PW r x w z → PW (r.1, if k ≠ 6 then joinF r.2 p.last p.first else r.2) x w z := fun h' => PW.mono (r := r) (r' := (r.1, if k ≠ 6 then joinF r.2 p.last p.first else r.2)) (fun _ _ h => h) (fun i a ha => (hmem i a).2 (.inl ha)) h'
  have once : ∀ w, L w → AccL (r.1, if k ≠ 6 then joinF r.2 p.last p.first else r.2) p w := fun w hw => by
    rcases h.word w hw with h1 | ⟨y, t, u', z, h1, hy, ht, hp, hz⟩
    · exact .inl h1
    · exact .inr ⟨y, t, u', z, h1, hy, ht, pw hp, hz⟩
  have lift : ∀ w, AccL (r.1, if k ≠ 6 then joinF r.2 p.last p.first else r.2) p w → AccL (r.1, if k ≠ 6 then joinF r.2 p.last p.first else r.2) ⟨p.none || decide (k ≠ 5), p.first, p.last⟩ w := fun w hw => by
    rcases hw with ⟨h1, h2⟩ | h1
    · exact .inl ⟨h1, by simp [h2]⟩
    · exact .inr h1
  refine ⟨h.len0, ?_, h.le, h.old1, fun i hi => ?_, h.first, h.last, fun x hx1 hx2 y hy => ?_, ?_, fun hn => ?_, ?_, fun T => ?_, fun x hx1 hx2 => ?_⟩
  · simp only
    split
    · rw [joinF_len]; exact e2
    · exact e2
  · simp only
    split
    · rw [← h.old2 i hi]
      have key : ∀ (l : List Int) (fs : List (List Int)), (∀ b ∈ l, b.toNat ≠ i) → (joinF fs l p.first).getD i [] = fs.getD i [] := by
        intro l
        induction l with
        | nil => intro fs _; rfl
        | cons b l ih =>
          intro fs hb
          have e : joinF fs (b :: l) p.first = joinF (fs.modify b.toNat (· ++ p.first)) l p.first := rfl
          rw [e, ih _ (fun c hc => hb c (by simp [hc])), getD_modify, if_neg (by have := hb b (by simp); omega)]
      exact key p.last r.2 (fun b hb => by have := h.last b hb; omega)
    · exact h.old2 i hi
  · rcases (hmem _ _).1 hy with hy | ⟨_, _, _, hy⟩
    · exact h.row x hx1 hx2 y hy
    · exact h.first y hy
  · obtain ⟨w, hw⟩ := h.some
    exact ⟨w, .inr (.inl hw)⟩
  · simp only [Bool.or_eq_true, decide_eq_true_eq] at hn
    rcases hn with hn | hn
    · exact .inr (.inl (h.none hn))
    · exact .inl ⟨hn, rfl⟩
  · rintro w (⟨k5, rfl⟩ | hw | ⟨k6, hw⟩)
    · exact .inl ⟨rfl, by simp [k5]⟩
    · exact lift w (once w hw)
    · refine lift w ?_
      induction hw with
      | one hu => exact once _ hu
      | @more u v hu _ ih =>
        rcases once u hu with ⟨rfl, _⟩ | ⟨y, t, u', z, rfl, hy, ht, hp, hz⟩
        · simpa using ih
        · rcases ih with ⟨rfl, _⟩ | ⟨y2, t2, v', z2, rfl, hy2, ht2, hp2, hz2⟩
          · rw [List.append_nil]
            exact .inr ⟨y, t, u', z, rfl, hy, ht, hp, hz⟩
          · refine .inr ⟨y, t, u' ++ t2 :: v', z2, by simp, hy, ht, hp.trans (.cons ?_ ht2 hp2), hz2⟩
            have := h.last z hz
            exact (hmem _ _).2 (.inr ⟨k6, by omega, ⟨z, hz, rfl⟩, hy2⟩)
  · obtain ⟨K, a1, a2, a3⟩ := h.sound (fun w => T w ∨ (k ≠ 6 ∧ ∃ u v, w = u ++ v ∧ Plus L u ∧ T v))
    refine ⟨K, fun x hx v hv => a1 x hx v (.inl hv), fun x y t v hx1 hx2 hy ht hk => ?_, fun y t v hy ht hk => ?_⟩
    · rcases (hmem _ _).1 hy with hyo | ⟨k6, _, ⟨b, hb, hbx⟩, hyf⟩
      · exact a2 x y t v hx1 hx2 hyo ht hk
      · have hb2 := h.last b hb
        have hbe : b = x := by omega
        subst hbe
        obtain ⟨u, v', h5, h6, h7⟩ := a3 y t v hyf ht hk
        refine a1 b hb (t :: v) (.inr ⟨k6, ?_⟩)
        rcases h7 with h7 | ⟨_, x2, y2, rfl, h8, h9⟩
        · exact ⟨u, v', h5, .one h6, h7⟩
        · exact ⟨u ++ x2, y2, by rw [h5, List.append_assoc], .more h6 h8, h9⟩
    · obtain ⟨u, v', h5, h6, h7⟩ := a3 y t v hy ht hk
      rcases h7 with h7 | ⟨k6, x2, y2, rfl, h8, h9⟩
      · exact ⟨u, v', h5, .inr (.inl h6), h7⟩
      · exact ⟨u ++ x2, y2, by rw [h5, List.append_assoc], .inr (.inr ⟨k6, .more h6 h8⟩), h9⟩
  · obtain ⟨w, z, hp, hz⟩ := h.trim x hx1 hx2
    exact ⟨w, z, pw hp, hz⟩
theorem glu_name {s : St} (h : s.1.length = s.2.length) (l : List Int) (hl : l ≠ []) : Glu s (s.1 ++ [l], s.2 ++ [[]]) ⟨false, [(s.1.length : Int)], [(s.1.length : Int)]⟩ (fun w => ∃ t, w = [t] ∧ t ∈ l) := by
  have g1 : (s.1 ++ [l]).getD s.1.length [] = l := by rw [getD_app1, if_pos rfl]
  have g2 : (s.2 ++ [[]]).getD s.1.length [] = [] := by rw [getD_app1, if_pos h]
  obtain ⟨t0, ht0⟩ := List.exists_mem_of_ne_nil _ hl
  refine ⟨h, by simp [h], by simp, fun i hi => ?_, fun i hi => ?_, fun y hy => ?_, fun y hy => ?_, fun x h1 h2 y hy => ?_, ⟨[t0], t0, rfl, ht0⟩, (fun hn => by cases hn), ?_, fun T => ⟨fun _ => T, ?_, ?_, ?_⟩, fun x h1 h2 => ?_⟩
  · rw [getD_app1, if_neg (by omega)]
  · rw [getD_app1, if_neg (by omega)]
  · rw [List.mem_singleton.1 hy]; simp; omega
  · rw [List.mem_singleton.1 hy]; simp; omega
  · simp at h2
    have : x = (s.1.length : Int) := by omega
    subst this
    simp only [Int.toNat_natCast] at hy
    rw [g2] at hy
    cases hy
  · rintro w ⟨t, rfl, ht⟩
    exact .inr ⟨_, t, [], _, rfl, List.mem_singleton.2 rfl, by simp only [Int.toNat_natCast]; rw [g1]; exact ht, .nil _, List.mem_singleton.2 rfl⟩
  · intro x hx v hv; exact hv
  · intro x y t v h1 h2 hy
    simp at h2
    have : x = (s.1.length : Int) := by omega
    subst this
    simp only [Int.toNat_natCast] at hy
    rw [g2] at hy
    cases hy
  · intro y t v hy ht hk
    rw [List.mem_singleton.1 hy] at ht
    simp only [Int.toNat_natCast] at ht
    rw [g1] at ht
    exact ⟨[t], v, rfl, ⟨t, rfl, ht⟩, hk⟩
  · simp at h2
    have : x = (s.1.length : Int) := by omega
    subst this
    exact ⟨[], _, .nil _, List.mem_singleton.2 rfl⟩
theorem glu_never {s : St} {r : St} {p : Part} {L : List Int → Prop} (h : Glu s r p L) : Glu s r ⟨false || p.none, [] ++ p.first, [] ++ p.last⟩ L := by
  simpa using h
mutual
theorem glu_lang (g : List Grp) : ∀ (e : Ex) (s : St), liveE (typesOf g) e → s.1.length = s.2.length → Glu s (glu g e s).1 (glu g e s).2 (langE (typesOf g) e)
  | .mk k nm l, s, hl, h => by
    rw [liveE] at hl
    by_cases h0 : k = 0
    · rw [glu, if_pos h0]
      exact (glu_empty h).imp (fun w => by rw [langE, if_pos h0])
    rw [if_neg h0] at hl
    by_cases h1 : k = 1
    · rw [if_pos h1] at hl
      rw [glu, if_neg h0, if_pos h1]
      exact (glu_name h _ hl).imp (fun w => by rw [langE, if_neg h0, if_pos h1])
    rw [if_neg h1] at hl
    by_cases h2 : k = 2
    · rw [if_pos h2] at hl
      rw [glu, if_neg h0, if_neg h1, if_neg (by omega), if_pos h2]
      refine (glu_seq g l s s ⟨true, [], []⟩ _ hl (glu_empty h)).imp (fun w => ?_)
      rw [langE, if_neg h0, if_neg h1, if_pos h2]
      constructor
      · rintro ⟨u, v, rfl, rfl, hv⟩
        exact hv
      · intro hv
        exact ⟨[], w, rfl, rfl, hv⟩
    rw [if_neg h2] at hl
    by_cases h3 : k = 3
    · rw [if_pos h3] at hl
      rw [glu, if_neg h0, if_neg h1, if_pos h3]
      match l, hl with
      | [], hl => exact absurd rfl hl.1
      | x :: r, hl =>
        rw [liveSeq] at hl
        have hx := glu_never (glu_lang g x s hl.2.1 h)
        rw [gluAlt]
        refine (glu_alt g r s _ _ _ hl.2.2 hx).imp (fun w => ?_)
        rw [langE, if_neg h0, if_neg h1, if_neg h2, if_pos h3, langAlt]
    rw [if_neg h3] at hl
    rw [glu, if_neg h0, if_neg h1, if_neg h3, if_neg h2]
    match l, hl with
    | [], hl => exact absurd rfl hl.1
    | x :: r, hl =>
      rw [liveSeq] at hl
      have hx := (glu_lang g x s hl.2.1 h).sign k
      rw [gluOne]
      exact hx.imp (fun w => by
        rw [langE, if_neg h0, if_neg h1, if_neg h2, if_neg h3]
        have : langOne (typesOf g) (x :: r) = langE (typesOf g) x := funext fun w => by rw [langOne]
        rw [this])
theorem glu_seq (g : List Grp) : ∀ (l : List Ex) (s0 s : St) (p : Part) (A : List Int → Prop), liveSeq (typesOf g) l → Glu s0 s p A → Glu s0 (gluSeq g l s p).1 (gluSeq g l s p).2 (fun w => ∃ u v, w = u ++ v ∧ A u ∧ langSeq (typesOf g) l v)
  | [], s0, s, p, A, _, h => by
    rw [gluSeq]
    refine h.imp (fun w => ⟨fun hw => ⟨w, [], by simp, hw, by rw [langSeq]⟩, ?_⟩)
    rintro ⟨u, v, rfl, hu, hv⟩
    rw [langSeq] at hv
    rw [hv, List.append_nil]
    exact hu
  | x :: r, s0, s, p, A, hl, h => by
    rw [liveSeq] at hl
    rw [gluSeq]
    have hx := glu_lang g x s hl.1 h.len
    refine (glu_seq g r s0 _ _ _ hl.2 (h.seq hx)).imp (fun w => ?_)
    constructor
    · rintro ⟨u, v, rfl, ⟨a, b, rfl, ha, hb⟩, hv⟩
      exact ⟨a, b ++ v, by simp, ha, by rw [langSeq]; exact ⟨b, v, rfl, hb, hv⟩⟩
    · rintro ⟨a, v, rfl, ha, hv⟩
      rw [langSeq] at hv
      obtain ⟨b, v, rfl, hb, hv⟩ := hv
      exact ⟨a ++ b, v, by simp, ⟨a, b, rfl, ha, hb⟩, hv⟩
theorem glu_alt (g : List Grp) : ∀ (l : List Ex) (s0 s : St) (p : Part) (A : List Int → Prop), liveSeq (typesOf g) l → Glu s0 s p A → Glu s0 (gluAlt g l s p).1 (gluAlt g l s p).2 (fun w => A w ∨ langAlt (typesOf g) l w)
  | [], s0, s, p, A, _, h => by
    rw [gluAlt]
    exact h.imp (fun w => by rw [langAlt]; simp)
  | x :: r, s0, s, p, A, hl, h => by
    rw [liveSeq] at hl
    rw [gluAlt]
    have hx := glu_lang g x s hl.1 h.len
    refine (glu_alt g r s0 _ _ _ hl.2 (h.alt hx)).imp (fun w => ?_)
    rw [langAlt, or_assoc]
end
theorem path_pw {r : St} {p : Part} {w : List Int} {x : Int} (hf : ∀ y ∈ p.first, 0 ≤ y) (hr : ∀ i, ∀ y ∈ r.2.getD i [], 0 ≤ y) (h : Path r.1 r.2 p w x) :
    (w = [] ∧ x = -1) ∨ (0 ≤ x ∧ ∃ y t w', w = t :: w' ∧ y ∈ p.first ∧ t ∈ r.1.getD y.toNat [] ∧ PW r y w' x) := by
  induction h with
  | nil => exact .inl ⟨rfl, rfl⟩
  | snoc w x y t _ h2 h3 ih =>
    right
    rcases ih with ⟨rfl, rfl⟩ | ⟨hx, y0, t0, w', rfl, h4, h5, h6⟩
    · unfold nextsOf at h2
      rw [if_pos rfl] at h2
      exact ⟨hf y h2, y, t, [], rfl, h2, h3, .nil y⟩
    · unfold nextsOf at h2
      rw [if_neg (by omega)] at h2
      exact ⟨hr _ y h2, y0, t0, w' ++ [t], by simp, h4, h5, h6.trans (.cons h2 h3 (.nil y))⟩
theorem pw_path {r : St} {p : Part} (hr : ∀ i, ∀ y ∈ r.2.getD i [], 0 ≤ y) {y z : Int} {v : List Int} (h : PW r y v z) : ∀ u, 0 ≤ y → Path r.1 r.2 p u y → Path r.1 r.2 p (u ++ v) z := by
  induction h with
  | nil x => intro u _ hu; rwa [List.append_nil]
  | @cons x y z t w h1 h2 _ ih =>
    intro u hx hu
    have := ih (u ++ [t]) (hr _ y h1) (.snoc u x y t hu (by unfold nextsOf; rw [if_neg (by omega)]; exact h1) h2)
    simpa using this
theorem PW.split {r : St} {x z : Int} {w : List Int} (h : PW r x w z) : ∀ u v, w = u ++ v → ∃ y, PW r x u y ∧ PW r y v z := by
  induction h with
  | nil x =>
    intro u v h
    obtain ⟨rfl, rfl⟩ := List.append_eq_nil_iff.1 h.symm
    exact ⟨x, .nil x, .nil x⟩
  | @cons x y z t w h1 h2 hr ih =>
    intro u v h
    cases u with
    | nil =>
      refine ⟨x, .nil x, ?_⟩
      rw [← (show t :: w = v by simpa using h)]
      exact .cons h1 h2 hr
    | cons t' u' =>
      simp only [List.cons_append, List.cons.injEq] at h
      obtain ⟨rfl, h⟩ := h
      obtain ⟨s, h3, h4⟩ := ih u' v h
      exact ⟨s, .cons h1 h2 h3, h4⟩
mutual
theorem live_of (g : List Grp) : ∀ (e : Ex) (i : Int), e.okB i = true → e.namedB g = true → liveE (typesOf g) e
  | .mk k nm l, i, h, hn => by
    rw [Ex.namedB] at hn
    rw [Ex.okB] at h
    rw [liveE]
    by_cases h1 : k = 1
    · rw [if_neg (by omega), if_pos h1]
      rw [if_pos h1] at hn
      intro he
      rw [he] at hn
      simp at hn
    · rw [if_neg h1] at hn h
      split at h
      · cases h
      · rename_i hk
        simp only [Bool.and_eq_true, decide_eq_true_eq] at h
        have hs := live_ofs g l k h.1.1.1 hn
        have hle := h.1.2
        by_cases h0 : k = 0
        · rw [if_pos h0]; trivial
        · rw [if_neg h0, if_neg h1]
          have hne : l ≠ [] := by
            intro he
            subst he
            unfold leastE at hle
            rw [if_neg h0] at hle
            split at hle <;> simp at hle
          split
          · exact hs
          · split
            · exact ⟨hne, hs⟩
            · exact ⟨hne, hs⟩
theorem live_ofs (g : List Grp) : ∀ (l : List Ex) (i : Int), Ex.oksB i l = true → Ex.namedsB g l = true → liveSeq (typesOf g) l
  | [], _, _, _ => by rw [liveSeq]; trivial
  | x :: r, i, h, hn => by
    rw [Ex.oksB, Bool.and_eq_true] at h
    rw [Ex.namedsB, Bool.and_eq_true] at hn
    rw [liveSeq]
    exact ⟨live_of g x i h.1 hn.1, live_ofs g r i h.2 hn.2⟩
end
theorem check_live {e : Ex} {g : List Grp} (h : regCheck e g = 0) : liveE (typesOf g) e := by
  obtain ⟨⟨_, _, h1⟩, _, h2⟩ := (check_iff e g).1 h
  exact live_of g e 0 h1 h2
/-- What is accepted: the tree's words. -/
theorem acc_lang {e : Ex} {g : List Grp} (h : regCheck e g = 0) (w : List Int) : AccE e g w ↔ langE (typesOf g) e w := by
  have hM := mc_ok h
  have hG := glu_lang g e ([], []) (check_live h) rfl
  have hf : ∀ y ∈ (mcP g e).first, 0 ≤ y := fun y hy => (hM.ok (-1) y (by unfold nextsOf; rw [if_pos rfl]; exact hy)).1
  have hr : ∀ i, ∀ y ∈ (mcF g e).getD i [], 0 ≤ y := fun i y hy => (hM.ok (i : Int) y (by unfold nextsOf; rw [if_neg (by omega)]; simpa using hy)).1
  constructor
  · rintro ⟨x, hp, he⟩
    rcases path_pw (r := (mcT g e, mcF g e)) hf hr hp with ⟨rfl, rfl⟩ | ⟨hx, y, t, w', rfl, h4, h5, h6⟩
    · have : (mcP g e).none = true := by simpa [endS] using he
      exact hG.none this
    · have hl : x ∈ (mcP g e).last := by
        have hne : x ≠ -1 := by omega
        simpa [endS, hne] using he
      obtain ⟨K, a1, a2, a3⟩ := hG.sound (fun v => v = [])
      have key : ∀ (y z : Int) (v : List Int), PW (mcT g e, mcF g e) y v z → 0 ≤ y → (y < (mcT g e).length) → z ∈ (mcP g e).last → K y v := by
        intro y z v hv
        induction hv with
        | nil x => intro _ _ hz; exact a1 x hz [] rfl
        | @cons x y z t w h1 h2 _ ih =>
          intro hx hx2 hz
          have hy2 := hM.ok x y (by unfold nextsOf; rw [if_neg (by omega)]; exact h1)
          exact a2 x y t w (by simpa using hx) hx2 h1 h2 (ih hy2.1 hy2.2 hz)
      have hy2 := hM.ok (-1) y (by unfold nextsOf; rw [if_pos rfl]; exact h4)
      obtain ⟨u, v', h7, h8, rfl⟩ := a3 y t w' h4 h5 (key y x w' h6 hy2.1 hy2.2 hl)
      rw [h7, List.append_nil]
      exact h8
  · intro hw
    rcases hG.word w hw with ⟨rfl, hn⟩ | ⟨y, t, w', z, rfl, hy, ht, hp, hz⟩
    · exact ⟨-1, .nil, by simp [endS]; exact hn⟩
    · refine ⟨z, pw_path (r := (mcT g e, mcF g e)) hr hp [t] (hf y hy) (.snoc [] (-1) y t .nil (by unfold nextsOf; rw [if_pos rfl]; exact hy) ht), ?_⟩
      have := hM.last z hz
      have hne : z ≠ -1 := by omega
      simp [endS, hne]
      exact hz
/-- What leads somewhere: what begins a word. -/
theorem live_lang {e : Ex} {g : List Grp} (h : regCheck e g = 0) (w : List Int) : LiveE e g w ↔ ∃ v, langE (typesOf g) e (w ++ v) := by
  have hM := mc_ok h
  have hG := glu_lang g e ([], []) (check_live h) rfl
  have hf : ∀ y ∈ (mcP g e).first, 0 ≤ y := fun y hy => (hM.ok (-1) y (by unfold nextsOf; rw [if_pos rfl]; exact hy)).1
  have hr : ∀ i, ∀ y ∈ (mcF g e).getD i [], 0 ≤ y := fun i y hy => (hM.ok (i : Int) y (by unfold nextsOf; rw [if_neg (by omega)]; simpa using hy)).1
  constructor
  · rintro ⟨x, hp⟩
    rcases path_pw (r := (mcT g e, mcF g e)) hf hr hp with ⟨rfl, rfl⟩ | ⟨hx, y, t, w', rfl, h4, h5, h6⟩
    · exact lang_some (typesOf g) e (check_live h)
    · have hxl : x < (mcT g e).length := by
        rcases hp.zero hM with ⟨h, _⟩ | ⟨_, _, h⟩
        · cases h
        · exact h
      obtain ⟨v, z, hv, hz⟩ := hG.trim x (by simpa using hx) hxl
      refine ⟨v, (acc_lang h _).1 ⟨z, ?_, ?_⟩⟩
      · exact pw_path (r := (mcT g e, mcF g e)) hr hv _ hx hp
      · have := hM.last z hz
        have hne : z ≠ -1 := by omega
        simp [endS, hne]
        exact hz
  · rintro ⟨v, hv⟩
    obtain ⟨z, hz, _⟩ := (acc_lang h _).2 hv
    exact Live.app v ⟨z, hz⟩
end Go.Proofs.YtofjodppljnlaaaGreatDoor
namespace Go.Proofs.YtofjodppljnlaaaGreatDoor
open Go.RowKit
set_option linter.unusedVariables false
set_option linter.unusedSimpArgs false
structure RunR (N : NetD) (word : List Int) (k : Nat) (out : List Bool) : Prop where
  le : k ≤ word.length
  plc : Plc N (word.take k) out
  live : ∃ j, Rch N.E 0 (word.take k) j
  stop : k < word.length → ¬ ∃ j, Rch N.E 0 (word.take (k + 1)) j
set_option maxRecDepth 100000 in
set_option maxHeartbeats 4000000 in
theorem run6_calls {w : World} {nb : Nat} {N : NetD} {G : Nat → Prop} {Aw : Option Addr} {cw : Nat} {word : List Int} (hN : NetV w nb N) (ok : N.Ok) (h0 : 0 < N.nx.length) (hb : N.nx.length ≤ 1048576) (hrow : ∀ x ∈ N.tos, x.length ≤ 1048576) (hby : ∀ x ∈ N.bys, x.length ≤ 1048576) (hw : intR.row w G Aw word) (hwl : word.length ≤ 1048576 * 4) :
    Calls Tryz.prog 135 #[.pointer (some ⟨nb, 0, none⟩), .slice Aw word.length cw] w fun r w' => (∃ g cap out k, r = .returned (.tuple #[.slice (some ⟨g, 0, none⟩) N.nx.length cap, .int .i64 (k : Nat)]) ∧ BoolO w' (fun k => w.heap.size ≤ k) (.slice (some ⟨g, 0, none⟩) N.nx.length cap) out ∧ RunR N word k out) ∧ Pure w w' := by
  have HN := As.mk hN
  have HK := As.mk ok
  have HR := As.mk hrow
  have HBL := As.mk hby
  have HW := As.mk hw
  clear hN ok hrow hby hw
  go_enter Tryz.func135, Tryz.ntmps135
  go_wp2_with (go_at_call 172; refine (nfirst_calls HN.out HK.out h0 hb HR.out).mono ?_; rintro r w1 ⟨⟨v1, out, rfl, ho, hp⟩, hu⟩; have HO1 := As.mk ho; have HP1 := As.mk hp; have HU1 := As.mk hu; obtain ⟨gb, cap, rfl, _, _⟩ := bool_form2 ho hp.len h0; clear ho hp hu)
  go_loopg [6, 7] word.length (fun g iv i wr => ∃ (k gb cap : Nat) (out : List Bool), k + g = word.length ∧ iv = .slice (some ⟨gb, 0, none⟩) N.nx.length cap ∧ i = .int .i64 k ∧ As (Plc N (word.take k) out ∧ ∃ j, Rch N.E 0 (word.take k) j) ∧ As (BoolO wr (fun k => w.heap.size ≤ k) (.slice (some ⟨gb, 0, none⟩) N.nx.length cap) out) ∧ As (Pure w wr))
  case atStart => exact ⟨0, gb, cap, out, by omega, rfl, rfl, ⟨HP1.out, 0, .nil 0⟩, HO1, HU1⟩
  case round =>
    obtain ⟨k, gb, cap, out, hk, rfl, rfl, HPL, HO, HP⟩ := hrel
    by_cases hlt : k < word.length
    · obtain ⟨x, hx⟩ : ∃ x, word[k]? = some x := ⟨_, List.getElem?_eq_getElem hlt⟩
      obtain ⟨b, o, rfl, _, _, d0⟩ := int_at (Rp.row_pure HW.out HP.out) hx
      obtain ⟨g1, rfl⟩ : ∃ m, gk = m + 1 := ⟨gk - 1, by omega⟩
      have HE := As.mk (show word.take k ++ [x] = word.take (k + 1) by rw [List.take_add_one, hx]; rfl)
      have HKK := As.mk hk
      have HRB := As.mk (bool_row HO.out)
      clear hk hx
      go_wp2_with (go_at_call 173; refine (step_calls2 x (HN.out.pure HP.out) HK.out h0 hb HR.out HBL.out HRB.out HPL.out.1).mono ?_; rintro r w2 ⟨⟨v2, out2, s2, rfl, ho, hs⟩, hu⟩; rw [HE.out] at hs; have HO2 := As.mk ho; have HS2 := As.mk hs; have HU2 := As.mk hu; obtain ⟨gb2, cap2, rfl, _, _⟩ := bool_form2 ho hs.plc.len h0; clear ho hs hu; apply As.out)
      refine ⟨?_⟩
      cases s2 with
      | false =>
        go_wp2
        go_simp
        refine bodyPost_ret (results_tmp2 rfl _ _ _) rfl ?_
        exact ⟨⟨gb, cap, out, k, rfl, (by exact Rp.own_upd HO.out HU2.out (fun _ _ _ h => h)), ⟨by omega, HPL.out.1, HPL.out.2, fun _ h => by have := HS2.out.any.2 h; cases this⟩⟩, HP.out.trans HU2.out (fun _ _ h => h)⟩
      | true =>
        go_wp2
        go_roundg g1
        case measure => omega
        case rel => exact ⟨k + 1, gb2, cap2, out2, by have := HKK.out; omega, rfl, by go_num, ⟨HS2.out.plc, HS2.out.any.1 rfl⟩, ⟨Rp.own_fp HO2.out (fun q hq => by have := HP.out.size; omega)⟩, ⟨HP.out.trans HU2.out (fun _ _ h => h)⟩⟩
    · have hkl : k = word.length := by omega
      subst hkl
      go_wp2
      go_simp
      refine bodyPost_ret (results_tmp2 rfl _ _ _) rfl ?_
      exact ⟨⟨gb, cap, out, word.length, rfl, HO.out, ⟨Nat.le_refl _, HPL.out.1, HPL.out.2, fun h => by omega⟩⟩, HP.out⟩
mutual
theorem layE_bys (ty : ByteArray → List Int) (m : Nat) (hty : ∀ nm, (ty nm).length ≤ m) : ∀ (e : Ex) (a b : Nat) (N : NetD), (∀ x ∈ N.bys, x.length ≤ m) → ∀ x ∈ (layE ty e a b N).bys, x.length ≤ m
  | .mk k nm l, a, b, N, h => by
    have hp : ∀ N : NetD, (∀ x ∈ N.bys, x.length ≤ m) → ∀ x ∈ N.place.bys, x.length ≤ m := fun N h x hx => by
      rcases List.mem_append.1 (show x ∈ N.bys ++ [[]] from hx) with hx | hx
      · exact h x hx
      · rw [List.mem_singleton.1 hx]; exact Nat.zero_le _
    have hf : ∀ (N : NetD) (a b : Nat), (∀ x ∈ N.bys, x.length ≤ m) → ∀ x ∈ (N.free a b).bys, x.length ≤ m := fun N a b h => h
    unfold layE
    by_cases h0 : k = 0
    · rw [if_pos h0]; exact hf _ _ _ h
    · rw [if_neg h0]
      by_cases h1 : k = 1
      · rw [if_pos h1]
        intro x hx
        rcases List.mem_or_eq_of_mem_set (show x ∈ ((N.place.free a N.nx.length).bys).set N.nx.length (ty nm) from hx) with hx | hx
        · exact hp N h x hx
        · rw [hx]; exact hty nm
      · rw [if_neg h1]
        by_cases h2 : k = 2
        · rw [if_pos h2]; exact laySeq_bys ty m hty l a b N h
        · rw [if_neg h2]
          by_cases h3 : k = 3
          · rw [if_pos h3]; exact layAlt_bys ty m hty l a b N h
          · rw [if_neg h3]
            have i4 := layOne_bys ty m hty l N.nx.length (N.nx.length + 1) (N.place.place.free a N.nx.length) (hf _ _ _ (hp _ (hp _ h)))
            dsimp only
            split <;> split <;> exact i4
theorem laySeq_bys (ty : ByteArray → List Int) (m : Nat) (hty : ∀ nm, (ty nm).length ≤ m) : ∀ (l : List Ex) (a b : Nat) (N : NetD), (∀ x ∈ N.bys, x.length ≤ m) → ∀ x ∈ (laySeq ty l a b N).bys, x.length ≤ m
  | [], a, b, N, h => by unfold laySeq; exact h
  | x :: r, a, b, N, h => by
    unfold laySeq
    refine laySeq_bys ty m hty r _ _ _ (layE_bys ty m hty x _ _ _ fun y hy => ?_)
    rcases List.mem_append.1 (show y ∈ N.bys ++ [[]] from hy) with hy | hy
    · exact h y hy
    · rw [List.mem_singleton.1 hy]; exact Nat.zero_le _
theorem layAlt_bys (ty : ByteArray → List Int) (m : Nat) (hty : ∀ nm, (ty nm).length ≤ m) : ∀ (l : List Ex) (a b : Nat) (N : NetD), (∀ x ∈ N.bys, x.length ≤ m) → ∀ x ∈ (layAlt ty l a b N).bys, x.length ≤ m
  | [], a, b, N, h => by unfold layAlt; exact h
  | x :: r, a, b, N, h => by unfold layAlt; exact layAlt_bys ty m hty r _ _ _ (layE_bys ty m hty x _ _ _ h)
theorem layOne_bys (ty : ByteArray → List Int) (m : Nat) (hty : ∀ nm, (ty nm).length ≤ m) : ∀ (l : List Ex) (a b : Nat) (N : NetD), (∀ x ∈ N.bys, x.length ≤ m) → ∀ x ∈ (layOne ty l a b N).bys, x.length ≤ m
  | [], a, b, N, h => by unfold layOne; exact h
  | x :: r, a, b, N, h => by unfold layOne; exact layE_bys ty m hty x _ _ _ h
end
theorem typesOf_len {g : List Grp} {m : Nat} (h : ∀ x ∈ g, x.types.length ≤ m) (nm : ByteArray) : (typesOf g nm).length ≤ m := by
  induction g with
  | nil => simp [typesOf]
  | cons x r ih =>
    unfold typesOf
    split
    · exact h x (List.mem_cons_self ..)
    · exact ih (fun y hy => h y (List.mem_cons_of_mem _ hy))
structure NetB (N : NetD) : Prop where
  ok : N.Ok
  pos : 0 < N.nx.length
  two : 1 < N.nx.length
  le : N.nx.length ≤ 1048576
  tos : ∀ x ∈ N.tos, x.length ≤ 1048576
  bys : ∀ x ∈ N.bys, x.length ≤ 1048576
theorem netB {g : List Grp} {e : Ex} (hc : e.cnt ≤ 100000) (hg : ∀ x ∈ g, x.types.length ≤ 1048576) : NetB (netOf (typesOf g) e) := by
  have hL := net_laid (typesOf g) e
  have hle : 2 ≤ (netOf (typesOf g) e).nx.length := hL.le
  have hw : (netOf (typesOf g) e).wt + 1 ≤ 2 + 8 * e.cnt := layE_wt (typesOf g) e 0 1 net0
  have hn := (netOf (typesOf g) e).nx_wt
  refine ⟨hL.ok, by omega, by omega, by omega, fun x hx => ?_, layE_bys (typesOf g) 1048576 (typesOf_len hg) e 0 1 net0 (fun x hx => by simp [net0] at hx; rw [hx]; exact Nat.zero_le _)⟩
  obtain ⟨i, hi⟩ := List.getElem?_of_mem hx
  have := NetD.wt_row hi
  omega
theorem run_acc {g : List Grp} {e : Ex} {word : List Int} {k : Nat} {out : List Bool} (hc : regCheck e g = 0) (h : RunR (netOf (typesOf g) e) word k out) : regAccepts e g word = (decide (k = word.length) && out.getD 1 false) ∧ regBegins e g word = k := by
  have hl := check_live hc
  have hacc : regAccepts e g word = true ↔ Rch (netOf (typesOf g) e).E 0 word 1 := by
    rw [accepts_iff, net_word]
    exact ⟨fun h => (acc_lang hc word).1 h.2, fun h => ⟨hc, (acc_lang hc word).2 h⟩⟩
  constructor
  · rw [Bool.eq_iff_iff, hacc, Bool.and_eq_true, decide_eq_true_eq]
    constructor
    · intro hr
      by_cases hk : k = word.length
      · refine ⟨hk, (h.plc.iff 1).2 ?_⟩
        rw [hk, List.take_length]
        exact hr
      · exfalso
        have hlt : k < word.length := by have := h.le; omega
        obtain ⟨r, h1, _⟩ := hr.split (word.take (k + 1)) (word.drop (k + 1)) (List.take_append_drop _ _).symm
        exact h.stop hlt ⟨r, h1⟩
    · rintro ⟨hk, ho⟩
      have := (h.plc.iff 1).1 ho
      rw [hk, List.take_length] at this
      exact this
  · have e1 : regBegins e g word = (regRun e g word).2 := by unfold regBegins; rw [if_pos hc]
    rw [e1]
    refine run_eq hc word k h.le ((live_lang hc _).2 ((net_live _ e hl _).1 h.live)) (fun hlt hL => h.stop hlt ((net_live _ e hl _).2 ((live_lang hc _).1 hL)))
theorem Rp.row_here {α : Type} {d : Rp α} {w : World} {F : Nat → Prop} {A : Option Addr} {xs : List α} (h : d.row w F A xs) : d.row w (fun k => k < w.heap.size) A xs := Rp.row_move (fun _ _ hl => ⟨hl, hl, rfl⟩) h
theorem check_cnt {g : List Grp} {e : Ex} (h : regCheck e g = 0) : e.cnt ≤ 200 := by
  unfold regCheck at h
  by_cases h0 : exprCheck e = 0
  · unfold exprCheck at h0
    split at h0
    · cases h0
    · omega
  · exfalso; revert h; simp [h0]
/-- The net of a right tree, made. -/
theorem made6 {w : World} {F G : Nat → Prop} {A Ag : Option Addr} {c cg : Nat} {e : Ex} {g : List Grp} (hr : exR.row w F A e.l) (hgr : grpR.row w G Ag g) (hc : regCheck e g = 0) (hgl : g.length ≤ 1048576) :
    Calls Tryz.prog 134 #[e.val A c, .slice Ag g.length cg] w fun r w' => (∃ nb, r = .returned (.pointer (some ⟨nb, 0, none⟩)) ∧ NetV w' nb (netOf (typesOf g) e)) ∧ Pure w w' :=
  made_calls (Rp.row_here hr) (Rp.row_here hgr) (fun _ h => h) (fun _ h => h) (check_live hc) (by have := check_cnt hc; omega) hgl
set_option maxRecDepth 100000 in
set_option maxHeartbeats 4000000 in
theorem accepts6_calls {F G H : Nat → Prop} {A B Aw : Option Addr} {c d cw : Nat} {e : Ex} {g : List Grp} {word : List Int} {w : World} (hr : exR.row w F A e.l) (hg : grpR.row w G B g) (hw : intR.row w H Aw word) (hb : e.wt ≤ 1048576 * 4) (hgl : g.length ≤ 1048576) (hgt : ∀ x ∈ g, x.types.length ≤ 1048576) (hwl : word.length ≤ 1048576 * 4) :
    Calls Tryz.prog 70 #[e.val A c, .slice B g.length d, .slice Aw word.length cw] w fun r w' => r = .returned (.bool (regAccepts e g word)) ∧ Pure w w' := by
  have HCK := As.mk (fun W (hu : Pure w W) => regCheck6_calls (c := c) (d := d) (Rp.row_pure hr hu) (Rp.row_pure hg hu) hb hgl hgt)
  have HMD := As.mk (fun W (hu : Pure w W) (hc : regCheck e g = 0) => made6 (c := c) (cg := d) (Rp.row_pure hr hu) (Rp.row_pure hg hu) hc hgl)
  have HNB := As.mk (fun (hc : regCheck e g = 0) => netB (g := g) (e := e) (by have := check_cnt hc; omega) hgt)
  have HRN := As.mk (fun (hc : regCheck e g = 0) (k : Nat) (out : List Bool) (h : RunR (netOf (typesOf g) e) word k out) => run_acc hc h)
  have HF := As.mk (show regCheck e g ≠ 0 → regAccepts e g word = false from fun h => by unfold regAccepts; simp [h])
  have HW := As.mk hw
  clear hr hg hw hgt
  obtain ⟨k0, nm, l⟩ := e
  show Calls Tryz.prog 70 #[.agg #[.int .i64 k0, .string nm, .slice A l.length c], .slice B g.length d, .slice Aw word.length cw] w _
  generalize hN : netOf (typesOf g) (.mk k0 nm l) = N at *
  generalize regAccepts (.mk k0 nm l) g word = acc at *
  generalize regBegins (.mk k0 nm l) g word = beg at *
  unfold Ex.val at *
  generalize hrc : regCheck (.mk k0 nm l) g = rc at *
  clear hrc hN
  have hbx := BoxE.new w k0 nm l.length A c 92
  by_cases h0 : rc = 0
  · subst h0
    have HNB2 := As.mk (HNB.out rfl)
    have HMD2 := As.mk (fun W (hu : Pure w W) => HMD.out W hu rfl)
    have HRN2 := As.mk (HRN.out rfl)
    clear HNB HMD HRN HF
    go_enter Tryz.func70, Tryz.ntmps70
    go_wp2_with (go_at_call 133; refine (HCK.out _ (Upd.alloc1 _ _ _)).mono ?_; rintro e w1 ⟨rfl, hu⟩; have HU1 := As.mk hu; clear hu; apply As.out)
    refine ⟨?_⟩
    obtain ⟨q0, q1, q2, q3⟩ := hbx.pure HU1.out
    have HP1 : As (Pure w w1) := ⟨(Upd.alloc1 _ _ _).trans HU1.out (fun _ _ h => h)⟩
    go_wp2_with (first | (go_at_call 135; refine (run6_calls HNV.out HNB2.out.ok HNB2.out.pos HNB2.out.le HNB2.out.tos HNB2.out.bys (Rp.row_pure HW.out HP2.out) hwl).mono ?_; rintro r w3 ⟨⟨gb, cap, out, k, rfl, ho, hrr⟩, hu⟩; have HO := As.mk ho; have HRR := As.mk hrr; have HU3 := As.mk hu; have hk := hrr.le; clear ho hrr hu; apply As.out) | (go_at_call 134; refine (HMD2.out _ HP1.out).mono ?_; rintro e w2 ⟨⟨nb, rfl, hnv⟩, hu⟩; have HNV := As.mk hnv; have HP2 := As.mk (HP1.out.trans hu (fun _ _ h => h)); clear hu hnv))
    refine ⟨?_⟩
    obtain ⟨b1, hb1⟩ : ∃ b, out[1]? = some b := ⟨_, List.getElem?_eq_getElem (by rw [HRR.out.plc.len]; exact HNB2.out.two)⟩
    obtain ⟨u0, u1⟩ := bool_cell2 HO.out HRR.out.plc.len hb1
    have h11 : (1 : Int) < (N.nx.length : Int) := by have := HNB2.out.two; omega
    have HA := As.mk (HRN2.out k out HRR.out).1
    have HB1 := As.mk (getD_of (d := false) hb1)
    clear hb1
    by_cases hkl : k = word.length
    · subst hkl
      go_wp2
      go_ret
      exact ⟨by rw [HA.out, HB1.out]; simp, HP2.out.trans HU3.out (fun _ _ h => h)⟩
    · have hki : ¬ ((k : Int) = (word.length : Int)) := by omega
      have HA2 : As (acc = false) := ⟨by rw [HA.out]; simp [hkl]⟩
      clear hkl
      go_wp2
      go_ret
      exact ⟨by rw [HA2.out]; rfl, HP2.out.trans HU3.out (fun _ _ h => h)⟩
  · have f0 : (rc != 0) = true := by simpa using h0
    have HF2 := As.mk (HF.out h0)
    clear h0
    go_enter Tryz.func70, Tryz.ntmps70
    go_wp2_with (go_at_call 133; refine (HCK.out _ (Upd.alloc1 _ _ _)).mono ?_; rintro e w1 ⟨rfl, hu⟩; have HU1 := As.mk hu; clear hu)
    go_ret
    exact ⟨by rw [HF2.out]; rfl, (Upd.alloc1 _ _ _).trans HU1.out (fun _ _ h => h)⟩
set_option maxRecDepth 100000 in
set_option maxHeartbeats 4000000 in
theorem begins6_calls {F G H : Nat → Prop} {A B Aw : Option Addr} {c d cw : Nat} {e : Ex} {g : List Grp} {word : List Int} {w : World} (hr : exR.row w F A e.l) (hg : grpR.row w G B g) (hw : intR.row w H Aw word) (hb : e.wt ≤ 1048576 * 4) (hgl : g.length ≤ 1048576) (hgt : ∀ x ∈ g, x.types.length ≤ 1048576) (hwl : word.length ≤ 1048576 * 4) :
    Calls Tryz.prog 132 #[e.val A c, .slice B g.length d, .slice Aw word.length cw] w fun r w' => r = .returned (.int .i64 (regBegins e g word : Nat)) ∧ Pure w w' := by
  have HCK := As.mk (fun W (hu : Pure w W) => regCheck6_calls (c := c) (d := d) (Rp.row_pure hr hu) (Rp.row_pure hg hu) hb hgl hgt)
  have HMD := As.mk (fun W (hu : Pure w W) (hc : regCheck e g = 0) => made6 (c := c) (cg := d) (Rp.row_pure hr hu) (Rp.row_pure hg hu) hc hgl)
  have HNB := As.mk (fun (hc : regCheck e g = 0) => netB (g := g) (e := e) (by have := check_cnt hc; omega) hgt)
  have HRN := As.mk (fun (hc : regCheck e g = 0) (k : Nat) (out : List Bool) (h : RunR (netOf (typesOf g) e) word k out) => run_acc hc h)
  have HF := As.mk (show regCheck e g ≠ 0 → regBegins e g word = 0 from fun h => by unfold regBegins; rw [if_neg h])
  have HW := As.mk hw
  clear hr hg hw hgt
  obtain ⟨k0, nm, l⟩ := e
  show Calls Tryz.prog 132 #[.agg #[.int .i64 k0, .string nm, .slice A l.length c], .slice B g.length d, .slice Aw word.length cw] w _
  generalize hN : netOf (typesOf g) (.mk k0 nm l) = N at *
  generalize regAccepts (.mk k0 nm l) g word = acc at *
  generalize regBegins (.mk k0 nm l) g word = beg at *
  unfold Ex.val at *
  generalize hrc : regCheck (.mk k0 nm l) g = rc at *
  clear hrc hN
  have hbx := BoxE.new w k0 nm l.length A c 92
  by_cases h0 : rc = 0
  · subst h0
    have HNB2 := As.mk (HNB.out rfl)
    have HMD2 := As.mk (fun W (hu : Pure w W) => HMD.out W hu rfl)
    have HRN2 := As.mk (HRN.out rfl)
    clear HNB HMD HRN HF
    go_enter Tryz.func132, Tryz.ntmps132
    go_wp2_with (go_at_call 133; refine (HCK.out _ (Upd.alloc1 _ _ _)).mono ?_; rintro e w1 ⟨rfl, hu⟩; have HU1 := As.mk hu; clear hu; apply As.out)
    refine ⟨?_⟩
    obtain ⟨q0, q1, q2, q3⟩ := hbx.pure HU1.out
    have HP1 : As (Pure w w1) := ⟨(Upd.alloc1 _ _ _).trans HU1.out (fun _ _ h => h)⟩
    go_wp2_with (first | (go_at_call 135; refine (run6_calls HNV.out HNB2.out.ok HNB2.out.pos HNB2.out.le HNB2.out.tos HNB2.out.bys (Rp.row_pure HW.out HP2.out) hwl).mono ?_; rintro r w3 ⟨⟨gb, cap, out, k, rfl, ho, hrr⟩, hu⟩; have HRR := As.mk hrr; have HU3 := As.mk hu; have hk := hrr.le; clear ho hrr hu) | (go_at_call 134; refine (HMD2.out _ HP1.out).mono ?_; rintro e w2 ⟨⟨nb, rfl, hnv⟩, hu⟩; have HNV := As.mk hnv; have HP2 := As.mk (HP1.out.trans hu (fun _ _ h => h)); clear hu hnv))
    go_ret
    exact ⟨by rw [(HRN2.out _ _ HRR.out).2]; rfl, HP2.out.trans HU3.out (fun _ _ h => h)⟩
  · have f0 : (rc != 0) = true := by simpa using h0
    have HF2 := As.mk (HF.out h0)
    clear h0
    go_enter Tryz.func132, Tryz.ntmps132
    go_wp2_with (go_at_call 133; refine (HCK.out _ (Upd.alloc1 _ _ _)).mono ?_; rintro e w1 ⟨rfl, hu⟩; have HU1 := As.mk hu; clear hu)
    go_ret
    exact ⟨by rw [HF2.out]; rfl, (Upd.alloc1 _ _ _).trans HU1.out (fun _ _ h => h)⟩
end Go.Proofs.YtofjodppljnlaaaGreatDoor
namespace Go.Proofs.YtofjodppljnlaaaGreatDoor
open Go.RowKit
set_option linter.unusedVariables false
set_option linter.unusedSimpArgs false
/-- What a place around may be. -/
def InP (l : List Tok) (n : Int) : Prop := n < 0 ∨ ∃ (j k : Nat) (y : Tok), n = (j : Int) ∧ l[j]? = some y ∧ k < 7 ∧ y.t = ((k + 1 : Nat) : Int)
theorem rule6_calls {w : World} {cb : Nat} {F : Nat → Prop} {A : Option Addr} {c : Nat} {l : List Tok} (h : H6 w cb) (hr : tokR.row w F A l) {n : Int} (hn : InP l n) : Calls Tryz.prog 78 #[.pointer (some ⟨cb, 0, none⟩), .slice A l.length c, .int .i64 n] w fun r w' => (∃ A1 c1, r = .returned ((rule6 l n).2.val A1 c1) ∧ exR.row w' AnyB A1 (rule6 l n).2.l) ∧ Pure w w' := by
  unfold rule6
  by_cases h0 : n < 0
  · rw [if_pos h0, show (ruleOf houseRules 0).2 = houseE0 from rfl]
    exact rule6_whole h h0
  · rw [if_neg h0]
    rcases hn with h1 | ⟨j, k, y, rfl, hy, hk, hyt⟩
    · exact absurd h1 h0
    · obtain ⟨x, e, _, he, hR⟩ := h6_at k hk
      have : (ruleOf houseRules (tyAt l (j : Int))).2 = e := by
        unfold tyAt
        rw [Int.toNat_natCast, hy]
        show (ruleOf houseRules y.t).2 = e
        rw [hyt, rule_get hR]
      rw [this]
      exact rule6_in h hr hy hk hyt he
theorem token6_calls {w : World} {cb : Nat} {F : Nat → Prop} {A : Option Addr} {c : Nat} {l : List Tok} (h : H6 w cb) (hr : tokR.row w F A l) {i : Nat} {x : Tok} (hx : l[i]? = some x) {n : Int} (hn : InP l n) : Calls Tryz.prog 131 #[.pointer (some ⟨cb, 0, none⟩), .slice A l.length c, .int .i64 i, .int .i64 n] w fun r w' => r = .returned (.bool (token6 (specAt l n) x)) ∧ Pure w w' := by
  by_cases hk : x.k = 0
  · unfold specAt
    by_cases h0 : n < 0
    · rw [if_pos h0]
      exact token6_rune_out hr hx hk h0
    · rw [if_neg h0]
      rcases hn with h1 | ⟨j, k, y, rfl, hy, _, _⟩
      · exact absurd h1 h0
      · have : tyAt l (j : Int) = y.t := by unfold tyAt; rw [Int.toNat_natCast, hy]; rfl
        rw [this]
        exact token6_rune_in h hr hx hk hy
  · exact token6_else h hr hx hk
theorem rule_wt (t : Int) : (ruleOf houseRules t).2.wt ≤ 1048576 * 4 := by
  obtain ⟨i, hi, h⟩ := house_rule t
  rw [h]
  have h : ((List.range 9).all fun i => decide ((ruleOf houseRules (i : Int)).2.wt ≤ 1048576 * 4)) = true := by kernel_rfl
  simpa using List.all_eq_true.1 h i (List.mem_range.2 hi)
theorem rule6_wt (l : List Tok) (n : Int) : (rule6 l n).2.wt ≤ 1048576 * 4 := by
  unfold rule6
  split <;> exact rule_wt _
theorem at_in6 {l : List Tok} {k : Nat} (hk : k ≤ l.length) {top : Lev} {below : List Lev} (h : hRun hTop [] (l.take k) = some (top, below)) : InP l (aroundL l k) ∧ ∃ a : Nat, aroundL l k = (a : Int) - 1 ∧ a ≤ k := by
  have HL := run_lv hk h
  unfold aroundL
  rcases HL.inv with ⟨h1, _, _⟩ | ⟨j, yt, y, h1, hy, hy1, hyt, hyt1, hR, hj, h3⟩
  · rw [h1]
    exact ⟨.inl (by omega), 0, by omega, by omega⟩
  · rw [h1]
    have h8 : yt < 8 := by have := (List.getElem?_eq_some_iff.1 hR).1; rw [house_len] at this; exact this
    exact ⟨.inr ⟨j, yt - 1, y, rfl, hy, by omega, by rw [hyt]; congr 1; omega⟩, j + 1, by omega, by omega⟩
set_option maxRecDepth 100000 in
set_option maxHeartbeats 4000000 in
theorem one6_shut {w : World} {cb : Nat} {F : Nat → Prop} {A : Option Addr} {c : Nat} {l : List Tok} (h : H6 w cb) (hr : tokR.row w F A l) (hb : l.length ≤ 2048) (hlc : l.length ≤ c) {k : Nat} {x : Tok} (hx : l[k]? = some x) (h2 : x.k = 2) {top : Lev} {below : List Lev} (hrun : hRun hTop [] (l.take k) = some (top, below)) :
    Calls Tryz.prog 69 #[.pointer (some ⟨cb, 0, none⟩), .slice A l.length c, .int .i64 k] w fun r w' => r = .returned (.bool (one6 l k x)) ∧ Pure w w' := by
  have hk := (List.getElem?_eq_some_iff.1 hx).1
  obtain ⟨hin, a, ha, hak⟩ := at_in6 (by omega) hrun
  unfold one6
  rw [if_pos h2]
  have HAR := As.mk (around4_calls (c := c) (at' := (k : Int)) hr (by omega) hlc)
  have HWD := As.mk (fun W (hu : Pure w W) => word6_calls (c := c) (a := a) (b := k) (i := aroundL l k) (Rp.row_pure hr hu) (by omega) (by omega) hak ha)
  have HRU := As.mk (fun W (hu : Pure w W) => rule6_calls (c := c) (h.pure hu) (Rp.row_pure hr hu) hin)
  obtain ⟨bt, ot, rfl, _, hbt, q0, q1, q2, q3⟩ := tok_at hr hx
  obtain ⟨AW, cW, AL, cL, AE, cE, AG, cG, hcb, c0, c1, c2, c3, c4, c5, _, _, _, hg⟩ := h.cells
  have HG := As.mk hg
  have HOK := As.mk (And.intro house_ok.gl house_ok.gt)
  have HEW := As.mk (rule6_wt l (aroundL l k))
  generalize houseGroups = gs at *
  generalize (rule6 l (aroundL l k)).2 = e at *
  generalize wordL l (aroundL l k) k = wd at *
  generalize aroundL l k = n at *
  rw [h2] at q0
  have hil : (k : Int) < (l.length : Int) := by omega
  clear hr hx h2 hrun h hg ha hin c0 c1 c2 c3 c4 q1 q2 q3
  go_enter Tryz.func69, Tryz.ntmps69
  go_wp2_with (first | (go_at_call 71; refine (HWD.out _ HU1.out).mono ?_; rintro r w2 ⟨v, rfl, ho, hwl, hu⟩; have HO := As.mk ho; have HWL := As.mk hwl; have HU2 := As.mk (HU1.out.trans hu (fun _ _ h => h)); clear ho hu hwl; apply As.out) | (go_at_call 74; refine HAR.out.mono ?_; rintro r w1 ⟨rfl, hu⟩; have HU1 := As.mk hu; clear hu))
  refine ⟨?_⟩
  obtain ⟨Av, cv, rfl, _, hrow⟩ := Rp.own_slice HO.out
  have HW := As.mk (Rp.row_here hrow)
  clear hrow
  have q0' := (HU2.out.cell hbt (fun h => h)).trans q0
  have hbt' := Nat.lt_of_lt_of_le hbt HU2.out.size
  have HS : As (∀ v, Pure w v → v.cell? ⟨cb, 5, none⟩ = some (.slice AG gs.length cG)) := ⟨fun v hu => (hu.cell hcb (fun h => h)).trans c5⟩
  have HUD := As.mk HU2.out.drew
  have HWD2 := As.mk (Rp.row_pure HW.out (Upd.refl (fun _ => False) _).drew)
  clear c5 q0
  go_wp2
  refine wp_region_T (P := Tryz.prog) (fun v => v.cell? ⟨cb, 5, none⟩ = some (.slice AG gs.length cG)) 10 (by kernel_rfl) ?_ (fun hHeld => ?_)
  · first | exact HS.out _ HU4.out | exact HS.out _ HU3.out | exact HS.out _ HUD.out
  refine zT 0 ?_
  (try simp only [Act.put, sA, sB, sC])
  refine zT 1 ?_
  (try simp only [Act.put, sA, sB, sC])
  refine zT 2 ?_
  (try simp only [Act.put, sA, sB, sC])
  refine zT 4 ?_
  (try simp only [Act.put, sA, sB, sC])
  refine zT 5 ?_
  (try simp only [Act.put, sA, sB, sC])
  refine zT 6 ?_
  (try simp only [Act.put, sA, sB, sC])
  refine zT 7 ?_
  (try simp only [Act.put, sA, sB, sC])
  refine zT 8 ?_
  (try simp only [Act.put, sA, sB, sC])
  refine oT 3 (fun K hK => ?_)
  go_simp
  (go_at_call 78; refine (HRU.out _ HUD.out).mono ?_; rintro r w3 ⟨⟨A1, c1, rfl, hrw⟩, hu⟩; have HX := As.mk hrw; have HP3 := As.mk hu; have HU3 := As.mk (HUD.out.trans hu (fun _ _ h => h)); clear hrw hu)
  refine hK.out _ _ (fun _ => by first | exact HS.out _ HU4.out | exact HS.out _ HU3.out | exact HS.out _ HUD.out) (fun hHeld => ?_)
  replace hHeld := hHeld (by decide)
  clear hK K
  (try simp only [Act.put, sA, sB, sC])
  refine oT 9 (fun K hK => ?_)
  go_simp
  (go_at_call 70; refine (accepts6_calls HX.out (Rp.row_pure HG.out HU3.out) (Rp.row_pure HWD2.out HP3.out) HEW.out HOK.out.1 HOK.out.2 (by have := HWL.out; omega)).mono ?_; rintro r w4 ⟨rfl, hu⟩; have HU4 := As.mk (HU3.out.trans hu (fun _ _ h => h)); clear hu)
  refine hK.out _ _ (fun _ => by first | exact HS.out _ HU4.out | exact HS.out _ HU3.out | exact HS.out _ HUD.out) (fun hHeld => ?_)
  replace hHeld := hHeld (by decide)
  clear hK K
  (try simp only [Act.put, sA, sB, sC])
  refine oT 10 (fun K hK => ?_)
  go_simp
  refine hK.out _ _ (fun h => absurd rfl h) (fun hHeld => ?_)
  clear hK K
  (try simp only [Act.put, sA, sB, sC])
  refine wpAnyT_done (by kernel_rfl) ?_ _
  go_wp2
  go_ret
  exact ⟨rfl, HU4.out⟩
set_option maxRecDepth 100000 in
set_option maxHeartbeats 4000000 in
theorem one6_more {w : World} {cb : Nat} {F : Nat → Prop} {A : Option Addr} {c : Nat} {l : List Tok} (h : H6 w cb) (hr : tokR.row w F A l) (hb : l.length ≤ 2048) (hlc : l.length ≤ c) {k : Nat} {x : Tok} (hx : l[k]? = some x) (h2 : x.k ≠ 2) {top : Lev} {below : List Lev} (hrun : hRun hTop [] (l.take k) = some (top, below)) :
    Calls Tryz.prog 69 #[.pointer (some ⟨cb, 0, none⟩), .slice A l.length c, .int .i64 k] w fun r w' => r = .returned (.bool (one6 l k x)) ∧ Pure w w' := by
  have hk := (List.getElem?_eq_some_iff.1 hx).1
  obtain ⟨hin, a, ha, hak⟩ := at_in6 (by omega) hrun
  unfold one6
  rw [if_neg h2]
  have HAR := As.mk (around4_calls (c := c) (at' := (k : Int)) hr (by omega) hlc)
  have HWD := As.mk (fun W (hu : Pure w W) => word6_calls (c := c) (a := a) (b := k) (i := aroundL l k) (Rp.row_pure hr hu) (by omega) (by omega) hak ha)
  have HRU := As.mk (fun W (hu : Pure w W) => rule6_calls (c := c) (h.pure hu) (Rp.row_pure hr hu) hin)
  have HTK := As.mk (fun W (hu : Pure w W) => token6_calls (c := c) (h.pure hu) (Rp.row_pure hr hu) hx hin)
  obtain ⟨bt, ot, rfl, _, hbt, q0, q1, q2, q3⟩ := tok_at hr hx
  obtain ⟨AW, cW, AL, cL, AE, cE, AG, cG, hcb, c0, c1, c2, c3, c4, c5, _, _, _, hg⟩ := h.cells
  have HG := As.mk hg
  have HOK := As.mk (And.intro house_ok.gl house_ok.gt)
  have HEW := As.mk (rule6_wt l (aroundL l k))
  generalize token6 (specAt l (aroundL l k)) x = tv at *
  generalize houseGroups = gs at *
  generalize (rule6 l (aroundL l k)).2 = e at *
  generalize wordL l (aroundL l k) k = wd at *
  generalize aroundL l k = n at *
  have hil : (k : Int) < (l.length : Int) := by omega
  have e2 : (x.k == 2) = false := by simp [h2]
  clear hr hx h2 hrun h hg ha hin c0 c1 c2 c3 c4 q2 q3
  go_enter Tryz.func69, Tryz.ntmps69
  go_wp2_with (first | (go_at_call 71; refine (HWD.out _ HU1.out).mono ?_; rintro r w2 ⟨v, rfl, ho, hwl, hu⟩; have HO := As.mk ho; have HWL := As.mk hwl; have HU2 := As.mk (HU1.out.trans hu (fun _ _ h => h)); clear ho hu hwl; apply As.out) | (go_at_call 74; refine HAR.out.mono ?_; rintro r w1 ⟨rfl, hu⟩; have HU1 := As.mk hu; clear hu))
  refine ⟨?_⟩
  have q0' := (HU2.out.cell hbt (fun h => h)).trans q0
  have hbt' := Nat.lt_of_lt_of_le hbt HU2.out.size
  have HQ1 := As.mk q1
  have HC5 := As.mk c5
  clear q0 q1 c5
  cases tv with
  | false =>
    go_wp2_with (go_at_call 131; refine (HTK.out _ HU2.out).mono ?_; rintro r w3 ⟨rfl, hu⟩; have HU3 := As.mk (HU2.out.trans hu (fun _ _ h => h)); clear hu)
    go_ret
    exact ⟨rfl, HU3.out⟩
  | true =>
    go_wp2_with (go_at_call 131; refine (HTK.out _ HU2.out).mono ?_; rintro r w3 ⟨rfl, hu⟩; have HU3 := As.mk (HU2.out.trans hu (fun _ _ h => h)); have HO3 := As.mk (Rp.own_upd HO.out hu (fun _ _ _ h => h)); clear hu; apply As.out)
    refine ⟨?_⟩
    have r1 := (HU3.out.cell hbt (fun h => h)).trans HQ1.out
    have hbt3 := Nat.lt_of_lt_of_le hbt HU3.out.size
    clear q0'
    go_wp2_with (at_builtin; refine Rp.own_append intRS HO3.out x.t [.int .i64 x.t] rfl (Fp := fun _ => False) (G := fun q => w.heap.size ≤ q) (fun _ h => h.elim) (fun _ h _ => by have := HU1.out.size; omega) (fun q hq => by have := HU3.out.size; omega) rfl _ _ 83 _ 8 rfl Tryz.underlying83 int_infoS rfl (by decide) (by decide) rfl (by simp [Act.eval]) (by have := HWL.out; omega) ?_; intro v1 w4 ho1 hu1; have HO4 := As.mk ho1; have HU4 := As.mk (HU3.out.trans hu1 (fun q hq h => by have := (Rp.own_block_lt HO3.out q h).1; have := HU1.out.size; omega)); clear ho1 hu1; apply As.out)
    refine ⟨?_⟩
    obtain ⟨Av, cv, rfl, _, hrow⟩ := Rp.own_slice HO4.out
    have HW := As.mk (Rp.row_pure (Rp.row_here hrow) (Upd.refl (fun _ => False) _).drew)
    clear hrow
    have HS : As (∀ v, Pure w v → v.cell? ⟨cb, 5, none⟩ = some (.slice AG gs.length cG)) := ⟨fun v hu => (hu.cell hcb (fun h => h)).trans HC5.out⟩
    have HUD := As.mk HU4.out.drew
    have HLN : As ((wd ++ [x.t]).length ≤ 1048576 * 4) := ⟨by have := HWL.out; rw [List.length_append, List.length_singleton]; omega⟩
    have HLE : As ((wd ++ [x.t]).length = wd.length + 1) := ⟨by simp⟩
    generalize hwe : wd ++ [x.t] = wd2 at *
    have HWE := As.mk hwe
    clear hwe
    clear HC5 r1
    go_wp2
    refine wp_region_T (P := Tryz.prog) (fun v => v.cell? ⟨cb, 5, none⟩ = some (.slice AG gs.length cG)) 13 (by kernel_rfl) ?_ (fun hHeld => ?_)
    · first | exact HS.out _ HU6.out | exact HS.out _ HU5.out | exact HS.out _ HUD.out
    refine zT 0 ?_
    (try simp only [Act.put, sA, sB, sC])
    refine zT 1 ?_
    (try simp only [Act.put, sA, sB, sC])
    refine zT 2 ?_
    (try simp only [Act.put, sA, sB, sC])
    refine zT 4 ?_
    (try simp only [Act.put, sA, sB, sC])
    refine zT 5 ?_
    (try simp only [Act.put, sA, sB, sC])
    refine zT 6 ?_
    (try simp only [Act.put, sA, sB, sC])
    refine zT 7 ?_
    (try simp only [Act.put, sA, sB, sC])
    refine zT 8 ?_
    (try simp only [Act.put, sA, sB, sC])
    refine zT 10 ?_
    (try simp only [Act.put, sA, sB, sC])
    refine zT 11 ?_
    (try simp only [Act.put, sA, sB, sC])
    refine oT 3 (fun K hK => ?_)
    go_simp
    (go_at_call 78; refine (HRU.out _ HUD.out).mono ?_; rintro r w5 ⟨⟨A1, c1, rfl, hrw⟩, hu⟩; have HX := As.mk hrw; have HP5 := As.mk hu; have HU5 := As.mk (HUD.out.trans hu (fun _ _ h => h)); clear hrw hu)
    refine hK.out _ _ (fun _ => by first | exact HS.out _ HU6.out | exact HS.out _ HU5.out | exact HS.out _ HUD.out) (fun hHeld => ?_)
    replace hHeld := hHeld (by decide)
    clear hK K
    (try simp only [Act.put, sA, sB, sC])
    refine oT 9 (fun K hK => ?_)
    go_simp
    (go_at_call 132; refine (begins6_calls HX.out (Rp.row_pure HG.out HU5.out) (Rp.row_pure HW.out HP5.out) HEW.out HOK.out.1 HOK.out.2 HLN.out).mono ?_; rintro r w6 ⟨rfl, hu⟩; have HU6 := As.mk (HU5.out.trans hu (fun _ _ h => h)); clear hu)
    refine hK.out _ _ (fun _ => by first | exact HS.out _ HU6.out | exact HS.out _ HU5.out | exact HS.out _ HUD.out) (fun hHeld => ?_)
    replace hHeld := hHeld (by decide)
    clear hK K
    (try simp only [Act.put, sA, sB, sC])
    refine zT 12 ?_
    (try simp only [Act.put, sA, sB, sC])
    refine oT 13 (fun K hK => ?_)
    go_simp
    refine hK.out _ _ (fun h => absurd rfl h) (fun hHeld => ?_)
    clear hK K
    (try simp only [Act.put, sA, sB, sC])
    refine wpAnyT_done (by kernel_rfl) ?_ _
    go_wp2
    go_ret
    refine ⟨?_, HU6.out⟩
    rw [← HLE.out]
    have hd : ((regBegins e gs wd2 : Int) == (wd2.length : Int)) = decide (regBegins e gs wd2 = wd2.length) := by rw [Bool.eq_iff_iff]; simp; omega
    rw [HWE.out, Bool.true_and, ← hd]
    rfl
theorem one6_calls {w : World} {cb : Nat} {F : Nat → Prop} {A : Option Addr} {c : Nat} {l : List Tok} (h : H6 w cb) (hr : tokR.row w F A l) (hb : l.length ≤ 2048) (hlc : l.length ≤ c) {k : Nat} {x : Tok} (hx : l[k]? = some x) {top : Lev} {below : List Lev} (hrun : hRun hTop [] (l.take k) = some (top, below)) :
    Calls Tryz.prog 69 #[.pointer (some ⟨cb, 0, none⟩), .slice A l.length c, .int .i64 k] w fun r w' => r = .returned (.bool (one6 l k x)) ∧ Pure w w' := by
  by_cases h2 : x.k = 2
  · exact one6_shut h hr hb hlc hx h2 hrun
  · exact one6_more h hr hb hlc hx h2 hrun
end Go.Proofs.YtofjodppljnlaaaGreatDoor
namespace Go.Proofs.YtofjodppljnlaaaGreatDoor
open Go.RowKit
set_option linter.unusedVariables false
set_option linter.unusedSimpArgs false
theorem run_next {l : List Tok} {k : Nat} {x : Tok} {top : Lev} {below : List Lev} (hx : l[k]? = some x) (hrun : hRun hTop [] (l.take k) = some (top, below)) (hf : (fcGo k below.length (l.drop k)).2 = 0) (hone : one6 l k x = true) :
    ∃ t z, hRun hTop [] (l.take (k + 1)) = some (t, z) ∧ (fcGo (k + 1) z.length (l.drop (k + 1))).2 = 0 := by
  rw [drop_cons hx] at hf
  generalize l.drop (k + 1) = r at *
  have hf' : fcGo k below.length (x :: r) = ((fcGo k below.length (x :: r)).1, 0) := by rw [← hf]
  rw [one_step hx (fc_right hf') hrun] at hone
  have hrn : ∀ (t : Lev) (z : List Lev), hRun top below [x] = some (t, z) → hRun hTop [] (l.take (k + 1)) = some (t, z) := by
    intro t z e
    rw [List.take_add_one, hx]
    unfold hRun at hrun e ⊢
    rw [ckRun_app, hrun]
    exact e
  by_cases h2 : x.k = 2
  · rw [if_pos h2] at hone
    obtain ⟨hn, hf2⟩ := fc_close hf' h2
    cases below with
    | nil => simp at hn
    | cons p q =>
      refine ⟨p, q, hrn p q ?_, ?_⟩
      · unfold hRun
        rw [ckRun_cons, if_pos h2]
        simp only
        rw [if_pos hone]
        rfl
      · have : (p :: q).length - 1 = q.length := by simp
        rw [this] at hf2
        rw [hf2]
  · rw [if_neg h2] at hone
    by_cases h1 : x.k = 1
    · obtain ⟨_, hf2⟩ := fc_open hf' h1
      refine ⟨(ruleOf houseRules x.t, []), (top.1, top.2 ++ [x.t]) :: below, hrn _ _ ?_, by rw [List.length_cons, hf2]⟩
      unfold hRun
      rw [ckRun_cons, if_neg h2, if_pos hone, if_pos h1]
      rfl
    · have hf2 := fc_else hf' h1 h2
      refine ⟨(top.1, top.2 ++ [x.t]), below, hrn _ _ ?_, by rw [hf2]⟩
      unfold hRun
      rw [ckRun_cons, if_neg h2, if_pos hone, if_neg h1]
      rfl
/-- What the loop keeps: the run so far. -/
def RunTo (l : List Tok) (k : Nat) : Prop := ∃ top below, hRun hTop [] (l.take k) = some (top, below) ∧ (fcGo k below.length (l.drop k)).2 = 0
theorem flat_le {l : List Tok} (hf : (flatCheck l).2 = 0) : l.length ≤ 2048 := by
  apply Nat.le_of_not_lt
  intro h
  unfold flatCheck at hf
  rw [if_pos (by omega)] at hf
  cases hf
theorem flat_go {l : List Tok} (hf : (flatCheck l).2 = 0) : (fcGo 0 0 l).2 = 0 := by
  have := flat_le hf
  unfold flatCheck at hf
  rw [if_neg (by omega)] at hf
  exact hf
set_option maxRecDepth 100000 in
set_option maxHeartbeats 4000000 in
theorem Check6_flat {w : World} {cb : Nat} {F : Nat → Prop} {A : Option Addr} {c : Nat} {l : List Tok} (hr : tokR.row w F A l) (hb : l.length ≤ 1048576 * 4) (hf : (flatCheck l).2 ≠ 0) :
    Calls Tryz.prog 16 #[.pointer (some ⟨cb, 0, none⟩), .slice A l.length c] w fun e w' => e = .returned (.tuple #[.int .i64 (flatCheck l).1, .int .i64 (flatCheck l).2]) ∧ Pure w w' := by
  have HCK := As.mk (Check4_calls (c := c) hr hb)
  have f1 : ((flatCheck l).2 != 0) = true := by simpa using hf
  generalize flatCheck l = fc at *
  obtain ⟨p, q⟩ := fc
  clear hr hf
  go_enter Tryz.func16, Tryz.ntmps16
  go_wp2_with (go_at_call 68; refine HCK.out.mono ?_; rintro r w1 ⟨rfl, hu⟩; have HU1 := As.mk hu; clear hu)
  exact bodyPost_ret (results_tmp2 rfl _ _ _) rfl ⟨rfl, HU1.out⟩
set_option maxRecDepth 100000 in
set_option maxHeartbeats 4000000 in
theorem Check6_main {w : World} {cb : Nat} {F : Nat → Prop} {A : Option Addr} {c : Nat} {l : List Tok} (h : H6 w cb) (hr : tokR.row w F A l) (hlc : l.length ≤ c) (hf : (flatCheck l).2 = 0) :
    Calls Tryz.prog 16 #[.pointer (some ⟨cb, 0, none⟩), .slice A l.length c] w fun e w' => e = .returned (.tuple #[.int .i64 (ck6 l 0 l).1, .int .i64 (ck6 l 0 l).2]) ∧ Pure w w' := by
  have hb := flat_le hf
  have HCK := As.mk (Check4_calls (c := c) hr (by omega))
  have HRT := As.mk (show RunTo l 0 from ⟨hTop, [], rfl, flat_go hf⟩)
  rw [hf] at HCK
  generalize (flatCheck l).1 = p at *
  have HONE := As.mk (fun W (hu : Pure w W) (k : Nat) (x : Tok) (hx : l[k]? = some x) (hrt : RunTo l k) => show Calls Tryz.prog 69 #[.pointer (some ⟨cb, 0, none⟩), .slice A l.length c, .int .i64 k] W _ from by
    obtain ⟨top, below, hrun, _⟩ := hrt
    exact one6_calls (c := c) (h.pure hu) (Rp.row_pure hr hu) hb hlc hx hrun)
  have HNX := As.mk (fun (k : Nat) (x : Tok) (hx : l[k]? = some x) (hrt : RunTo l k) (ho : one6 l k x = true) => show RunTo l (k + 1) from by
    obtain ⟨top, below, hrun, hf⟩ := hrt
    exact run_next hx hrun hf ho)
  have HWD := As.mk (fun W (hu : Pure w W) => word6_calls (c := c) (a := 0) (b := l.length) (i := -1) (Rp.row_pure hr hu) (by omega) (Nat.le_refl _) (Nat.zero_le _) (by omega))
  obtain ⟨AW, cW, AL, cL, AE, cE, AG, cG, hcb, c0, c1, c2, c3, c4, c5, hw0, _, _, hg⟩ := h.cells
  have HAC := As.mk (fun W (hu : Pure w W) (Aw : Option Addr) (cw : Nat) (G : Nat → Prop) (hwl : (wordL l (-1) l.length).length ≤ 1048576 * 4) (hw : intR.row W G Aw (wordL l (-1) l.length)) => accepts6_calls (c := cW) (d := cG) (cw := cw) (Rp.row_pure hw0 hu) (Rp.row_pure hg hu) hw (by have := rule6_wt l (-1); exact this) house_ok.gl house_ok.gt hwl)
  have HE := As.mk (show (ruleOf houseRules 0).2 = houseE0 from rfl)
  have HS : As (∀ v, Pure w v → v.cell? ⟨cb, 0, none⟩ = some (.int .i64 houseE0.k) ∧ v.cell? ⟨cb, 1, none⟩ = some (.string houseE0.name) ∧ v.cell? ⟨cb, 2, none⟩ = some (.slice AW houseE0.l.length cW) ∧ v.cell? ⟨cb, 5, none⟩ = some (.slice AG houseGroups.length cG)) := ⟨fun v hu => ⟨(hu.cell hcb (fun h => h)).trans c0, (hu.cell hcb (fun h => h)).trans c1, (hu.cell hcb (fun h => h)).trans c2, (hu.cell hcb (fun h => h)).trans c5⟩⟩
  have HCK6 := As.mk (show ck6 l 0 (l.drop 0) = ck6 l 0 l from rfl)
  have HC6 := As.mk (fun k x (hx : l[k]? = some x) => show ck6 l k (l.drop k) = if one6 l k x = true then ck6 l (k + 1) (l.drop (k + 1)) else ((k : Int), 9) by rw [drop_cons hx, ck6])
  have HEND := As.mk (show ck6 l l.length (l.drop l.length) = ((l.length : Int), if regAccepts houseE0 houseGroups (wordL l (-1) l.length) = true then (0 : Int) else 9) by rw [List.drop_length, ck6, HE.out])
  generalize ck6 l 0 l = res at *
  generalize houseGroups = gs at *
  generalize houseE0 = e0 at *
  generalize wordL l (-1) l.length = wd at *
  obtain ⟨k0, nm, l0⟩ := e0
  unfold Ex.val at *
  clear h hr hf hw0 hg c0 c1 c2 c3 c4 c5 HE
  go_enter Tryz.func16, Tryz.ntmps16
  go_wp2_with (go_at_call 68; refine HCK.out.mono ?_; rintro r w1 ⟨rfl, hu⟩; have HU1 := As.mk hu; clear hu)
  go_loopg [8] l.length (fun gg i wr => ∃ k : Nat, k + gg = l.length ∧ i = .int .i64 k ∧ As (Pure w wr) ∧ As (RunTo l k) ∧ As (ck6 l k (l.drop k) = res))
  case atStart => exact ⟨0, by omega, rfl, HU1, HRT, HCK6⟩
  case round =>
    clear HRT HCK6 HU1
    obtain ⟨k, hk, rfl, HP, HRT, HRES⟩ := hrel
    by_cases hlt : k < l.length
    · obtain ⟨x, hx⟩ : ∃ x, l[k]? = some x := ⟨_, List.getElem?_eq_getElem hlt⟩
      obtain ⟨g1, rfl⟩ : ∃ m, gk = m + 1 := ⟨gk - 1, by omega⟩
      have HO := As.mk (HONE.out _ HP.out k x hx HRT.out)
      have HN := As.mk (HNX.out k x hx HRT.out)
      have HR2 := HRES.out
      rw [HC6.out k x hx] at HR2
      have HK := As.mk hk
      clear hx hk HRES
      generalize one6 l k x = ob at *
      cases ob with
      | false =>
        have HR3 := As.mk HR2
        clear HR2
        go_wp2_with (go_at_call 69; refine HO.out.mono ?_; rintro r w2 ⟨rfl, hu⟩; have HU2 := As.mk (HP.out.trans hu (fun _ _ h => h)); clear hu)
        exact bodyPost_ret (results_tmp2 rfl _ _ _) rfl ⟨by rw [← HR3.out]; rfl, HU2.out⟩
      | true =>
        have HR3 := As.mk (show ck6 l (k + 1) (l.drop (k + 1)) = res from HR2)
        clear HR2
        go_wp2_with (go_at_call 69; refine HO.out.mono ?_; rintro r w2 ⟨rfl, hu⟩; have HU2 := As.mk (HP.out.trans hu (fun _ _ h => h)); clear hu)
        go_roundg g1
        case measure => omega
        case rel => exact ⟨k + 1, by have := HK.out; omega, by go_num, HU2, ⟨HN.out trivial⟩, HR3⟩
    · obtain rfl : k = l.length := by omega
      have HR3 := As.mk (HEND.out.symm.trans HRES.out)
      have HUD := As.mk HP.out.drew
      clear HRES HRT HC6 HEND HONE HNX
      cases hac : regAccepts (.mk k0 nm l0) gs wd <;> rw [hac] at HAC HR3
      all_goals
        go_wp2
        refine wp_region_held_drew (S := (fun v => v.cell? ⟨cb, 0, none⟩ = some (.int .i64 (Ex.mk k0 nm l0).k) ∧ v.cell? ⟨cb, 1, none⟩ = some (.string (Ex.mk k0 nm l0).name) ∧ v.cell? ⟨cb, 2, none⟩ = some (.slice AW (Ex.mk k0 nm l0).l.length cW) ∧ v.cell? ⟨cb, 5, none⟩ = some (.slice AG gs.length cG))) (by kernel_rfl) ?_ (fun hHeld => ?_)
        · first | exact HS.out _ HU4.out | exact HS.out _ HU3.out | exact HS.out _ HUD.out
        refine zH 0 ?_
        (try simp only [Act.put, sA, sB, sC])
        refine zH 1 ?_
        (try simp only [Act.put, sA, sB, sC])
        refine zH 2 ?_
        (try simp only [Act.put, sA, sB, sC])
        refine zH 3 ?_
        (try simp only [Act.put, sA, sB, sC])
        refine zH 4 ?_
        (try simp only [Act.put, sA, sB, sC])
        refine zH 5 ?_
        (try simp only [Act.put, sA, sB, sC])
        refine zH 6 ?_
        (try simp only [Act.put, sA, sB, sC])
        refine zH 7 ?_
        (try simp only [Act.put, sA, sB, sC])
        refine zH 8 ?_
        (try simp only [Act.put, sA, sB, sC])
        refine zH 9 ?_
        (try simp only [Act.put, sA, sB, sC])
        refine zH 10 ?_
        (try simp only [Act.put, sA, sB, sC])
        refine wpAnyH_ready (rs := [11]) (by kernel_rfl) (by simp) (AllReadyH.cons (o := { dst := (some 41), op := (Go.Op.call { callee := (Go.Callee.value (Go.Operand.func 71)), args := #[(Go.Operand.tmp 38), (Go.Operand.const (Go.Value.int Go.IntKind.i64 (-1))), (Go.Operand.tmp 40)], argTypes := #[22, 3, 3] }), type := 83, pos := "ref.go:177", after := #[{ on := 8, ground := Go.Ground.data }, { on := 10, ground := Go.Ground.data }], guard := none }) rfl (fun K hK => ?_) AllReadyH.nil)
        go_simp
        first | (go_at_call 70; refine (HAC.out _ HU3.out _ _ _ (by have := HWL.out; omega) HRW.out).mono ?_; rintro r w4 ⟨rfl, hu⟩; have HU4 := As.mk (HU3.out.trans hu (fun _ _ h => h)); clear hu) | (go_at_call 71; refine (HWD.out _ HUD.out).mono ?_; rintro r w3 ⟨v, rfl, ho, hwl, hu⟩; have HU3 := As.mk (HUD.out.trans hu (fun _ _ h => h)); obtain ⟨Av, cv, rfl, _, hrow⟩ := Rp.own_slice ho; have HRW := As.mk hrow; have HWL := As.mk hwl; clear ho hwl hu hrow)
        refine hK.out _ _ (by first | exact HS.out _ HU4.out | exact HS.out _ HU3.out | exact HS.out _ HUD.out) (fun hHeld => ?_)
        clear hK K
        (try simp only [Act.put, sA, sB, sC])
        refine wpAnyH_ready (rs := [12]) (by kernel_rfl) (by simp) (AllReadyH.cons (o := { dst := (some 42), op := (Go.Op.call { callee := (Go.Callee.value (Go.Operand.func 70)), args := #[(Go.Operand.tmp 33), (Go.Operand.tmp 37), (Go.Operand.tmp 41)], argTypes := #[92, 86, 83] }), type := 4, pos := "ref.go:177", after := #[{ on := 3, ground := Go.Ground.data }, { on := 7, ground := Go.Ground.data }, { on := 11, ground := Go.Ground.data }, { on := 11, ground := Go.Ground.chain }], guard := none }) rfl (fun K hK => ?_) AllReadyH.nil)
        go_simp
        first | (go_at_call 70; refine (HAC.out _ HU3.out _ _ _ (by have := HWL.out; omega) HRW.out).mono ?_; rintro r w4 ⟨rfl, hu⟩; have HU4 := As.mk (HU3.out.trans hu (fun _ _ h => h)); clear hu) | (go_at_call 71; refine (HWD.out _ HUD.out).mono ?_; rintro r w3 ⟨v, rfl, ho, hwl, hu⟩; have HU3 := As.mk (HUD.out.trans hu (fun _ _ h => h)); obtain ⟨Av, cv, rfl, _, hrow⟩ := Rp.own_slice ho; have HRW := As.mk hrow; have HWL := As.mk hwl; clear ho hwl hu hrow)
        refine hK.out _ _ (by first | exact HS.out _ HU4.out | exact HS.out _ HU3.out | exact HS.out _ HUD.out) (fun hHeld => ?_)
        clear hK K
        (try simp only [Act.put, sA, sB, sC])
        refine zH 13 ?_
        (try simp only [Act.put, sA, sB, sC])
        refine wpAnyH_done (by kernel_rfl) ?_ _
        go_wp2
        exact bodyPost_ret (results_tmp2 rfl _ _ _) rfl ⟨by rw [← HR3.out]; rfl, HU4.out⟩
theorem Check6_calls {w : World} {cb : Nat} {F : Nat → Prop} {A : Option Addr} {c : Nat} {l : List Tok} (h : H6 w cb) (hr : tokR.row w F A l) (hlc : l.length ≤ c) (hb : l.length ≤ 1048576 * 4) :
    Calls Tryz.prog 16 #[.pointer (some ⟨cb, 0, none⟩), .slice A l.length c] w fun e w' => e = .returned (.tuple #[.int .i64 (houseCheck l).1, .int .i64 (houseCheck l).2]) ∧ Pure w w' := by
  rw [← check6_eq]
  unfold check6
  by_cases hf : (flatCheck l).2 = 0
  · rw [if_pos hf]
    exact Check6_main h hr hlc hf
  · rw [if_neg hf]
    exact Check6_flat hr hb hf
end Go.Proofs.YtofjodppljnlaaaGreatDoor
namespace Go.Proofs.YtofjodppljnlaaaGreatDoor
open Go.RowKit
set_option linter.unusedVariables false
set_option linter.unusedSimpArgs false
/-- What Apply, Do of the reference answer. -/
def DocR9 (w : World) (x : List Tok) (e : Int) (r : Ending) (w' : World) : Prop :=
  ((e = 0 ∧ ∃ A c, r = .returned (.tuple #[.slice A x.length c, .int .i64 0]) ∧ x.length ≤ c ∧ tokR.row w' (fun k => w.heap.size ≤ k) A x) ∨ (e ≠ 0 ∧ r = .returned (.tuple #[.slice none 0 0, .int .i64 e]))) ∧ Pure w w'
theorem DocR9.no {w w' : World} {x : List Tok} {e e' : Int} {r : Ending} (he : e = e') (h : e' ≠ 0) (hr : r = .returned (.tuple #[.slice none 0 0, .int .i64 e'])) (hp : Pure w w') : DocR9 w x e r w' := by
  subst he
  exact ⟨.inr ⟨h, hr⟩, hp⟩
/-- What a step's Check and done of the reference answer. -/
structure Dn (w : World) (A : Option Addr) (c : Nat) (l : List Tok) (B : Option Addr) (cb : Nat) (s : StepD) : Prop where
  ck : ∀ W, Pure w W → Calls Tryz.prog 176 #[s.val B cb] W fun r w' => r = .returned (.int .i64 (stepCheck s)) ∧ Pure W w'
  dn : (flatCheck l).2 = 0 → stepCheck s = 0 → s.tt ≤ l.length → ∀ W, Pure w W → Calls Tryz.prog 177 #[.slice A l.length c, s.val B cb] W (Told9 W (stepDo l s))
theorem Dn.pure {w W : World} {A B : Option Addr} {c cb : Nat} {l : List Tok} {s : StepD} (h : Dn w A c l B cb s) (hu : Pure w W) : Dn W A c l B cb s :=
  ⟨fun V hV => h.ck V (hu.trans hV (fun _ _ h => h)), fun h0 h1 h2 V hV => h.dn h0 h1 h2 V (hu.trans hV (fun _ _ h => h))⟩
set_option maxRecDepth 100000 in
set_option maxHeartbeats 4000000 in
theorem Apply9_no {w : World} {F : Nat → Prop} {A B : Option Addr} {c cb : Nat} {l : List Tok} {s : StepD} (hr : tokR.row w F A l) (hb : l.length ≤ 1048576 * 4) (hd : Dn w A c l B cb s) (hno : ¬ ((flatCheck l).2 = 0 ∧ stepCheck s = 0 ∧ s.tt ≤ l.length)) :
    Calls Tryz.prog 147 #[.slice A l.length c, s.val B cb] w (DocR9 w (stepDo l s) (stepErr l s)) := by
  have HF := As.mk (fun W (hu : Pure w W) => Check4_calls (c := c) (Rp.row_pure hr hu) hb)
  have HC := As.mk hd.ck
  have HE := As.mk (show stepErr l s = if (flatCheck l).2 ≠ 0 then (flatCheck l).2 else if stepCheck s ≠ 0 then stepCheck s else if s.tt > l.length then 1 else if (flatCheck (stepDo l s)).2 = 3 then 4 else (flatCheck (stepDo l s)).2 from rfl)
  have HBX := As.mk (heap_alloc_new w (.cells #[.int .i64 s.k, .int .i64 s.fr, .int .i64 s.tt, .int .i64 s.gf, .int .i64 s.gt, .int .i64 s.ins, .slice B s.sl.length cb, .int .i64 s.mark] 46))
  have HNO := As.mk hno
  generalize stepErr l s = se at *
  generalize hfx : (flatCheck (stepDo l s)).2 = fx at *
  clear hfx
  generalize flatCheck l = fl at *
  generalize stepCheck s = sc at *
  generalize stepDo l s = sd at *
  clear hr hd hno
  unfold StepD.val at *
  obtain ⟨f1, f2⟩ := fl
  cases b0 : (f2 == 0)
  · have c0 : (f2 != 0) = true := by simp [bne, b0]
    have HV : As (f2 ≠ 0) := ⟨by simpa using b0⟩
    go_enter Tryz.func147, Tryz.ntmps147
    go_wp2_with (go_at_call 68; refine (HF.out _ (Upd.alloc1 _ _ _)).mono ?_; rintro r w1 ⟨rfl, hu⟩; have HU1 := As.mk ((Upd.alloc1 (fun _ => False) _ _).trans hu (fun _ _ h => h)); clear hu)
    refine bodyPost_ret (results_tmp2 rfl _ _ _) rfl ?_
    exact DocR9.no (by rw [HE.out, if_pos HV.out]) HV.out rfl HU1.out
  · have c0 : (f2 != 0) = false := by simp [bne, b0]
    have HV : As (f2 = 0) := ⟨by simpa using b0⟩
    cases b1 : (sc == 0)
    · have c1 : (sc != 0) = true := by simp [bne, b1]
      have HW : As (sc ≠ 0) := ⟨by simpa using b1⟩
      go_enter Tryz.func147, Tryz.ntmps147
      go_wp2_with (go_at_call 68; refine (HF.out _ (Upd.alloc1 _ _ _)).mono ?_; rintro r w1 ⟨rfl, hu⟩; have HP1 := As.mk hu; clear hu; apply As.out)
      refine ⟨?_⟩
      have hbx := (HP1.out.block w.heap.size (by simp) (fun h => h)).trans HBX.out
      obtain ⟨k0, k1, k2, k3, k4, k5, k6, k7⟩ := cells8 hbx
      have hbl : w.heap.size < w1.heap.size := (Array.getElem?_eq_some_iff.1 hbx).1
      have HU1 := As.mk ((Upd.alloc1 (fun _ => False) _ _).trans HP1.out (fun _ _ h => h))
      clear hbx
      go_wp2_with (go_at_call 176; refine (HC.out _ HU1.out).mono ?_; rintro r w2 ⟨rfl, hu⟩; have HU2 := As.mk (HU1.out.trans hu (fun _ _ h => h)); clear hu)
      refine bodyPost_ret (results_tmp2 rfl _ _ _) rfl ?_
      exact DocR9.no (by rw [HE.out, if_neg (fun h => h HV.out), if_pos HW.out]) HW.out rfl HU2.out
    · have c1 : (sc != 0) = false := by simp [bne, b1]
      have HW : As (sc = 0) := ⟨by simpa using b1⟩
      have HT : As (s.tt > (l.length : Int)) := ⟨by have := HNO.out; have := HV.out; have := HW.out; omega⟩
      have d1 : decide (s.tt > (l.length : Int)) = true := decide_eq_true HT.out
      have d2 : decide ((l.length : Int) < s.tt) = true := d1
      go_enter Tryz.func147, Tryz.ntmps147
      go_wp2_with (go_at_call 68; refine (HF.out _ (Upd.alloc1 _ _ _)).mono ?_; rintro r w1 ⟨rfl, hu⟩; have HP1 := As.mk hu; clear hu; apply As.out)
      refine ⟨?_⟩
      have hbx := (HP1.out.block w.heap.size (by simp) (fun h => h)).trans HBX.out
      obtain ⟨k0, k1, k2, k3, k4, k5, k6, k7⟩ := cells8 hbx
      have hbl : w.heap.size < w1.heap.size := (Array.getElem?_eq_some_iff.1 hbx).1
      have HU1 := As.mk ((Upd.alloc1 (fun _ => False) _ _).trans HP1.out (fun _ _ h => h))
      have HB1 := As.mk hbx
      clear hbx
      go_wp2_with (go_at_call 176; refine (HC.out _ HU1.out).mono ?_; rintro r w2 ⟨rfl, hu⟩; have HP2 := As.mk hu; clear hu; apply As.out)
      refine ⟨?_⟩
      have hbx := (HP2.out.block w.heap.size hbl (fun h => h)).trans HB1.out
      clear k0 k1 k2 k3 k4 k5 k6 k7
      obtain ⟨k0, k1, k2, k3, k4, k5, k6, k7⟩ := cells8 hbx
      have hbl2 : w.heap.size < w2.heap.size := (Array.getElem?_eq_some_iff.1 hbx).1
      have HU2 := As.mk (HU1.out.trans HP2.out (fun _ _ h => h))
      clear hbx hbl
      go_wp2
      refine bodyPost_ret (results_tmp2 rfl _ _ _) rfl ?_
      exact DocR9.no (by rw [HE.out, if_neg (fun h => h HV.out), if_neg (fun h => h HW.out), if_pos HT.out]) (by decide) rfl HU2.out
set_option maxRecDepth 100000 in
set_option maxHeartbeats 4000000 in
theorem Apply9_ok {w : World} {F : Nat → Prop} {A B : Option Addr} {c cb : Nat} {l : List Tok} {s : StepD} (hr : tokR.row w F A l) (hb : l.length ≤ 1048576 * 4) (hd : Dn w A c l B cb s) (h0 : (flatCheck l).2 = 0) (h1 : stepCheck s = 0) (h2 : s.tt ≤ l.length) :
    Calls Tryz.prog 147 #[.slice A l.length c, s.val B cb] w (DocR9 w (stepDo l s) (stepErr l s)) := by
  have HF := As.mk (fun W (hu : Pure w W) => Check4_calls (c := c) (Rp.row_pure hr hu) hb)
  rw [h0] at HF
  have HC := As.mk hd.ck
  rw [h1] at HC
  have HD := As.mk (hd.dn h0 h1 h2)
  have hlen := flat_len h0
  have HFO := As.mk (fun (W : World) (Bo : Option Addr) (co : Nat) (G2 : Nat → Prop) (hrow : tokR.row W G2 Bo (stepDo l s)) => Check4_calls (c := co) hrow (by have := stepDo_len h1 h2; have := (step_check_zero.1 h1).1; omega))
  have HE := As.mk (show stepErr l s = if (flatCheck (stepDo l s)).2 = 3 then 4 else (flatCheck (stepDo l s)).2 by
    unfold stepErr
    rw [if_neg (by omega), if_neg (by omega), if_neg (by omega)])
  have HBX := As.mk (heap_alloc_new w (.cells #[.int .i64 s.k, .int .i64 s.fr, .int .i64 s.tt, .int .i64 s.gf, .int .i64 s.gt, .int .i64 s.ins, .slice B s.sl.length cb, .int .i64 s.mark] 46))
  have d1 : decide (s.tt > (l.length : Int)) = false := decide_eq_false (by omega)
  have d2 : decide ((l.length : Int) < s.tt) = false := d1
  generalize stepErr l s = se at *
  generalize (flatCheck l).1 = f1 at *
  generalize stepDo l s = sd at *
  generalize hfx : flatCheck sd = fx at *
  clear hr hd h0 h1 h2 hfx
  unfold StepD.val at *
  obtain ⟨x1, x2⟩ := fx
  cases b0 : (x2 == 0) <;> cases b3 : (x2 == 3)
  all_goals
    have c0 : (x2 != 0) = !(x2 == 0) := rfl
    rw [b0] at c0
    simp only [Bool.not_true, Bool.not_false] at c0
    have HB0 := As.mk b0
    have HB3 := As.mk b3
    go_enter Tryz.func147, Tryz.ntmps147
    go_wp2_with (go_at_call 68; refine (HF.out _ (Upd.alloc1 _ _ _)).mono ?_; rintro r w1 ⟨rfl, hu⟩; have HP1 := As.mk hu; clear hu; apply As.out)
    refine ⟨?_⟩
    have hbx := (HP1.out.block w.heap.size (by simp) (fun h => h)).trans HBX.out
    obtain ⟨k0, k1, k2, k3, k4, k5, k6, k7⟩ := cells8 hbx
    have hbl : w.heap.size < w1.heap.size := (Array.getElem?_eq_some_iff.1 hbx).1
    have HU1 := As.mk ((Upd.alloc1 (fun _ => False) _ _).trans HP1.out (fun _ _ h => h))
    have HB1 := As.mk hbx
    clear hbx
    go_wp2_with (go_at_call 176; refine (HC.out _ HU1.out).mono ?_; rintro r w2 ⟨rfl, hu⟩; have HP2 := As.mk hu; clear hu; apply As.out)
    refine ⟨?_⟩
    have hbx := (HP2.out.block w.heap.size hbl (fun h => h)).trans HB1.out
    clear k0 k1 k2 k3 k4 k5 k6 k7
    obtain ⟨k0, k1, k2, k3, k4, k5, k6, k7⟩ := cells8 hbx
    have hbl2 : w.heap.size < w2.heap.size := (Array.getElem?_eq_some_iff.1 hbx).1
    have HU2 := As.mk (HU1.out.trans HP2.out (fun _ _ h => h))
    clear hbx hbl
    go_wp2_with (first | (go_at_call 68; refine (HFO.out w3 _ _ _ HR3.out).mono ?_; rintro r w4 ⟨rfl, hu⟩; have HP4 := As.mk hu; have HU4 := As.mk (HU3.out.trans hu (fun _ _ h => h)); clear hu) | (go_at_call 177; refine (HD.out _ HU2.out).mono ?_; intro r w3 ht; obtain ⟨⟨A3, c3, rfl, hle, hrow⟩, hu⟩ := ht; have HR3 := As.mk hrow; have HLE3 := As.mk hle; have HU3 := As.mk (HU2.out.trans hu (fun _ _ h => h)); clear hu hrow hle))
    refine bodyPost_ret (results_tmp2 rfl _ _ _) rfl ?_
    first
      | (have hz : x2 = 0 := by simpa using HB0.out
         exact ⟨.inl ⟨by rw [HE.out]; simp [hz], A3, c3, rfl, HLE3.out, Rp.row_fp (Rp.row_pure HR3.out HP4.out) (fun q hq => Nat.le_trans HU2.out.size hq)⟩, HU4.out⟩)
      | (have hz : x2 = 3 := by simpa using HB3.out
         exact DocR9.no (by rw [HE.out]; simp [hz]) (by decide) rfl HU4.out)
      | (have hz : x2 ≠ 0 := by simpa using HB0.out
         have hy : x2 ≠ 3 := by simpa using HB3.out
         exact DocR9.no (by rw [HE.out, if_neg hy]) hz rfl HU4.out)
theorem Apply9_calls {w : World} {F : Nat → Prop} {A B : Option Addr} {c cb : Nat} {l : List Tok} {s : StepD} (hr : tokR.row w F A l) (hb : l.length ≤ 1048576 * 4) (hd : Dn w A c l B cb s) :
    Calls Tryz.prog 147 #[.slice A l.length c, s.val B cb] w (DocR9 w (stepDo l s) (stepErr l s)) := by
  by_cases h : (flatCheck l).2 = 0 ∧ stepCheck s = 0 ∧ s.tt ≤ l.length
  · exact Apply9_ok hr hb hd h.1 h.2.1 h.2.2
  · exact Apply9_no hr hb hd h
theorem DocR9.zero {w : World} {x : List Tok} {r : Ending} {w' : World} (h : DocR9 w x 0 r w') : (∃ A c, r = .returned (.tuple #[.slice A x.length c, .int .i64 0]) ∧ x.length ≤ c ∧ tokR.row w' (fun k => w.heap.size ≤ k) A x) ∧ Pure w w' := by
  obtain ⟨h | h, hp⟩ := h
  · exact ⟨h.2, hp⟩
  · exact absurd rfl h.1
theorem DocR9.ne {w : World} {x : List Tok} {e : Int} {r : Ending} {w' : World} (h : DocR9 w x e r w') (he : e ≠ 0) : r = .returned (.tuple #[.slice none 0 0, .int .i64 e]) ∧ Pure w w' := by
  obtain ⟨h | h, hp⟩ := h
  · exact absurd h.1 he
  · exact ⟨h.2, hp⟩
set_option maxRecDepth 100000 in
set_option maxHeartbeats 4000000 in
theorem Do10_calls {w : World} {F : Nat → Prop} {cb0 : Nat} {A B : Option Addr} {c cb : Nat} {l : List Tok} {s : StepD} (h : H6 w cb0) (hr : tokR.row w F A l) (hb : l.length ≤ 1048576 * 4) (hd : Dn w A c l B cb s) :
    Calls Tryz.prog 100 #[.pointer (some ⟨cb0, 0, none⟩), .slice A l.length c, s.val B cb] w (DocR9 w (stepDo l s) (remapErr l s)) := by
  have HA := As.mk (fun W (hu : Pure w W) => Apply9_calls (c := c) (Rp.row_pure hr hu) hb (hd.pure hu))
  have HRE := As.mk (show remapErr l s = if stepErr l s ≠ 0 then stepErr l s else (houseCheck (stepDo l s)).2 from rfl)
  have HLN := As.mk (fun (h0 : stepErr l s = 0) => show (stepDo l s).length ≤ 1048576 * 4 from by
    obtain ⟨h3, h1, h2, _⟩ := step_err_zero.1 h0
    have := stepDo_len h1 h2
    have := (step_check_zero.1 h1).1
    have := flat_len h3
    omega)
  have HCK := As.mk (fun W (hu : Pure w W) (Ao : Option Addr) (co : Nat) (G : Nat → Prop) (hrow : tokR.row W G Ao (stepDo l s)) (hle : (stepDo l s).length ≤ co) (hl : (stepDo l s).length ≤ 1048576 * 4) => Check6_calls (c := co) (h.pure hu) hrow hle hl)
  have HBX := As.mk (heap_alloc_new w (.cells #[.int .i64 s.k, .int .i64 s.fr, .int .i64 s.tt, .int .i64 s.gf, .int .i64 s.gt, .int .i64 s.ins, .slice B s.sl.length cb, .int .i64 s.mark] 46))
  generalize remapErr l s = re at *
  generalize stepErr l s = se at *
  generalize stepDo l s = sd at *
  generalize hfx : houseCheck sd = fx at *
  clear h hr hd hfx
  unfold StepD.val at *
  obtain ⟨x1, x2⟩ := fx
  by_cases h0 : se = 0
  · subst h0
    have HL := As.mk (HLN.out rfl)
    have HRF := As.mk (show re = x2 from HRE.out)
    clear HLN HRE
    cases b0 : (x2 == 0)
    all_goals
      have c0 : (x2 != 0) = !(x2 == 0) := rfl
      rw [b0] at c0
      simp only [Bool.not_true, Bool.not_false] at c0
      have HB0 := As.mk b0
      go_enter Tryz.func100, Tryz.ntmps100
      go_wp2_with (first | (go_at_call 16; refine (HCK.out w1 HU1.out _ _ _ HR1.out HLE1.out HL.out).mono ?_; rintro r w2 ⟨rfl, hu⟩; have HP2 := As.mk hu; have HU2 := As.mk (HU1.out.trans hu (fun _ _ h => h)); clear hu) | (go_at_call 147; refine (HA.out _ (Upd.alloc1 _ _ _)).mono ?_; intro r w1 ht; obtain ⟨⟨A1, c1, rfl, hle, hrow⟩, hu⟩ := ht.zero; have HR1 := As.mk (Rp.row_fp hrow (fun q hq => (by simp at hq; omega : w.heap.size ≤ q))); have HLE1 := As.mk hle; have HU1 := As.mk ((Upd.alloc1 (fun _ => False) _ _).trans hu (fun _ _ h => h)); clear hu hrow hle ht))
      refine bodyPost_ret (results_tmp2 rfl _ _ _) rfl ?_
      first
        | (have hz : x2 = 0 := by simpa using HB0.out
           exact ⟨.inl ⟨by rw [HRF.out, hz], A1, c1, rfl, HLE1.out, Rp.row_pure HR1.out HP2.out⟩, HU2.out⟩)
        | (have hz : x2 ≠ 0 := by simpa using HB0.out
           exact DocR9.no HRF.out hz rfl HU2.out)
  · have HRF := As.mk (show re = se by rw [HRE.out, if_pos h0])
    have HN := As.mk h0
    have c0 : (se == 0) = false := by simpa using h0
    have c1 : (se != 0) = true := by simpa using h0
    clear HLN HRE h0 HCK
    go_enter Tryz.func100, Tryz.ntmps100
    go_wp2_with (go_at_call 147; refine (HA.out _ (Upd.alloc1 _ _ _)).mono ?_; intro r w1 ht; obtain ⟨rfl, hu⟩ := ht.ne HN.out; have HU1 := As.mk ((Upd.alloc1 (fun _ => False) _ _).trans hu (fun _ _ h => h)); clear hu ht)
    refine bodyPost_ret (results_tmp2 rfl _ _ _) rfl ?_
    exact DocR9.no HRF.out HN.out rfl HU1.out
end Go.Proofs.YtofjodppljnlaaaGreatDoor
namespace Go.Proofs.YtofjodppljnlaaaGreatDoor
open Go.RowKit
set_option linter.unusedVariables false
set_option linter.unusedSimpArgs false
theorem tok_ext {x y : Tok} (h1 : x.k = y.k) (h2 : x.t = y.t) (h3 : x.n = y.n) (h4 : x.m = y.m) : x = y := by
  cases x; cases y; simp_all
theorem tok_diff {x y : Tok} (h : x ≠ y) : x.k ≠ y.k ∨ (x.k = y.k ∧ x.t ≠ y.t) ∨ (x.k = y.k ∧ x.t = y.t ∧ x.n ≠ y.n) ∨ (x.k = y.k ∧ x.t = y.t ∧ x.n = y.n ∧ x.m ≠ y.m) := by
  by_cases h1 : x.k = y.k
  · by_cases h2 : x.t = y.t
    · by_cases h3 : x.n = y.n
      · by_cases h4 : x.m = y.m
        · exact absurd (tok_ext h1 h2 h3 h4) h
        · exact .inr (.inr (.inr ⟨h1, h2, h3, h4⟩))
      · exact .inr (.inr (.inl ⟨h1, h2, h3⟩))
    · exact .inr (.inl ⟨h1, h2⟩)
  · exact .inl h1
theorem lists_diff {l l' : List Tok} {k : Nat} {x y : Tok} (hx : l[k]? = some x) (hy : l'[k]? = some y) (h : x ≠ y) : decide (l = l') = false := by
  rw [decide_eq_false_iff_not]
  rintro rfl
  rw [hx] at hy
  exact h (Option.some.inj hy)
set_option maxRecDepth 100000 in
set_option maxHeartbeats 4000000 in
theorem Alike_calls {F G : Nat → Prop} {A B : Option Addr} {c c' : Nat} {l l' : List Tok} {w : World} (hr : tokR.row w F A l) (hr' : tokR.row w G B l') (hb : l.length ≤ 1048576 * 4) (hb' : l'.length ≤ 1048576 * 4) :
    Calls Tryz.prog 139 #[.slice A l.length c, .slice B l'.length c'] w fun e w' => e = .returned (.bool (decide (l = l'))) ∧ Pure w w' := by
  by_cases hll : l.length = l'.length
  · have HR := As.mk hr
    have HR' := As.mk hr'
    have HL := As.mk hll
    rw [hll]
    clear hr hr' hll
    go_enter Tryz.func139, Tryz.ntmps139
    go_wp2
    go_loopg [5] l'.length (fun g i wr => ∃ k : Nat, k + g = l'.length ∧ i = .int .i64 k ∧ As (l.take k = l'.take k) ∧ As (Pure w wr))
    case atStart => exact ⟨0, by omega, rfl, ⟨by simp⟩, ⟨Upd.refl _ _⟩⟩
    case round =>
      obtain ⟨k, hk, rfl, HT, HP⟩ := hrel
      by_cases hlt : k < l'.length
      · obtain ⟨g1, rfl⟩ : ∃ m, gk = m + 1 := ⟨gk - 1, by omega⟩
        obtain ⟨x, hx⟩ : ∃ x, l[k]? = some x := ⟨_, List.getElem?_eq_getElem (by have := HL.out; omega)⟩
        obtain ⟨y, hy⟩ : ∃ y, l'[k]? = some y := ⟨_, List.getElem?_eq_getElem hlt⟩
        obtain ⟨b, o, rfl, hF, hbl, c0, c1, c2, c3⟩ := tok_at (Rp.row_pure HR.out HP.out) hx
        obtain ⟨b', o', rfl, hG, hbl', d0, d1, d2, d3⟩ := tok_at (Rp.row_pure HR'.out HP.out) hy
        have HX := As.mk hx
        have HY := As.mk hy
        have HK := As.mk hk
        clear hx hy hk
        by_cases hxy : x = y
        · subst hxy
          go_wp2
          go_region
          all_goals go_wp2
          all_goals go_roundg g1
          all_goals first
            | (case measure => omega)
            | (case rel => exact ⟨k + 1, by have := HK.out; omega, by go_num, ⟨by rw [List.take_add_one, List.take_add_one, HT.out, HX.out, HY.out]⟩, ⟨HP.out.drew⟩⟩)
        · have HN := As.mk hxy
          rcases tok_diff hxy with h | ⟨h1, h⟩ | ⟨h1, h2, h⟩ | ⟨h1, h2, h3, h⟩
          all_goals
            clear hxy
            go_wp2
            go_region
            all_goals go_wp2
            all_goals go_ret
            all_goals exact ⟨ret_bool (lists_diff HX.out HY.out HN.out).symm, HP.out.drew⟩
      · have hkl : k = l'.length := by omega
        subst hkl
        go_wp2
        go_ret
        refine ⟨ret_bool ?_, HP.out⟩
        have h1 := HT.out
        rw [List.take_length, ← HL.out, List.take_length] at h1
        simp [h1]
  · have h1 : ¬ ((l.length : Int) = (l'.length : Int)) := by omega
    have HN := As.mk hll
    go_enter Tryz.func139, Tryz.ntmps139
    go_wp2
    go_ret
    exact ⟨ret_bool (by symm; rw [decide_eq_false_iff_not]; rintro rfl; exact HN.out rfl), Upd.refl _ _⟩
/-- Two slices of the same tokens. -/
theorem Alike_same {F G : Nat → Prop} {A B : Option Addr} {c c' : Nat} {l : List Tok} {w : World} (hr : tokR.row w F A l) (hr' : tokR.row w G B l) (hb : l.length ≤ 1048576 * 4) :
    Calls Tryz.prog 139 #[.slice A l.length c, .slice B l.length c'] w fun e w' => e = .returned (.bool true) ∧ Pure w w' := by
  refine (Alike_calls hr hr' hb hb).mono ?_
  rintro e w' ⟨rfl, hu⟩
  exact ⟨ret_bool (by simp), hu⟩
end Go.Proofs.YtofjodppljnlaaaGreatDoor
namespace Go.Proofs.YtofjodppljnlaaaGreatDoor
open Go.ChangeShapes Go.WideShapes Go.ChangeAt Go.RowKit
set_option linter.unusedVariables false
set_option linter.unusedSimpArgs false
/-- What data of type t gives: a Lean value that the cells say, of which Q holds at its bulk. -/
def Opens {α : Type} (P : Program) (t : TypeId) (d : Rp α) (Q : α → Nat → Prop) : Prop :=
  ∀ (H : Type) (enc : TypeId × Value → H) (w : World) (base : Nat) (spare : Nat → Bool) (held : Bool) (fuel : Nat) (cs : List Value) (x : DataW H × List MemPlace),
    DataW.trod enc P w base spare held fuel t cs = some x → ∃ y, d.rep w (fun k => k < w.heap.size) y cs ∧ Q y (Rows.uptoBulk x.1)
theorem bulk_pos {H : Type} (d : DataW H) : 1 ≤ Rows.uptoBulk d := by
  cases d with
  | lit l => cases l <;> simp [Rows.uptoBulk]
  | nil => simp [Rows.uptoBulk]
  | ptr d => simp [Rows.uptoBulk]
  | slice elems spare => simp [Rows.uptoBulk]
  | agg parts => simp [Rows.uptoBulk]
  | iface t d => simp [Rows.uptoBulk]
  | map entries => simp [Rows.uptoBulk]
  | held h => simp [Rows.uptoBulk]
theorem bulk_part {H : Type} {d : DataW H} {l : List (DataW H)} (h : d ∈ l) : Rows.uptoBulk d ≤ Rows.uptoBulkAll l := by
  induction l with
  | nil => cases h
  | cons x r ih =>
    simp only [Rows.uptoBulkAll]
    cases List.mem_cons.1 h with
    | inl e => subst e; omega
    | inr e => have := ih e; omega
theorem bulk_len {H : Type} (l : List (DataW H)) : l.length ≤ Rows.uptoBulkAll l := by
  induction l with
  | nil => simp [Rows.uptoBulkAll]
  | cons x r ih => have := bulk_pos x; simp only [Rows.uptoBulkAll, List.length_cons]; omega
theorem choose_list {α : Type} (P : Nat → α → Prop) : ∀ n : Nat, (∀ i, i < n → ∃ y, P i y) → ∃ l : List α, l.length = n ∧ ∀ i y, l[i]? = some y → P i y := by
  intro n
  induction n with
  | zero => intro _; exact ⟨[], rfl, by simp⟩
  | succ n ih =>
    intro h
    obtain ⟨l, hl, hp⟩ := ih (fun i hi => h i (by omega))
    obtain ⟨y, hy⟩ := h n (by omega)
    refine ⟨l ++ [y], by simp [hl], fun i z hz => ?_⟩
    rcases Nat.lt_or_ge i l.length with hi | hi
    · rw [List.getElem?_append_left hi] at hz
      exact hp i z hz
    · rw [List.getElem?_append_right hi] at hz
      match hk : i - l.length, hz with
      | 0, hz =>
        simp [hk] at hz
        subst hz
        obtain rfl : i = n := by omega
        exact hy
      | k + 1, hz => simp [hk] at hz
def QSlice {α : Type} (Q : α → Nat → Prop) (l : List α) (n : Nat) : Prop := l.length < n ∧ ∀ y ∈ l, ∃ m, m < n ∧ Q y m
theorem opens_slice {α : Type} {P : Program} {t e : TypeId} {d : Rp α} {Q : α → Nat → Prop} (ht : P.underlying t = some (.slice e)) (hc : P.cellsOf e = d.sz) (hs : 0 < d.sz) (he : Opens P e d Q) : Opens P t d.slice (QSlice Q) := by
  intro H enc w base spare held fuel cs x h
  rcases Deep.open_slice ht h with ⟨rfl, rfl⟩ | ⟨a, len, cap, m, n, D, Pl, rfl, hb, hl, hm, hmm, rfl, hi⟩
  · exact ⟨[], ⟨none, 0, rfl, Nat.le_refl _, .inl rfl⟩, by simp [Rows.uptoBulk], by simp⟩
  · have hlm : len ≤ m := by rw [hmm]; split <;> omega
    obtain ⟨l, hll, hp⟩ := choose_list (fun i y => ∃ cs', w.cells? base (a.add (i * P.cellsOf e)) (P.cellsOf e) = some cs' ∧ d.rep w (fun k => k < w.heap.size) y cs' ∧ Q y (Rows.uptoBulk (D i))) len (fun i hlt => by
      obtain ⟨cs', h1, h2⟩ := hi i (by omega)
      obtain ⟨y, hy, hq⟩ := he H enc w base spare held n cs' _ h2
      exact ⟨y, cs', h1, hy, hq⟩)
    refine ⟨l, ⟨some a, cap, by rw [hll], by omega, ?_⟩, ?_, ?_⟩
    · cases l with
      | nil => exact .inl rfl
      | cons y r =>
        obtain ⟨cs', h1, h2, _⟩ := hp 0 y rfl
        obtain ⟨_, hcl, hat⟩ := World.cells?_some h1
        have h0 := hat 0 (by omega)
        have hlt : 0 < cs'.length := by omega
        rw [List.getElem?_eq_getElem hlt] at h0
        obtain ⟨b, o, sp⟩ := a
        have hsp : sp = none := by
          cases sp with
          | none => rfl
          | some q =>
            simp [World.cell?, Addr.add] at h0
            split at h0 <;> simp_all
        subst hsp
        have hadd : ∀ o j, (⟨b, o, none⟩ : Addr).add j = ⟨b, o + j, none⟩ := fun o j => by unfold Addr.add; split <;> simp_all
        have hblt : b < w.heap.size := by
          have := World.block_lt_of_cell? w _ h0
          rw [hadd, hadd] at this
          exact this
        refine .inr ⟨b, o, rfl, hblt, hblt, fun j z hz => ?_⟩
        obtain ⟨cs2, h3, h4, _⟩ := hp j z hz
        obtain ⟨_, hcl2, hat2⟩ := World.cells?_some h3
        refine ⟨cs2, h4, fun i u hu => ?_⟩
        have hi2 : i < cs2.length := (List.getElem?_eq_some_iff.1 hu).1
        have := hat2 i (by omega)
        rw [hadd, hadd, hc] at this
        rw [this, hu]
    · have h1 := bulk_len ((List.range len).map D)
      simp only [Rows.uptoBulk, List.length_map, List.length_range] at h1 ⊢
      omega
    · intro y hy
      obtain ⟨i, hi2⟩ := List.getElem?_of_mem hy
      obtain ⟨cs', _, _, hq⟩ := hp i y hi2
      have hil : i < len := by have := (List.getElem?_eq_some_iff.1 hi2).1; omega
      refine ⟨_, ?_, hq⟩
      have := bulk_part (d := D i) (l := (List.range len).map D) (List.mem_map.2 ⟨i, List.mem_range.2 hil, rfl⟩)
      simp only [Rows.uptoBulk]
      omega
end Go.Proofs.YtofjodppljnlaaaGreatDoor
namespace Go.Proofs.YtofjodppljnlaaaGreatDoor
open Go.RowKit
set_option linter.unusedVariables false
set_option linter.unusedSimpArgs false
theorem cells2 {w : World} {k : Nat} {x0 x1 : Value} {t : TypeId} (h : w.heap[k]? = some (.cells #[x0, x1] t (0, 0))) : w.cell? ⟨k, 0, none⟩ = some x0 ∧ w.cell? ⟨k, 1, none⟩ = some x1 := by
  refine ⟨?_, ?_⟩ <;> simp [World.cell?, h]
theorem set8 {w : World} {rb : Nat} {x0 x1 x2 x3 x4 x5 x6 x7 : Value} {t : TypeId} {fr : Nat × Nat} (h : w.heap[rb]? = some (.cells #[x0, x1, x2, x3, x4, x5, x6, x7] t fr)) (y0 y1 y2 y3 y4 y5 y6 y7 : Value) : ((((((((w.setCell ⟨rb, 0, none⟩ y0).setCell ⟨rb, 1, none⟩ y1).setCell ⟨rb, 2, none⟩ y2).setCell ⟨rb, 3, none⟩ y3).setCell ⟨rb, 4, none⟩ y4).setCell ⟨rb, 5, none⟩ y5).setCell ⟨rb, 6, none⟩ y6).setCell ⟨rb, 7, none⟩ y7).heap[rb]? = some (.cells #[y0, y1, y2, y3, y4, y5, y6, y7] t fr) := by simp [World.setCell, Array.getElem?_modify, h]
theorem set8_pure {w0 w : World} {rb : Nat} (hp : Pure w0 w) (hb : w0.heap.size ≤ rb) (y0 y1 y2 y3 y4 y5 y6 y7 : Value) : Pure w0 ((((((((w.setCell ⟨rb, 0, none⟩ y0).setCell ⟨rb, 1, none⟩ y1).setCell ⟨rb, 2, none⟩ y2).setCell ⟨rb, 3, none⟩ y3).setCell ⟨rb, 4, none⟩ y4).setCell ⟨rb, 5, none⟩ y5).setCell ⟨rb, 6, none⟩ y6).setCell ⟨rb, 7, none⟩ y7) :=
  hp |>.setCell (p := ⟨rb, 0, none⟩) (fun h => absurd h (by show ¬ rb < w0.heap.size; omega)) _ |>.setCell (p := ⟨rb, 1, none⟩) (fun h => absurd h (by show ¬ rb < w0.heap.size; omega)) _ |>.setCell (p := ⟨rb, 2, none⟩) (fun h => absurd h (by show ¬ rb < w0.heap.size; omega)) _ |>.setCell (p := ⟨rb, 3, none⟩) (fun h => absurd h (by show ¬ rb < w0.heap.size; omega)) _ |>.setCell (p := ⟨rb, 4, none⟩) (fun h => absurd h (by show ¬ rb < w0.heap.size; omega)) _ |>.setCell (p := ⟨rb, 5, none⟩) (fun h => absurd h (by show ¬ rb < w0.heap.size; omega)) _ |>.setCell (p := ⟨rb, 6, none⟩) (fun h => absurd h (by show ¬ rb < w0.heap.size; omega)) _ |>.setCell (p := ⟨rb, 7, none⟩) (fun h => absurd h (by show ¬ rb < w0.heap.size; omega)) _
/-- A step and an error are answered. -/
theorem step_end {fn : Func} {p q : Tmp} (hres : fn.results = #[.cell p 46, .tmp q]) (tmps : Array Value) {w : World} {rb : Nat} {y0 y1 y2 y3 y4 y5 y6 y7 : Value} {t : TypeId} {fr : Nat × Nat} (hp : tmps.getD p undef = .pointer (some ⟨rb, 0, none⟩)) (hg : w.heap[rb]? = some (.cells #[y0, y1, y2, y3, y4, y5, y6, y7] t fr)) :
    (results fn tmps).run Tryz.prog w = .ok (.tuple #[.agg #[y0, y1, y2, y3, y4, y5, y6, y7], tmps.getD q undef]) w := by
  have hp' : tmps[p]?.getD undef = .pointer (some ⟨rb, 0, none⟩) := by simpa using hp
  simp [results, hres, hp', asAddr, run_loadVar_row (P := Tryz.prog) _ rb t 46 _ fr _ hg Tryz.underlying46 rfl (by kernel_rfl)]
theorem one_up {w V : World} {X : Obj} (h : Pure (w.alloc X) V) : V.heap[w.heap.size]? = some X ∧ Pure w V :=
  ⟨(h.block _ (by simp) (fun h => h)).trans (heap_alloc_new w X), Upd.trans (Upd.alloc1 (fun _ => False) _ _) h (fun _ _ h => h)⟩
theorem two_up {w V : World} {X Y : Obj} (h : Pure ((w.alloc X).alloc Y) V) : V.heap[w.heap.size]? = some X ∧ V.heap[w.heap.size + 1]? = some Y ∧ Pure w V := by
  obtain ⟨h1, h2⟩ := one_up h
  obtain ⟨h3, h4⟩ := one_up h2
  exact ⟨h3, by simpa using h1, h4⟩
theorem three_up {w V : World} {X Y Z : Obj} (h : Pure (((w.alloc X).alloc Y).alloc Z) V) : V.heap[w.heap.size]? = some X ∧ V.heap[w.heap.size + 1]? = some Y ∧ V.heap[w.heap.size + 2]? = some Z ∧ Pure w V := by
  obtain ⟨h1, h2⟩ := one_up h
  obtain ⟨h3, h4, h5⟩ := two_up h2
  exact ⟨h3, h4, by simpa using h1, h5⟩
abbrev deskV (cb : Nat) (A : Option Addr) (n c : Nat) : Value := .agg #[.pointer (some ⟨cb, 0, none⟩), .slice A n c]
abbrev step0 : Value := .agg #[.int .i64 0, .int .i64 0, .int .i64 0, .int .i64 0, .int .i64 0, .int .i64 0, .slice none 0 0, .int .i64 0]
/-- A step that is told, or a refusal. -/
def ToldR (v : Value) (e : Int) (r : Ending) : Prop := (e = 0 ∧ r = .returned (.tuple #[v, .int .i64 0])) ∨ (e ≠ 0 ∧ r = .returned (.tuple #[step0, .int .i64 e]))
theorem ToldR.zero {v : Value} {r : Ending} (h : ToldR v 0 r) : r = .returned (.tuple #[v, .int .i64 0]) := by
  rcases h with ⟨_, h⟩ | ⟨h, _⟩
  · exact h
  · exact absurd rfl h
theorem ToldR.ne {v : Value} {e : Int} {r : Ending} (h : ToldR v e r) (he : e ≠ 0) : r = .returned (.tuple #[step0, .int .i64 e]) := by
  rcases h with ⟨h, _⟩ | ⟨_, h⟩
  · exact absurd h he
  · exact h
theorem DocR.ne {w : World} {x : List Tok} {e : Int} {r : Ending} {w' : World} (h : DocR w x e r w') (he : e ≠ 0) : r = .returned (.tuple #[.slice none 0 0, .int .i64 e]) ∧ Pure w w' := by
  obtain ⟨⟨h, _⟩ | ⟨_, h1⟩, hu⟩ := h
  · exact absurd h he
  · exact ⟨h1, hu⟩
def placesErr (l : List Tok) (f t : Int) : Int := if (houseCheck l).2 ≠ 0 then (houseCheck l).2 else if f < 0 ∨ t < f ∨ (l.length : Int) < t then 1 else 0
theorem places_zero {l : List Tok} {f t : Int} : placesErr l f t = 0 ↔ (houseCheck l).2 = 0 ∧ 0 ≤ f ∧ f ≤ t ∧ t ≤ l.length := by
  unfold placesErr
  constructor
  · intro h
    split at h
    · omega
    · split at h <;> omega
  · rintro ⟨h1, h2, h3, h4⟩
    rw [if_neg (by omega), if_neg (by omega)]
set_option maxRecDepth 100000 in
set_option maxHeartbeats 4000000 in
theorem refuse_calls {e : Int} (w : World) : Calls Tryz.prog 84 #[.int .i64 e] w (fun r w' => r = .returned (.tuple #[step0, .int .i64 e]) ∧ Pure w w') := by
  go_enter Tryz.func84, Tryz.ntmps84
  go_wp2
  exact bodyPost_ret (step_end rfl _ rfl (heap_alloc_new w _)) rfl ⟨rfl, (by repeat (first | exact Upd.refl _ _ | exact HU1.out | (refine Upd.alloc ?_ _) | (refine Upd.setCell ?_ (by intro h; simp at h; try omega) _) | (refine Upd.drew ?_) | (refine Upd.drewN ?_ _) | (refine Upd.trans ?_ HU1.out (fun _ _ h => h))))⟩
set_option maxRecDepth 100000 in
set_option maxHeartbeats 4000000 in
theorem places_calls {w : World} {F : Nat → Prop} {cb : Nat} {A : Option Addr} {c : Nat} {l : List Tok} {f t : Int} (h : SchR w cb houseRules houseGroups) (hr : tokR.row w F A l) (hb : l.length ≤ 1048576 * 4) :
    Calls Tryz.prog 83 #[deskV cb A l.length c, .int .i64 f, .int .i64 t] w (fun r w' => r = .returned (.int .i64 (placesErr l f t)) ∧ Pure w w') := by
  have HC := As.mk (fun W (hu : Pure w W) => house_check (c := c) (h.pure hu) (Rp.row_pure hr hu) hb)
  have HE := As.mk (show placesErr l f t = if (houseCheck l).2 ≠ 0 then (houseCheck l).2 else if f < 0 ∨ t < f ∨ (l.length : Int) < t then 1 else 0 from rfl)
  clear h hr hb
  generalize placesErr l f t = pe at *
  generalize (houseCheck l).2 = e at *
  generalize (houseCheck l).1 = e1 at *
  by_cases h0 : e = 0
  · subst h0
    rw [if_neg (by omega)] at HE
    by_cases h1 : f < 0
    · rw [if_pos (.inl h1)] at HE
      go_enter Tryz.func83, Tryz.ntmps83
      go_wp2_with (go_at_call 15; refine (HC.out _ (Upd.alloc1 _ _ _)).mono ?_; rintro r w1 ⟨rfl, hu⟩; have hb1 := (hu.block w.heap.size (by simp) (fun h => h)).trans (heap_alloc_new w _); obtain ⟨q0, q1⟩ := cells2 hb1; have HU1 := As.mk (Upd.trans (Upd.alloc1 (fun _ => False) _ _) hu (fun _ _ h => h)); clear hu hb1)
      go_ret
      exact ⟨(by rw [HE.out]; rfl), HU1.out⟩
    · by_cases h2 : t < f
      · rw [if_pos (.inr (.inl h2))] at HE
        go_enter Tryz.func83, Tryz.ntmps83
        go_wp2_with (go_at_call 15; refine (HC.out _ (Upd.alloc1 _ _ _)).mono ?_; rintro r w1 ⟨rfl, hu⟩; have hb1 := (hu.block w.heap.size (by simp) (fun h => h)).trans (heap_alloc_new w _); obtain ⟨q0, q1⟩ := cells2 hb1; have HU1 := As.mk (Upd.trans (Upd.alloc1 (fun _ => False) _ _) hu (fun _ _ h => h)); clear hu hb1)
        go_ret
        exact ⟨(by rw [HE.out]; rfl), HU1.out⟩
      · by_cases h3 : (l.length : Int) < t
        · rw [if_pos (.inr (.inr h3))] at HE
          go_enter Tryz.func83, Tryz.ntmps83
          go_wp2_with (go_at_call 15; refine (HC.out _ (Upd.alloc1 _ _ _)).mono ?_; rintro r w1 ⟨rfl, hu⟩; have hb1 := (hu.block w.heap.size (by simp) (fun h => h)).trans (heap_alloc_new w _); obtain ⟨q0, q1⟩ := cells2 hb1; have HU1 := As.mk (Upd.trans (Upd.alloc1 (fun _ => False) _ _) hu (fun _ _ h => h)); clear hu hb1)
          go_ret
          exact ⟨(by rw [HE.out]; rfl), HU1.out⟩
        · rw [if_neg (by omega)] at HE
          go_enter Tryz.func83, Tryz.ntmps83
          go_wp2_with (go_at_call 15; refine (HC.out _ (Upd.alloc1 _ _ _)).mono ?_; rintro r w1 ⟨rfl, hu⟩; have hb1 := (hu.block w.heap.size (by simp) (fun h => h)).trans (heap_alloc_new w _); obtain ⟨q0, q1⟩ := cells2 hb1; have HU1 := As.mk (Upd.trans (Upd.alloc1 (fun _ => False) _ _) hu (fun _ _ h => h)); clear hu hb1)
          go_ret
          exact ⟨(by rw [HE.out]; rfl), HU1.out⟩
  · have f0 : (e != 0) = true := by simpa using h0
    rw [if_pos h0] at HE
    clear h0
    go_enter Tryz.func83, Tryz.ntmps83
    go_wp2_with (go_at_call 15; refine (HC.out _ (Upd.alloc1 _ _ _)).mono ?_; rintro r w1 ⟨rfl, hu⟩; have HU1 := As.mk (Upd.trans (Upd.alloc1 (fun _ => False) _ _) hu (fun _ _ h => h)); clear hu)
    go_ret
    exact ⟨(by rw [HE.out]; rfl), HU1.out⟩
set_option maxRecDepth 100000 in
set_option maxHeartbeats 4000000 in
theorem tell_calls {w : World} {cb : Nat} {A B : Option Addr} {c cs n : Nat} {s : StepD} {x : List Tok} {e : Int} (hd : ∀ W, Pure w W → Calls Tryz.prog 96 #[.pointer (some ⟨cb, 0, none⟩), .slice A n c, s.val B cs] W (DocR W x e)) :
    Calls Tryz.prog 91 #[deskV cb A n c, s.val B cs] w (fun r w' => ToldR (s.val B cs) e r ∧ Pure w w') := by
  have HD := As.mk hd
  clear hd
  unfold StepD.val at *
  by_cases h0 : e = 0
  · subst h0
    go_enter Tryz.func91, Tryz.ntmps91
    go_wp2_with (go_at_call 96; refine (HD.out _ (((Upd.alloc1 (fun _ => False) _ _).alloc _).alloc _)).mono ?_; rintro r w1 hd; obtain ⟨⟨B1, rfl, hrow⟩, hu⟩ := DocR.zero hd; obtain ⟨_, hb1, hb2, hu2⟩ := three_up hu; obtain ⟨q0, q1, q2, q3, q4, q5, q6, q7⟩ := cells8 hb1; have HB1 := As.mk hb2; have HU1 := As.mk hu2; clear hd hu hb1 hb2 hu2 hrow; apply As.out)
    refine ⟨?_⟩
    have hbl : w.heap.size + 2 < w1.heap.size := (Array.getElem?_eq_some_iff.1 HB1.out).1
    have hcf : ∀ i, w1.frozen? ⟨w.heap.size + 2, i, none⟩ = false := fun i => by simp [World.frozen?, HB1.out]
    obtain ⟨k0, k1, k2, k3, k4, k5, k6, k7⟩ := cells8 HB1.out
    go_wp2
    exact bodyPost_ret (step_end (rb := w.heap.size + 1 + 1) rfl _ rfl (set8 (rb := w.heap.size + 1 + 1) HB1.out _ _ _ _ _ _ _ _)) rfl ⟨.inl ⟨rfl, rfl⟩, set8_pure HU1.out (by omega) _ _ _ _ _ _ _ _⟩
  · have HN := As.mk h0
    have f0 : (e != 0) = true := by simpa using h0
    clear h0
    go_enter Tryz.func91, Tryz.ntmps91
    go_wp2_with (go_at_call 96; refine (HD.out _ (((Upd.alloc1 (fun _ => False) _ _).alloc _).alloc _)).mono ?_; rintro r w1 hd; obtain ⟨rfl, hu⟩ := DocR.ne hd HN.out; obtain ⟨_, hb1, hb2, hu2⟩ := three_up hu; have HB1 := As.mk hb2; have HU1 := As.mk hu2; clear hd hu hb1 hb2 hu2; apply As.out)
    refine ⟨?_⟩
    have hbl : w.heap.size + 2 < w1.heap.size := (Array.getElem?_eq_some_iff.1 HB1.out).1
    have hcf : ∀ i, w1.frozen? ⟨w.heap.size + 2, i, none⟩ = false := fun i => by simp [World.frozen?, HB1.out]
    obtain ⟨k0, k1, k2, k3, k4, k5, k6, k7⟩ := cells8 HB1.out
    go_wp2
    exact bodyPost_ret (step_end (rb := w.heap.size + 1 + 1) rfl _ rfl (set8 (rb := w.heap.size + 1 + 1) HB1.out _ _ _ _ _ _ _ _)) rfl ⟨.inr ⟨HN.out, rfl⟩, set8_pure HU1.out (by omega) _ _ _ _ _ _ _ _⟩
end Go.Proofs.YtofjodppljnlaaaGreatDoor
namespace Go.Proofs.YtofjodppljnlaaaGreatDoor
open Go.RowKit
set_option linter.unusedVariables false
set_option linter.unusedSimpArgs false
/-- A step s and an error are answered. -/
def Told (s : StepD) (B : Option Addr) (c : Nat) (e : Int) (w : World) (r : Ending) (w' : World) : Prop := r = .returned (.tuple #[s.val B c, .int .i64 e]) ∧ Pure w w'
def toldS (s : StepD) (e : Int) : StepD := if e = 0 then s else repl 0 0 []
def toldB (B : Option Addr) (e : Int) : Option Addr := if e = 0 then B else none
def toldC (c : Nat) (e : Int) : Nat := if e = 0 then c else 0
theorem ToldR.told {s : StepD} {B : Option Addr} {c : Nat} {e : Int} {w w' : World} {r : Ending} (h : ToldR (s.val B c) e r ∧ Pure w w') : Told (toldS s e) (toldB B e) (toldC c e) e w r w' := by
  obtain ⟨⟨rfl, h⟩ | ⟨h0, h⟩, hu⟩ := h
  · exact ⟨h, hu⟩
  · refine ⟨?_, hu⟩
    unfold toldS toldB toldC
    rw [if_neg h0, if_neg h0, if_neg h0, h]
    rfl
theorem told_refused {s : StepD} {B : Option Addr} {c : Nat} {e : Int} (h0 : e ≠ 0) : (toldS s e).val (toldB B e) (toldC c e) = step0 := by
  unfold toldS toldB toldC
  rw [if_neg h0, if_neg h0, if_neg h0]
  rfl
set_option maxRecDepth 100000 in
set_option maxHeartbeats 4000000 in
theorem replace_calls {w : World} {cb : Nat} {A B B' : Option Addr} {c cs c' n : Nat} {f t e : Int} {sl : List Tok} {s' : StepD} (ht : ∀ W, Pure w W → Calls Tryz.prog 91 #[deskV cb A n c, (repl f t sl).val B cs] W (Told s' B' c' e W)) :
    Calls Tryz.prog 85 #[deskV cb A n c, .int .i64 f, .int .i64 t, .slice B sl.length cs] w (Told s' B' c' e w) := by
  have HT := As.mk ht
  clear ht
  unfold Told StepD.val repl at *
  go_enter Tryz.func85, Tryz.ntmps85
  go_wp2_with (go_at_call 91; refine (HT.out _ ((Upd.alloc1 (fun _ => False) _ _).alloc _)).mono ?_; rintro r w2 ⟨rfl, hu⟩; obtain ⟨_, hb2, hu2⟩ := two_up hu; have HB2 := As.mk hb2; have HU2 := As.mk hu2; clear hu hb2 hu2; apply As.out)
  refine ⟨?_⟩
  have hbl : (w.heap.size + 1) < w2.heap.size := (Array.getElem?_eq_some_iff.1 HB2.out).1
  have hcf : ∀ i, w2.frozen? ⟨(w.heap.size + 1), i, none⟩ = false := fun i => by simp [World.frozen?, HB2.out]
  obtain ⟨k0, k1, k2, k3, k4, k5, k6, k7⟩ := cells8 HB2.out
  go_wp2
  exact bodyPost_ret (step_end (rb := (w.heap.size + 1)) rfl _ rfl (set8 (rb := (w.heap.size + 1)) HB2.out _ _ _ _ _ _ _ _)) rfl ⟨rfl, set8_pure HU2.out (by omega) _ _ _ _ _ _ _ _⟩
def delErr (l : List Tok) (f t : Int) : Int := if placesErr l f t ≠ 0 then placesErr l f t else remapErr l (repl f t [])
set_option maxRecDepth 100000 in
set_option maxHeartbeats 4000000 in
theorem Delete_at {w : World} {cb : Nat} {A B' : Option Addr} {c c' n : Nat} {f t e pe : Int} {s' : StepD} (hp : ∀ W, Pure w W → Calls Tryz.prog 83 #[deskV cb A n c, .int .i64 f, .int .i64 t] W (fun r w' => r = .returned (.int .i64 pe) ∧ Pure W w'))
    (hr : pe = 0 → ∀ W, Pure w W → Calls Tryz.prog 85 #[deskV cb A n c, .int .i64 f, .int .i64 t, .slice none 0 0] W (Told s' B' c' e W)) (h0 : pe ≠ 0 → s'.val B' c' = step0 ∧ e = pe) :
    Calls Tryz.prog 31 #[.pointer (some ⟨cb, 0, none⟩), .slice A n c, .int .i64 f, .int .i64 t] w (Told s' B' c' e w) := by
  have HP := As.mk hp
  clear hp
  by_cases p0 : pe = 0
  · have HR := As.mk (hr p0)
    subst p0
    clear h0 hr
    unfold Told StepD.val at *
    go_enter Tryz.func31, Tryz.ntmps31
    go_wp2_with (first | (go_at_call 85; refine (HR.out w1 HU1.out).mono ?_; rintro r w2 ⟨rfl, hu⟩; have HB2 := As.mk ((hu.block w.heap.size (lt_of_block HB1.out) (fun h => h)).trans HB1.out); have HU2 := As.mk (HU1.out.trans hu (fun _ _ h => h)); clear hu; apply As.out) | (go_at_call 83; refine (HP.out _ ((Upd.alloc1 (fun _ => False) _ _).alloc _)).mono ?_; rintro r w1 ⟨rfl, hu⟩; obtain ⟨hb1, hb2, hu2⟩ := two_up hu; obtain ⟨q0, q1⟩ := cells2 hb2; have HB1 := As.mk hb1; have HQ1 := As.mk hb2; have HU1 := As.mk hu2; clear hu hb1 hb2 hu2))
    refine ⟨?_⟩
    have hbl : w.heap.size < w2.heap.size := (Array.getElem?_eq_some_iff.1 HB2.out).1
    have hcf : ∀ i, w2.frozen? ⟨w.heap.size, i, none⟩ = false := fun i => by simp [World.frozen?, HB2.out]
    obtain ⟨k0, k1, k2, k3, k4, k5, k6, k7⟩ := cells8 HB2.out
    go_wp2
    exact bodyPost_ret (step_end (rb := w.heap.size) rfl _ rfl (set8 (rb := w.heap.size) HB2.out _ _ _ _ _ _ _ _)) rfl ⟨rfl, set8_pure HU2.out (Nat.le_refl _) _ _ _ _ _ _ _ _⟩
  · obtain ⟨h1, rfl⟩ := h0 p0
    unfold Told
    rw [h1]
    have f0 : (e != 0) = true := by simpa using p0
    clear hr h1 h0 p0
    go_enter Tryz.func31, Tryz.ntmps31
    go_wp2_with (first | (go_at_call 84; refine (refuse_calls _).mono ?_; rintro r w2 ⟨rfl, hu⟩; have HB2 := As.mk ((hu.block w.heap.size (lt_of_block HB1.out) (fun h => h)).trans HB1.out); have HU2 := As.mk (HU1.out.trans hu (fun _ _ h => h)); clear hu; apply As.out) | (go_at_call 83; refine (HP.out _ ((Upd.alloc1 (fun _ => False) _ _).alloc _)).mono ?_; rintro r w1 ⟨rfl, hu⟩; obtain ⟨hb1, hb2, hu2⟩ := two_up hu; obtain ⟨q0, q1⟩ := cells2 hb2; have HB1 := As.mk hb1; have HQ1 := As.mk hb2; have HU1 := As.mk hu2; clear hu hb1 hb2 hu2))
    refine ⟨?_⟩
    have hbl : w.heap.size < w2.heap.size := (Array.getElem?_eq_some_iff.1 HB2.out).1
    have hcf : ∀ i, w2.frozen? ⟨w.heap.size, i, none⟩ = false := fun i => by simp [World.frozen?, HB2.out]
    obtain ⟨k0, k1, k2, k3, k4, k5, k6, k7⟩ := cells8 HB2.out
    go_wp2
    exact bodyPost_ret (step_end (rb := w.heap.size) rfl _ rfl (set8 (rb := w.heap.size) HB2.out _ _ _ _ _ _ _ _)) rfl ⟨rfl, set8_pure HU2.out (Nat.le_refl _) _ _ _ _ _ _ _ _⟩
/-- A token that is no text. -/
def plainT (l : List Tok) : Prop := ∀ x ∈ l, x.k = 0
instance (l : List Tok) : Decidable (plainT l) := by unfold plainT; infer_instance
theorem up1 {b : Nat} {w w' : World} (h : Pure w w') : Upd (fun k => k = b) w w' := (Upd.refl _ _).trans h (fun _ _ h => h.elim)
theorem set8_upd {w0 w : World} {rb : Nat} (hp : Upd (fun k => k = rb) w0 w) (y0 y1 y2 y3 y4 y5 y6 y7 : Value) : Upd (fun k => k = rb) w0 ((((((((w.setCell ⟨rb, 0, none⟩ y0).setCell ⟨rb, 1, none⟩ y1).setCell ⟨rb, 2, none⟩ y2).setCell ⟨rb, 3, none⟩ y3).setCell ⟨rb, 4, none⟩ y4).setCell ⟨rb, 5, none⟩ y5).setCell ⟨rb, 6, none⟩ y6).setCell ⟨rb, 7, none⟩ y7) :=
  hp |>.setCell (p := ⟨rb, 0, none⟩) (fun _ => rfl) _ |>.setCell (p := ⟨rb, 1, none⟩) (fun _ => rfl) _ |>.setCell (p := ⟨rb, 2, none⟩) (fun _ => rfl) _ |>.setCell (p := ⟨rb, 3, none⟩) (fun _ => rfl) _ |>.setCell (p := ⟨rb, 4, none⟩) (fun _ => rfl) _ |>.setCell (p := ⟨rb, 5, none⟩) (fun _ => rfl) _ |>.setCell (p := ⟨rb, 6, none⟩) (fun _ => rfl) _ |>.setCell (p := ⟨rb, 7, none⟩) (fun _ => rfl) _
theorem told_row {W : World} {G : Nat → Prop} {A : Option Addr} {c : Nat} {e : Int} {sl text : List Tok} (h2 : e = 0 → sl = text) (h3 : e ≠ 0 → sl = []) (hr : tokR.row W G A text) (hc : text.length ≤ c) : tokR.row W G (toldB A e) sl ∧ sl.length ≤ toldC c e := by
  unfold toldB toldC
  by_cases h0 : e = 0
  · rw [if_pos h0, if_pos h0, h2 h0]
    exact ⟨hr, hc⟩
  · rw [if_neg h0, if_neg h0, h3 h0]
    exact ⟨.inl rfl, Nat.le_refl _⟩
set_option maxRecDepth 100000 in
set_option maxHeartbeats 4000000 in
theorem Insert_at {w : World} {F : Nat → Prop} {cb : Nat} {A T : Option Addr} {c ct n : Nat} {p e pe : Int} {text : List Tok} {s' : StepD} (hx : tokR.row w F T text) (hb : text.length ≤ 1048576 * 4)
    (hp : ∀ W, Pure w W → Calls Tryz.prog 83 #[deskV cb A n c, .int .i64 p, .int .i64 p] W (fun r w' => r = .returned (.int .i64 pe) ∧ Pure W w'))
    (hr : pe = 0 → plainT text → ∀ V A1 c1, Pure w V → tokR.row V (fun _ => True) A1 text → text.length ≤ c1 → Calls Tryz.prog 85 #[deskV cb A n c, .int .i64 p, .int .i64 p, .slice A1 text.length c1] V (Told s' (toldB A1 e) (toldC c1 e) e V))
    (h0 : pe ≠ 0 → s' = repl 0 0 [] ∧ e = pe) (h1 : pe = 0 → ¬ plainT text → s' = repl 0 0 [] ∧ e = 1) (h2 : e = 0 → s'.sl = text) (h3 : e ≠ 0 → s'.sl = []) :
    Calls Tryz.prog 29 #[.pointer (some ⟨cb, 0, none⟩), .slice A n c, .int .i64 p, .slice T text.length ct] w (fun r w' => ∃ B' c', Told s' B' c' e w r w' ∧ (tokR.row w' (fun k => w.heap.size ≤ k) B' s'.sl ∧ s'.sl.length ≤ c') ∧ (e ≠ 0 → B' = none ∧ c' = 0)) := by
  have HP := As.mk hp
  have HX := As.mk hx
  have HT := As.mk (And.intro h2 h3)
  clear hp hx h2 h3
  by_cases p0 : pe = 0
  · have HR := As.mk (hr p0)
    subst p0
    clear hr
    have H1 := As.mk (h1 rfl)
    clear h0 h1
    unfold Told StepD.val at *
    go_enter Tryz.func29, Tryz.ntmps29
    go_wp2_with (go_at_call 83; refine (HP.out _ ((Upd.alloc1 (fun _ => False) _ _).alloc _)).mono ?_; rintro r w1 ⟨rfl, hu⟩; obtain ⟨hb1, hb2, hu2⟩ := two_up hu; obtain ⟨q0, q1⟩ := cells2 hb2; have HB1 := As.mk hb1; have HQ1 := As.mk hb2; have HU1 := As.mk hu2; clear hu hb1 hb2 hu2)
    go_loopg [29] text.length (fun g i wr => ∃ k : Nat, k + g = text.length ∧ i = .int .i64 k ∧ As (∀ x ∈ text.take k, x.k = 0) ∧ As (Pure w1 wr))
    case atStart => exact ⟨0, by omega, rfl, ⟨by simp⟩, ⟨Upd.refl _ _⟩⟩
    case round =>
      obtain ⟨k, hk, rfl, HK, HW⟩ := hrel
      by_cases hlt : k < text.length
      · obtain ⟨g1, rfl⟩ : ∃ m, gk = m + 1 := ⟨gk - 1, by omega⟩
        obtain ⟨x, hx⟩ : ∃ x, text[k]? = some x := ⟨_, List.getElem?_eq_getElem hlt⟩
        obtain ⟨b, o, rfl, hF, hbl, c0, c1, c2, c3⟩ := tok_at (Rp.row_pure HX.out (HU1.out.trans HW.out (fun _ _ h => h))) hx
        have HXK := As.mk hx
        have HKK := As.mk hk
        clear hx hk
        by_cases hx0 : x.k = 0
        · rw [hx0] at c0
          have HX0 := As.mk hx0
          clear hx0
          go_wp2
          go_roundg g1
          case measure => omega
          case rel => exact ⟨k + 1, by have := HKK.out; omega, by go_num, ⟨by rw [List.take_add_one, HXK.out]; intro y hy; rcases List.mem_append.1 hy with hy | hy; exact HK.out y hy; simp at hy; rw [hy]; exact HX0.out⟩, ⟨HW.out.alloc _⟩⟩
        · have HX0 := As.mk hx0
          have hbq := As.mk ((HW.out.block w.heap.size (lt_of_block HB1.out) (fun h => h)).trans HB1.out)
          go_wp2_with (go_at_call 84; refine (refuse_calls _).mono ?_; rintro r w2 ⟨rfl, hu⟩; obtain ⟨_, hu2⟩ := one_up hu; have HB2 := As.mk ((hu2.block w.heap.size (lt_of_block hbq.out) (fun h => h)).trans hbq.out); have HU2 := As.mk (HU1.out.trans (HW.out.trans hu2 (fun _ _ h => h)) (fun _ _ h => h)); clear hu hu2; apply As.out)
          refine ⟨?_⟩
          have hbl : w.heap.size < w2.heap.size := (Array.getElem?_eq_some_iff.1 HB2.out).1
          have hcf : ∀ i, w2.frozen? ⟨w.heap.size, i, none⟩ = false := fun i => by simp [World.frozen?, HB2.out]
          obtain ⟨k0, k1, k2, k3, k4, k5, k6, k7⟩ := cells8 HB2.out
          go_wp2
          exact bodyPost_ret (step_end (rb := w.heap.size) rfl _ rfl (set8 (rb := w.heap.size) HB2.out _ _ _ _ _ _ _ _)) rfl (by obtain ⟨rfl, rfl⟩ := H1.out (fun h => HX0.out (h x (List.mem_of_getElem? HXK.out))); exact ⟨none, 0, ⟨rfl, set8_pure HU2.out (Nat.le_refl _) _ _ _ _ _ _ _ _⟩, ⟨.inl rfl, Nat.zero_le _⟩, fun _ => ⟨rfl, rfl⟩⟩)
      · obtain rfl : k = text.length := by omega
        rw [List.take_length] at HK
        have HK8 := As.mk (fun v (hu : Upd (fun k => k = w.heap.size) w1 v) => cells2 ((hu.block (w.heap.size + 1) (lt_of_block HQ1.out) (by omega)).trans HQ1.out))
        obtain ⟨wo, rfl⟩ : ∃ wo : World, wo = wr := ⟨_, rfl⟩
        have HWD := As.mk (HU1.out.trans HW.out (fun _ _ h => h)).drew
        go_wp2
        refine wp_region_T (P := Tryz.prog) (fun v => v.cell? ⟨w.heap.size + 1, 0, none⟩ = some (.pointer (some ⟨cb, 0, none⟩)) ∧ v.cell? ⟨w.heap.size + 1, 1, none⟩ = some (.slice A n c)) 9 (by kernel_rfl) ?_ (fun hHeld => ?_)
        · with_reducible (first | exact HK8.out _ (up1 HW.out.drew) | exact HK8.out _ (up1 HP2.out) | exact HK8.out _ (up1 HP3.out) | exact HK8.out _ (set8_upd (up1 HP3.out) _ _ _ _ _ _ _ _))
        refine zT 0 ?_
        (try simp only [Act.put, sA, sB, sC])
        refine zT 1 ?_
        (try simp only [Act.put, sA, sB, sC])
        refine zT 2 ?_
        (try simp only [Act.put, sA, sB, sC])
        refine zT 3 ?_
        (try simp only [Act.put, sA, sB, sC])
        refine oT 4 (fun K hK => ?_)
        refine Rp.step_append_row tokR (c := ct) (Rp.own_nil tokR 71 _ (fun _ => False)) (Rp.row'_of (Rp.row_pure HX.out HWD.out) (fun _ _ h => h)) (Fz := fun _ => False) (fun _ h => h.elim) (by rfl) _ _ 22 _ 32 (by rfl) Tryz.underlying22 tok_info rfl (by decide) (by decide) (by rfl) (by rfl) (by simp; omega) ?_; intro v1 w2 ho1 hu2 hat; obtain ⟨A1, c1, rfl, hc1, hrow1⟩ := Rp.own_slice ho1; simp only [List.nil_append] at hc1 hrow1 hat; have HP2 := As.mk (Upd.trans HW.out.drew hu2 (fun k _ h => by simp [Value.ownBlock] at h)); have HP2w := As.mk (HU1.out.trans HP2.out (fun _ _ h => h)); have HG1 := As.mk (Rp.row_fp (G := fun k => w.heap.size < k) hrow1 (fun k hk => by rcases hk with hk | hk | hk; exact hk.1.elim; exact hk.elim; rcases hat with hat | ⟨b, hb, hle⟩; (rw [hat] at hk; simp [Value.ownBlock] at hk); (rw [hb] at hk; cases hk; have h7 := HW.out.size; have h8 := lt_of_block HB1.out; simp at hle; omega))); have HR1 := As.mk (Rp.row_fp (G := fun _ => True) hrow1 (fun _ _ => trivial)); have HC1 := As.mk hc1; clear ho1 hu2 hat hc1 hrow1
        refine hK.out _ _ (fun _ => by with_reducible (first | exact HK8.out _ (up1 HW.out.drew) | exact HK8.out _ (up1 HP2.out) | exact HK8.out _ (up1 HP3.out) | exact HK8.out _ (set8_upd (up1 HP3.out) _ _ _ _ _ _ _ _))) (fun hHeld => ?_)
        replace hHeld := hHeld (by decide)
        clear hK K
        (try simp only [Act.put, sA, sB, sC])
        refine oT 5 (fun K hK => ?_)
        go_simp
        (go_at_call 85; refine (HR.out HK.out w2 A1 c1 HP2w.out HR1.out HC1.out).mono ?_; rintro r w3 ⟨rfl, hu3⟩; have HP3 := As.mk (HP2.out.trans hu3 (fun _ _ h => h)); have HP3w := As.mk (HP2w.out.trans hu3 (fun _ _ h => h)); have HR3 := As.mk (Rp.row_pure HG1.out hu3); have HB3 := As.mk ((HP3.out.block w.heap.size (lt_of_block HB1.out) (fun h => h)).trans HB1.out); have hbl3 : w.heap.size < w3.heap.size := (Array.getElem?_eq_some_iff.1 HB3.out).1; have hcf3 : ∀ i, w3.frozen? ⟨w.heap.size, i, none⟩ = false := (fun i => by simp [World.frozen?, HB3.out]); obtain ⟨k0, k1, k2, k3, k4, k5, k6, k7⟩ := cells8 HB3.out; clear hu3)
        refine hK.out _ _ (fun _ => by with_reducible (first | exact HK8.out _ (up1 HW.out.drew) | exact HK8.out _ (up1 HP2.out) | exact HK8.out _ (up1 HP3.out) | exact HK8.out _ (set8_upd (up1 HP3.out) _ _ _ _ _ _ _ _))) (fun hHeld => ?_)
        replace hHeld := hHeld (by decide)
        clear hK K
        (try simp only [Act.put, sA, sB, sC])
        refine zT 6 ?_
        (try simp only [Act.put, sA, sB, sC])
        refine zT 7 ?_
        (try simp only [Act.put, sA, sB, sC])
        refine oT 8 (fun K hK => ?_)
        go_simp
        refine hK.out _ _ (fun _ => by with_reducible (first | exact HK8.out _ (up1 HW.out.drew) | exact HK8.out _ (up1 HP2.out) | exact HK8.out _ (up1 HP3.out) | exact HK8.out _ (set8_upd (up1 HP3.out) _ _ _ _ _ _ _ _))) (fun hHeld => ?_)
        replace hHeld := hHeld (by decide)
        clear hK K
        (try simp only [Act.put, sA, sB, sC])
        refine oT 9 (fun K hK => ?_)
        go_simp
        refine hK.out _ _ (fun h => absurd rfl h) (fun hHeld => ?_)
        clear hK K
        (try simp only [Act.put, sA, sB, sC])
        refine wpAnyT_done (by kernel_rfl) ?_ _
        go_wp2
        exact bodyPost_ret (step_end (rb := w.heap.size) rfl _ rfl (set8 (rb := w.heap.size) HB3.out _ _ _ _ _ _ _ _)) rfl ⟨toldB A1 e, toldC c1 e, ⟨rfl, set8_pure HP3w.out (Nat.le_refl _) _ _ _ _ _ _ _ _⟩, told_row (e := e) HT.out.1 HT.out.2 (Rp.row_fp (G := fun k => w.heap.size ≤ k) (Rp.row_upd HR3.out (set8_upd (Upd.refl _ _) _ _ _ _ _ _ _ _) (fun k _ h e => by omega)) (fun _ h => by (try have h8 := HL.out); omega)) HC1.out, fun h => ⟨if_neg h, if_neg h⟩⟩
  · obtain ⟨rfl, rfl⟩ := h0 p0
    have f0 : (e != 0) = true := by simpa using p0
    clear hr HX HT h0 h1 p0
    unfold Told StepD.val at *
    go_enter Tryz.func29, Tryz.ntmps29
    go_wp2_with (first | (go_at_call 84; refine (refuse_calls _).mono ?_; rintro r w2 ⟨rfl, hu⟩; have HB2 := As.mk ((hu.block w.heap.size (lt_of_block HB1.out) (fun h => h)).trans HB1.out); have HU2 := As.mk (HU1.out.trans hu (fun _ _ h => h)); clear hu; apply As.out) | (go_at_call 83; refine (HP.out _ ((Upd.alloc1 (fun _ => False) _ _).alloc _)).mono ?_; rintro r w1 ⟨rfl, hu⟩; obtain ⟨hb1, hb2, hu2⟩ := two_up hu; obtain ⟨q0, q1⟩ := cells2 hb2; have HB1 := As.mk hb1; have HQ1 := As.mk hb2; have HU1 := As.mk hu2; clear hu hb1 hb2 hu2))
    refine ⟨?_⟩
    have hbl : w.heap.size < w2.heap.size := (Array.getElem?_eq_some_iff.1 HB2.out).1
    have hcf : ∀ i, w2.frozen? ⟨w.heap.size, i, none⟩ = false := fun i => by simp [World.frozen?, HB2.out]
    obtain ⟨k0, k1, k2, k3, k4, k5, k6, k7⟩ := cells8 HB2.out
    go_wp2
    exact bodyPost_ret (step_end (rb := w.heap.size) rfl _ rfl (set8 (rb := w.heap.size) HB2.out _ _ _ _ _ _ _ _)) rfl ⟨none, 0, ⟨rfl, set8_pure HU2.out (Nat.le_refl _) _ _ _ _ _ _ _ _⟩, ⟨.inl rfl, Nat.zero_le _⟩, fun _ => ⟨rfl, rfl⟩⟩
end Go.Proofs.YtofjodppljnlaaaGreatDoor
namespace Go.Proofs.YtofjodppljnlaaaGreatDoor
open Go.RowKit
set_option linter.unusedVariables false
set_option linter.unusedSimpArgs false
theorem row_some {w : World} {F : Nat → Prop} {A : Option Addr} {l : List Tok} (hr : tokR.row w F A l) (hne : l ≠ []) : ∃ b o, A = some ⟨b, o, none⟩ := by
  rcases hr with h | ⟨b, o, hA, _⟩
  · exact absurd h hne
  · exact ⟨b, o, hA⟩
theorem doc_repl {w : World} {F G : Nat → Prop} {A B : Option Addr} {c cb : Nat} {l sl : List Tok} {f t : Int} (hne : l ≠ []) (hr : tokR.row w F A l) (hlc : l.length ≤ c) (hs : tokR.row w G B sl) (hsc : sl.length ≤ cb)
    (h0 : (flatCheck l).2 = 0) (h1 : stepCheck (repl f t sl) = 0) (h2 : t ≤ l.length) : DoC w A c l B cb (repl f t sl) := by
  obtain ⟨b, o, rfl⟩ := row_some hr hne
  obtain ⟨h3, h4, h5, h6, _⟩ := step_check_zero.1 h1
  have hl := flat_len h0
  have h4' : 0 ≤ f := h4
  have h5' : f ≤ t := h5
  have h3' : sl.length ≤ 2048 := h3
  intro W hW
  obtain ⟨p, rfl⟩ := Int.eq_ofNat_of_zero_le h4'
  obtain ⟨q, rfl⟩ := Int.eq_ofNat_of_zero_le (Int.le_trans h4' h5')
  have := do_repl_some (A := none) (p := p) (q := q) (Rp.row_pure hr hW) hlc (Rp.row_pure hs hW) hsc (by omega) (by omega) (by omega)
  rw [← List.append_assoc] at this
  exact this
theorem Apply_repl {w : World} {F G : Nat → Prop} {A B : Option Addr} {c cb : Nat} {l sl : List Tok} {f t : Int} (hne : l ≠ []) (hr : tokR.row w F A l) (hlc : l.length ≤ c) (hb : l.length ≤ 1048576 * 4) (hs : tokR.row w G B sl) (hsc : sl.length ≤ cb) (hsb : sl.length ≤ 1048576 * 4) :
    Calls Tryz.prog 57 #[.slice A l.length c, (repl f t sl).val B cb] w (DocR w (stepDo l (repl f t sl)) (stepErr l (repl f t sl))) :=
  Apply_calls (s := repl f t sl) hr hs hb hsb (fun h0 h1 h2 => doc_repl hne hr hlc hs hsc h0 h1 h2)
theorem tell_repl {w : World} {F G : Nat → Prop} {cb : Nat} {A B : Option Addr} {c cs : Nat} {l sl : List Tok} {f t : Int} (h : SchR w cb houseRules houseGroups) (hne : l ≠ []) (hr : tokR.row w F A l) (hlc : l.length ≤ c) (hb : l.length ≤ 1048576 * 4) (hs : tokR.row w G B sl) (hsc : sl.length ≤ cs) (hsb : sl.length ≤ 1048576 * 4) :
    Calls Tryz.prog 91 #[deskV cb A l.length c, (repl f t sl).val B cs] w (Told (toldS (repl f t sl) (remapErr l (repl f t sl))) (toldB B (remapErr l (repl f t sl))) (toldC cs (remapErr l (repl f t sl))) (remapErr l (repl f t sl)) w) :=
  (tell_calls (fun W hW => Do_calls (h.pure hW) (fun V hV => Apply_repl hne (Rp.row_pure (Rp.row_pure hr hW) hV) hlc hb (Rp.row_pure (Rp.row_pure hs hW) hV) hsc hsb))).mono (fun _ _ h => ToldR.told h)
theorem replace_repl {w : World} {F G : Nat → Prop} {cb : Nat} {A B : Option Addr} {c cs : Nat} {l sl : List Tok} {f t : Int} (h : SchR w cb houseRules houseGroups) (hne : l ≠ []) (hr : tokR.row w F A l) (hlc : l.length ≤ c) (hb : l.length ≤ 1048576 * 4) (hs : tokR.row w G B sl) (hsc : sl.length ≤ cs) (hsb : sl.length ≤ 1048576 * 4) :
    Calls Tryz.prog 85 #[deskV cb A l.length c, .int .i64 f, .int .i64 t, .slice B sl.length cs] w (Told (toldS (repl f t sl) (remapErr l (repl f t sl))) (toldB B (remapErr l (repl f t sl))) (toldC cs (remapErr l (repl f t sl))) (remapErr l (repl f t sl)) w) :=
  replace_calls (fun W hW => tell_repl (h.pure hW) hne (Rp.row_pure hr hW) hlc hb (Rp.row_pure hs hW) hsc hsb)
theorem house_ne {l : List Tok} (h : (houseCheck l).2 = 0) : l ≠ [] := by
  rintro rfl
  rw [awake_nil] at h
  exact absurd h (by decide)
theorem toldS_refused {s : StepD} {e : Int} (h : e ≠ 0) : toldS s e = repl 0 0 [] := if_neg h
def insErr (l : List Tok) (p : Int) (text : List Tok) : Int := if placesErr l p p ≠ 0 then placesErr l p p else if ¬ plainT text then 1 else remapErr l (repl p p text)
theorem Insert_new {w : World} {F G : Nat → Prop} {cb : Nat} {A T : Option Addr} {c ct : Nat} {l text : List Tok} {p : Int} (h : SchR w cb houseRules houseGroups) (hr : tokR.row w F A l) (hlc : l.length ≤ c) (hb : l.length ≤ 1048576 * 4) (hx : tokR.row w G T text) (hxb : text.length ≤ 1048576 * 4) :
    Calls Tryz.prog 29 #[.pointer (some ⟨cb, 0, none⟩), .slice A l.length c, .int .i64 p, .slice T text.length ct] w (fun r w' => ∃ B' c', Told (toldS (repl p p text) (insErr l p text)) B' c' (insErr l p text) w r w' ∧ (tokR.row w' (fun k => w.heap.size ≤ k) B' (toldS (repl p p text) (insErr l p text)).sl ∧ (toldS (repl p p text) (insErr l p text)).sl.length ≤ c') ∧ (insErr l p text ≠ 0 → B' = none ∧ c' = 0)) := by
  have hz : placesErr l p p = 0 → plainT text → insErr l p text = remapErr l (repl p p text) := by
    intro h1 h2
    unfold insErr
    rw [if_neg (by omega), if_neg (fun h => h h2)]
  refine Insert_at (pe := placesErr l p p) hx hxb (fun W hW => places_calls (h.pure hW) (Rp.row_pure hr hW) hb) (fun p0 hpl V A1 c1 hV hrow hc1 => ?_) (fun hp => ?_) (fun hp hn => ?_) (fun he => by rw [he]; rfl) (fun he => by rw [toldS_refused he]; rfl)
  · rw [hz p0 hpl]
    exact replace_repl (h.pure hV) (house_ne (places_zero.1 p0).1) (Rp.row_pure hr hV) hlc hb hrow hc1 hxb
  · have he : insErr l p text = placesErr l p p := by unfold insErr; rw [if_pos hp]
    rw [he]
    exact ⟨toldS_refused hp, rfl⟩
  · have he : insErr l p text = 1 := by unfold insErr; rw [if_neg (by omega), if_pos hn]
    rw [he]
    exact ⟨toldS_refused (by decide), rfl⟩
theorem Insert_calls {w : World} {F G : Nat → Prop} {cb : Nat} {A T : Option Addr} {c ct : Nat} {l text : List Tok} {p : Int} (h : SchR w cb houseRules houseGroups) (hr : tokR.row w F A l) (hlc : l.length ≤ c) (hb : l.length ≤ 1048576 * 4) (hx : tokR.row w G T text) (hxb : text.length ≤ 1048576 * 4) :
    Calls Tryz.prog 29 #[.pointer (some ⟨cb, 0, none⟩), .slice A l.length c, .int .i64 p, .slice T text.length ct] w (fun r w' => ∃ B' c', Told (toldS (repl p p text) (insErr l p text)) B' c' (insErr l p text) w r w' ∧ (tokR.row w' (fun _ => True) B' (toldS (repl p p text) (insErr l p text)).sl ∧ (toldS (repl p p text) (insErr l p text)).sl.length ≤ c') ∧ (insErr l p text ≠ 0 → B' = none ∧ c' = 0)) :=
  (Insert_new h hr hlc hb hx hxb).mono fun r w' ⟨B', c', h1, ⟨h2, h3⟩, h4⟩ => ⟨B', c', h1, ⟨Rp.row_fp h2 (fun _ _ => trivial), h3⟩, h4⟩
theorem Delete_calls {w : World} {F : Nat → Prop} {cb : Nat} {A : Option Addr} {c : Nat} {l : List Tok} {f t : Int} (h : SchR w cb houseRules houseGroups) (hr : tokR.row w F A l) (hlc : l.length ≤ c) (hb : l.length ≤ 1048576 * 4) :
    Calls Tryz.prog 31 #[.pointer (some ⟨cb, 0, none⟩), .slice A l.length c, .int .i64 f, .int .i64 t] w (Told (toldS (repl f t []) (delErr l f t)) none 0 (delErr l f t) w) := by
  refine Delete_at (pe := placesErr l f t) (fun W hW => places_calls (h.pure hW) (Rp.row_pure hr hW) hb) (fun p0 W hW => ?_) (fun hp => ?_)
  · have he : delErr l f t = remapErr l (repl f t []) := by unfold delErr; rw [if_neg (by omega)]
    rw [he]
    have := replace_repl (f := f) (t := t) (B := none) (cs := 0) (sl := []) (G := fun _ => True) (h.pure hW) (house_ne (places_zero.1 p0).1) (Rp.row_pure hr hW) hlc hb (.inl rfl) (Nat.le_refl _) (by simp)
    have hB : toldB none (remapErr l (repl f t [])) = none := by unfold toldB; split <;> rfl
    have hC : toldC 0 (remapErr l (repl f t [])) = 0 := by unfold toldC; split <;> rfl
    rw [hB, hC] at this
    exact this
  · have he : delErr l f t = placesErr l f t := by unfold delErr; rw [if_pos hp]
    rw [he]
    exact ⟨by rw [toldS_refused hp]; rfl, rfl⟩
end Go.Proofs.YtofjodppljnlaaaGreatDoor
namespace Go.Proofs.YtofjodppljnlaaaGreatDoor
open Go.RowKit
set_option linter.unusedVariables false
set_option linter.unusedSimpArgs false
abbrev textX : List Tok := [⟨0, 0, 120, 0⟩]
theorem awake_ins : insErr awakeDoc 1 textX = 0 := by kernel_rfl
set_option maxRecDepth 100000 in
set_option maxHeartbeats 4000000 in
theorem awake12_calls (w : World) : Calls Tryz.prog 28 #[] w fun r w' => r = .returned (.bool true) ∧ Pure w w' := by
  have HH := As.mk (fun W => House_calls W)
  have HC1 := As.mk (fun (W : World) (cb : Nat) (hs : SchR W cb houseRules houseGroups) => (by
    have hp : Pure W ((W.alloc (.cells #[.int .i64 1, .int .i64 1, .int .i64 0, .int .i64 0, .int .i64 2, .int .i64 0, .int .i64 0, .int .i64 0] 71)).alloc (.cells #[.int .i64 0, .int .i64 0, .int .i64 120, .int .i64 0] 71)) := (Upd.alloc1 _ _ _).alloc _
    have r1 : tokR.row ((W.alloc (.cells #[.int .i64 1, .int .i64 1, .int .i64 0, .int .i64 0, .int .i64 2, .int .i64 0, .int .i64 0, .int .i64 0] 71)).alloc (.cells #[.int .i64 0, .int .i64 0, .int .i64 120, .int .i64 0] 71)) (fun _ => True) (some ⟨W.heap.size, 0, none⟩) awakeDoc := Rp.row_pure (row_toks (F := fun _ => True) (heap_alloc_new W _) trivial) (Upd.alloc1 _ _ _)
    have r2 : tokR.row ((W.alloc (.cells #[.int .i64 1, .int .i64 1, .int .i64 0, .int .i64 0, .int .i64 2, .int .i64 0, .int .i64 0, .int .i64 0] 71)).alloc (.cells #[.int .i64 0, .int .i64 0, .int .i64 120, .int .i64 0] 71)) (fun _ => True) (some ⟨W.heap.size + 1, 0, none⟩) textX := row_toks (F := fun _ => True) (heap_alloc2_new W _ _) trivial
    have h1 := Insert_calls (c := 2) (ct := 1) (p := 1) (hs.pure hp) r1 (by decide) (by decide) r2 (by decide)
    rw [awake_ins] at h1
    exact h1.mono fun r w' h => (by
      obtain ⟨B', c', ⟨h2, h3⟩, _, _⟩ := h
      exact ⟨⟨B', c', h2⟩, hp.trans h3 (fun _ _ h => h)⟩) :
    Calls Tryz.prog 29 #[.pointer (some ⟨cb, 0, none⟩), .slice (some ⟨W.heap.size, 0, none⟩) 2 2, .int .i64 1, .slice (some ⟨W.heap.size + 1, 0, none⟩) 1 1] ((W.alloc (.cells #[.int .i64 1, .int .i64 1, .int .i64 0, .int .i64 0, .int .i64 2, .int .i64 0, .int .i64 0, .int .i64 0] 71)).alloc (.cells #[.int .i64 0, .int .i64 0, .int .i64 120, .int .i64 0] 71)) fun r w' => (∃ B c, r = .returned (.tuple #[.agg #[.int .i64 0, .int .i64 1, .int .i64 1, .int .i64 0, .int .i64 0, .int .i64 0, .slice B 1 c, .int .i64 0], .int .i64 0])) ∧ Pure W w'))
  go_enter Tryz.func28, Tryz.ntmps28
  go_wp2_with (first | (go_at_call 29; refine (HC1.out _ _ HS1.out).mono ?_; rintro r w2 ⟨⟨B2, c2, rfl⟩, hu⟩; have HU2 := As.mk (HU1.out.trans hu (fun _ _ h => h)); clear hu) | (go_at_call 13; refine (HH.out w).mono ?_; rintro r w1 ⟨cb1, rfl, hs, hu⟩; have HS1 := As.mk hs; have HU1 := As.mk hu; clear hu hs))
  go_ret
  exact ⟨rfl, HU2.out.alloc _⟩
end Go.Proofs.YtofjodppljnlaaaGreatDoor
namespace Go.Proofs.YtofjodppljnlaaaGreatDoor
open Go.RowKit
set_option linter.unusedVariables false
set_option linter.unusedSimpArgs false
set_option maxRecDepth 100000 in
set_option maxHeartbeats 4000000 in
theorem may12_calls {w : World} {cb : Nat} {F : Nat → Prop} {A : Option Addr} {c : Nat} {l : List Tok} {f t : Int} (h : H6 w cb) (hr : tokR.row w F A l) (hb : l.length ≤ 1048576 * 4) (hlc : l.length ≤ c) :
    Calls Tryz.prog 86 #[.pointer (some ⟨cb, 0, none⟩), .slice A l.length c, .int .i64 f, .int .i64 t] w fun r w' => r = .returned (.int .i64 (placesErr l f t)) ∧ Pure w w' := by
  have HCK := As.mk (Check6_calls (c := c) h hr hlc hb)
  have HV := As.mk (show placesErr l f t = if (houseCheck l).2 ≠ 0 then (houseCheck l).2 else if f < 0 ∨ t < f ∨ (l.length : Int) < t then 1 else 0 from rfl)
  generalize placesErr l f t = cv at *
  clear h hr
  generalize houseCheck l = ck at *
  obtain ⟨f1, f2⟩ := ck
  cases b1 : decide (f2 = 0) <;> cases b2 : decide (f < 0) <;> cases b3 : decide (t < f) <;> cases b4 : decide ((l.length : Int) < t)
  all_goals
    have c1 : (f2 != 0) = !decide (f2 = 0) := rfl
    rw [b1] at c1
    simp only [Bool.not_false, Bool.not_true] at c1
    have c3 : decide (t > (l.length : Int)) = decide ((l.length : Int) < t) := rfl
    rw [b4] at c3
    have c4 : decide (f > t) = decide (t < f) := rfl
    rw [b3] at c4
    have HB := As.mk (And.intro b1 (And.intro b2 (And.intro b3 b4)))
    clear b1
    go_enter Tryz.func86, Tryz.ntmps86
    go_wp2_with (go_at_call 16; refine HCK.out.mono ?_; rintro r w1 ⟨rfl, hu⟩; have HU1 := As.mk hu; clear hu)
    go_ret
    refine ⟨?_, HU1.out⟩
    obtain ⟨d1, d2, d3, d4⟩ := HB.out
    simp only [decide_eq_true_eq, decide_eq_false_iff_not] at d1 d2 d3 d4
    rw [HV.out]
    show Ending.returned (Value.int IntKind.i64 _) = _
    congr 2
    (repeat' split) <;> omega
set_option maxRecDepth 100000 in
set_option maxHeartbeats 4000000 in
theorem told12_calls {w : World} {cb : Nat} {A B : Option Addr} {c cs n : Nat} {s : StepD} {x : List Tok} {e : Int} (hd : ∀ W, Pure w W → Calls Tryz.prog 100 #[.pointer (some ⟨cb, 0, none⟩), .slice A n c, s.val B cs] W (DocR9 W x e)) :
    Calls Tryz.prog 87 #[.pointer (some ⟨cb, 0, none⟩), .slice A n c, s.val B cs] w (fun r w' => ToldR (s.val B cs) e r ∧ Pure w w') := by
  have HD := As.mk hd
  clear hd
  unfold StepD.val at *
  by_cases h0 : e = 0
  · subst h0
    go_enter Tryz.func87, Tryz.ntmps87
    go_wp2_with (go_at_call 100; refine (HD.out _ ((Upd.alloc1 (fun _ => False) _ _).alloc _)).mono ?_; rintro r w1 hd; obtain ⟨⟨B1, c1, rfl, _, hrow⟩, hu⟩ := DocR9.zero hd; obtain ⟨hb1, hb2, hu2⟩ := two_up hu; obtain ⟨q0, q1, q2, q3, q4, q5, q6, q7⟩ := cells8 hb1; have HQ := As.mk (Array.getElem?_eq_some_iff.1 hb1).1; have HB1 := As.mk hb2; have HU1 := As.mk hu2; clear hd hu hb1 hb2 hu2 hrow; apply As.out)
    refine ⟨?_⟩
    have hql := HQ.out
    have hbl : (w.heap.size + 1) < w1.heap.size := (Array.getElem?_eq_some_iff.1 HB1.out).1
    have hcf : ∀ i, w1.frozen? ⟨(w.heap.size + 1), i, none⟩ = false := fun i => by simp [World.frozen?, HB1.out]
    obtain ⟨k0, k1, k2, k3, k4, k5, k6, k7⟩ := cells8 HB1.out
    go_wp2
    exact bodyPost_ret (step_end (rb := (w.heap.size + 1)) rfl _ rfl (set8 (rb := (w.heap.size + 1)) HB1.out _ _ _ _ _ _ _ _)) rfl ⟨.inl ⟨rfl, rfl⟩, set8_pure HU1.out (by omega) _ _ _ _ _ _ _ _⟩
  · have HN := As.mk h0
    have f0 : (e != 0) = true := by simpa using h0
    clear h0
    go_enter Tryz.func87, Tryz.ntmps87
    go_wp2_with (go_at_call 100; refine (HD.out _ ((Upd.alloc1 (fun _ => False) _ _).alloc _)).mono ?_; rintro r w1 hd; obtain ⟨rfl, hu⟩ := DocR9.ne hd HN.out; obtain ⟨_, hb2, hu2⟩ := two_up hu; have HB1 := As.mk hb2; have HU1 := As.mk hu2; clear hd hu hb2 hu2; apply As.out)
    refine ⟨?_⟩
    have hbl : (w.heap.size + 1) < w1.heap.size := (Array.getElem?_eq_some_iff.1 HB1.out).1
    have hcf : ∀ i, w1.frozen? ⟨(w.heap.size + 1), i, none⟩ = false := fun i => by simp [World.frozen?, HB1.out]
    obtain ⟨k0, k1, k2, k3, k4, k5, k6, k7⟩ := cells8 HB1.out
    go_wp2
    exact bodyPost_ret (step_end (rb := (w.heap.size + 1)) rfl _ rfl (set8 (rb := (w.heap.size + 1)) HB1.out _ _ _ _ _ _ _ _)) rfl ⟨.inr ⟨HN.out, rfl⟩, set8_pure HU1.out (by omega) _ _ _ _ _ _ _ _⟩
theorem told12_doc {w : World} {F : Nat → Prop} {cb : Nat} {A B : Option Addr} {c cs : Nat} {l : List Tok} {s : StepD} (h : H6 w cb) (hr : tokR.row w F A l) (hb : l.length ≤ 1048576 * 4) (hd : Dn w A c l B cs s) :
    Calls Tryz.prog 87 #[.pointer (some ⟨cb, 0, none⟩), .slice A l.length c, s.val B cs] w (Told (toldS s (remapErr l s)) (toldB B (remapErr l s)) (toldC cs (remapErr l s)) (remapErr l s) w) :=
  (told12_calls (fun W hW => Do10_calls (h.pure hW) (Rp.row_pure hr hW) hb (hd.pure hW))).mono (fun _ _ h => ToldR.told h)
/-- What is asked of a step that puts tokens. -/
theorem dn_repl {w : World} {F G : Nat → Prop} {A B : Option Addr} {c cb : Nat} {l sl : List Tok} {f t : Int} (hne : l ≠ []) (hr : tokR.row w F A l) (hlc : l.length ≤ c) (hs : tokR.row w G B sl) (hsc : sl.length ≤ cb) (hsb : sl.length ≤ 1048576 * 4) : Dn w A c l B cb (repl f t sl) := by
  refine ⟨fun W hW => chk9_repl (Rp.row_pure hs hW) hsb, fun h0 h1 h2 W hW => ?_⟩
  obtain ⟨b, o, rfl⟩ := row_some hr hne
  obtain ⟨h3, h4, h5, h6, _⟩ := step_check_zero.1 h1
  have hl := flat_len h0
  have h4' : 0 ≤ f := h4
  have h5' : f ≤ t := h5
  have h3' : sl.length ≤ 2048 := h3
  have h2' : t ≤ (l.length : Int) := h2
  obtain ⟨p, rfl⟩ := Int.eq_ofNat_of_zero_le h4'
  obtain ⟨q, rfl⟩ := Int.eq_ofNat_of_zero_le (Int.le_trans h4' h5')
  have := do_repl_some9 (A := none) (p := p) (q := q) (Rp.row_pure hr hW) hlc (Rp.row_pure hs hW) hsc (by omega) (by omega) (by omega)
  rw [← List.append_assoc] at this
  exact this
set_option maxRecDepth 100000 in
set_option maxHeartbeats 4000000 in
theorem Delete12_at {w : World} {cb : Nat} {A B' : Option Addr} {c c' n : Nat} {f t e pe : Int} {s' : StepD} (hp : ∀ W, Pure w W → Calls Tryz.prog 86 #[.pointer (some ⟨cb, 0, none⟩), .slice A n c, .int .i64 f, .int .i64 t] W (fun r w' => r = .returned (.int .i64 pe) ∧ Pure W w'))
    (ht : pe = 0 → ∀ W, Pure w W → Calls Tryz.prog 87 #[.pointer (some ⟨cb, 0, none⟩), .slice A n c, (repl f t []).val none 0] W (Told s' B' c' e W)) (h0 : pe ≠ 0 → s'.val B' c' = step0 ∧ e = pe) :
    Calls Tryz.prog 32 #[.pointer (some ⟨cb, 0, none⟩), .slice A n c, .int .i64 f, .int .i64 t] w (Told s' B' c' e w) := by
  have HP := As.mk hp
  clear hp
  by_cases p0 : pe = 0
  · have HT := As.mk (ht p0)
    subst p0
    clear h0 ht
    unfold Told StepD.val repl at *
    go_enter Tryz.func32, Tryz.ntmps32
    go_wp2_with (first | (go_at_call 87; refine (HT.out _ HU1.out).mono ?_; rintro r w9 ⟨rfl, hu⟩; have HB9 := As.mk ((hu.block w.heap.size (lt_of_block HB1.out) (fun h => h)).trans HB1.out); have HU9 := As.mk (HU1.out.trans hu (fun _ _ h => h)); clear hu; apply As.out) | (go_at_call 86; refine (HP.out _ (Upd.alloc1 _ _ _)).mono ?_; rintro r w1 ⟨rfl, hu⟩; obtain ⟨hb1, hu1⟩ := one_up hu; have HB1 := As.mk hb1; have HU1 := As.mk hu1; clear hu hb1 hu1))
    refine ⟨?_⟩
    have hbl : w.heap.size < w9.heap.size := (Array.getElem?_eq_some_iff.1 HB9.out).1
    have hcf : ∀ i, w9.frozen? ⟨w.heap.size, i, none⟩ = false := fun i => by simp [World.frozen?, HB9.out]
    obtain ⟨k0, k1, k2, k3, k4, k5, k6, k7⟩ := cells8 HB9.out
    go_wp2
    exact bodyPost_ret (step_end (rb := w.heap.size) rfl _ rfl (set8 (rb := w.heap.size) HB9.out _ _ _ _ _ _ _ _)) rfl ⟨rfl, set8_pure HU9.out (Nat.le_refl _) _ _ _ _ _ _ _ _⟩
  · obtain ⟨h1, rfl⟩ := h0 p0
    unfold Told
    rw [h1]
    have f0 : (e != 0) = true := by simpa using p0
    clear ht h1 h0 p0
    go_enter Tryz.func32, Tryz.ntmps32
    go_wp2_with (go_at_call 86; refine (HP.out _ (Upd.alloc1 _ _ _)).mono ?_; rintro r w1 ⟨rfl, hu⟩; obtain ⟨hb1, hu1⟩ := one_up hu; have HB1 := As.mk hb1; have HU1 := As.mk hu1; clear hu hb1 hu1; apply As.out)
    refine ⟨?_⟩
    have hbl : w.heap.size < w1.heap.size := (Array.getElem?_eq_some_iff.1 HB1.out).1
    have hcf : ∀ i, w1.frozen? ⟨w.heap.size, i, none⟩ = false := fun i => by simp [World.frozen?, HB1.out]
    obtain ⟨k0, k1, k2, k3, k4, k5, k6, k7⟩ := cells8 HB1.out
    go_wp2
    exact bodyPost_ret (step_end (rb := w.heap.size) rfl _ rfl (set8 (rb := w.heap.size) HB1.out _ _ _ _ _ _ _ _)) rfl ⟨rfl, set8_pure HU1.out (Nat.le_refl _) _ _ _ _ _ _ _ _⟩
theorem doc_ne {l : List Tok} (h : (houseCheck l).2 = 0) : l ≠ [] := by
  rintro rfl
  rw [awake_nil] at h
  exact absurd h (by decide)
theorem Delete12_calls {w : World} {F : Nat → Prop} {cb : Nat} {A : Option Addr} {c : Nat} {l : List Tok} {f t : Int} (h : H6 w cb) (hr : tokR.row w F A l) (hlc : l.length ≤ c) (hb : l.length ≤ 1048576 * 4) :
    Calls Tryz.prog 32 #[.pointer (some ⟨cb, 0, none⟩), .slice A l.length c, .int .i64 f, .int .i64 t] w (Told (toldS (repl f t []) (delErr l f t)) (toldB none (delErr l f t)) (toldC 0 (delErr l f t)) (delErr l f t) w) := by
  refine Delete12_at (pe := placesErr l f t) (fun W hW => may12_calls (h.pure hW) (Rp.row_pure hr hW) hb hlc) (fun p0 W hW => ?_) (fun p0 => ?_)
  · have he : delErr l f t = remapErr l (repl f t []) := by unfold delErr; rw [if_neg (fun h => h p0)]
    rw [he]
    have hne := doc_ne (places_zero.1 p0).1
    exact told12_doc (h.pure hW) (Rp.row_pure hr hW) hb (dn_repl (G := fun _ => True) hne (Rp.row_pure hr hW) hlc (.inl rfl) (Nat.le_refl 0) (Nat.zero_le _))
  · have he : delErr l f t = placesErr l f t := by unfold delErr; rw [if_pos p0]
    rw [he]
    exact ⟨told_refused p0, rfl⟩
end Go.Proofs.YtofjodppljnlaaaGreatDoor
namespace Go.Proofs.YtofjodppljnlaaaGreatDoor
open Go.RowKit
set_option linter.unusedVariables false
set_option linter.unusedSimpArgs false
set_option maxRecDepth 100000 in
set_option maxHeartbeats 4000000 in
theorem Insert12_no {w : World} {cb : Nat} {A T B' : Option Addr} {c ct c' n m : Nat} {p e : Int} {s' : StepD} (hp : ∀ W, Pure w W → Calls Tryz.prog 86 #[.pointer (some ⟨cb, 0, none⟩), .slice A n c, .int .i64 p, .int .i64 p] W (fun r w' => r = .returned (.int .i64 e) ∧ Pure W w'))
    (he : e ≠ 0) (hs : s'.val B' c' = step0) :
    Calls Tryz.prog 30 #[.pointer (some ⟨cb, 0, none⟩), .slice A n c, .int .i64 p, .slice T m ct] w (Told s' B' c' e w) := by
  have HP := As.mk hp
  have f0 : (e != 0) = true := by simpa using he
  have f1 : (e == 0) = false := by simpa using he
  unfold Told
  rw [hs]
  clear hp he hs
  cases hz : decide ((0 : Int) < (m : Int))
  all_goals
    have hz2 : decide (0 < m) = decide ((0 : Int) < (m : Int)) := by simp
    rw [hz] at hz2
    go_enter Tryz.func30, Tryz.ntmps30
    go_wp2_with (go_at_call 86; refine (HP.out _ (Upd.alloc1 _ _ _)).mono ?_; rintro r w1 ⟨rfl, hu⟩; obtain ⟨hb1, hu1⟩ := one_up hu; have HB1 := As.mk hb1; have HU1 := As.mk hu1; clear hu hb1 hu1; apply As.out)
    refine ⟨?_⟩
    go_wp2
    go_loopg [10, 11] 1 (fun gg ev i wr => ev = .int .i64 e ∧ i = .int .i64 0 ∧ wr = w1)
    case atStart => exact ⟨rfl, rfl, rfl⟩
    case round =>
      obtain ⟨rfl, rfl, hw⟩ := hrel
      subst hw
      have hbl : w.heap.size < wr.heap.size := (Array.getElem?_eq_some_iff.1 HB1.out).1
      have hcf : ∀ i, wr.frozen? ⟨w.heap.size, i, none⟩ = false := fun i => by simp [World.frozen?, HB1.out]
      obtain ⟨k0, k1, k2, k3, k4, k5, k6, k7⟩ := cells8 HB1.out
      go_wp2
      exact bodyPost_ret (step_end (rb := w.heap.size) rfl _ rfl (set8 (rb := w.heap.size) HB1.out _ _ _ _ _ _ _ _)) rfl ⟨rfl, set8_pure HU1.out (Nat.le_refl _) _ _ _ _ _ _ _ _⟩
set_option maxRecDepth 100000 in
set_option maxHeartbeats 4000000 in
theorem Insert12_go {w : World} {F : Nat → Prop} {cb : Nat} {A T B' : Option Addr} {c ct c' n : Nat} {p e : Int} {text : List Tok} {s' : StepD} (hx : tokR.row w F T text) (hb : text.length ≤ 1048576 * 4) (hp : ∀ W, Pure w W → Calls Tryz.prog 86 #[.pointer (some ⟨cb, 0, none⟩), .slice A n c, .int .i64 p, .int .i64 p] W (fun r w' => r = .returned (.int .i64 0) ∧ Pure W w'))
    (ht : plainT text → ∀ W, Pure w W → Calls Tryz.prog 87 #[.pointer (some ⟨cb, 0, none⟩), .slice A n c, (repl p p text).val T ct] W (Told s' B' c' e W)) (h0 : ¬ plainT text → s'.val B' c' = step0 ∧ e = 1) :
    Calls Tryz.prog 30 #[.pointer (some ⟨cb, 0, none⟩), .slice A n c, .int .i64 p, .slice T text.length ct] w (Told s' B' c' e w) := by
  have HP := As.mk hp
  have HX := As.mk hx
  have HT := As.mk ht
  have HN := As.mk h0
  clear hp hx ht h0
  unfold Told StepD.val repl at *
  go_enter Tryz.func30, Tryz.ntmps30
  go_wp2_with (go_at_call 86; refine (HP.out _ (Upd.alloc1 _ _ _)).mono ?_; rintro r w1 ⟨rfl, hu⟩; obtain ⟨hb1, hu1⟩ := one_up hu; have HB1 := As.mk hb1; have HU1 := As.mk hu1; clear hu hb1 hu1; apply As.out)
  refine ⟨?_⟩
  go_wp2
  go_loopg [10, 11] text.length (fun gg ev i wr => ∃ (k : Nat) (e1 : Int), k + gg = text.length ∧ ev = .int .i64 e1 ∧ i = .int .i64 k ∧ wr = w1 ∧ As ((e1 = 0 ∧ ∀ x ∈ text.take k, x.k = 0) ∨ (e1 = 1 ∧ ¬ plainT text)))
  case atStart => exact ⟨0, 0, by omega, rfl, rfl, rfl, ⟨.inl ⟨rfl, by simp⟩⟩⟩
  case round =>
    obtain ⟨k, e1, hk, rfl, rfl, hw, HC⟩ := hrel
    subst hw
    have hbl : w.heap.size < wr.heap.size := (Array.getElem?_eq_some_iff.1 HB1.out).1
    have hcf : ∀ i, wr.frozen? ⟨w.heap.size, i, none⟩ = false := fun i => by simp [World.frozen?, HB1.out]
    obtain ⟨z0, z1, z2, z3, z4, z5, z6, z7⟩ := cells8 HB1.out
    rcases HC.out with ⟨rfl, hall⟩ | ⟨rfl, hnp⟩
    · by_cases hlt : k < text.length
      · obtain ⟨x, hxx⟩ : ∃ x, text[k]? = some x := ⟨_, List.getElem?_eq_getElem hlt⟩
        obtain ⟨g1, rfl⟩ : ∃ m, gk = m + 1 := ⟨gk - 1, by omega⟩
        obtain ⟨bt, ot, rfl, hFb, hbb, d0, d1, d2, d3⟩ := tok_at (Rp.row_pure HX.out HU1.out) hxx
        have HXX := As.mk hxx
        have HK := As.mk hk
        have HAL := As.mk hall
        have hkl : (k : Int) < (text.length : Int) := by omega
        have hkd : decide ((k : Int) < (text.length : Int)) = true := decide_eq_true hkl
        have hwk : IntKind.i64.wrap ((k : Int) + 1) = (k : Int) + 1 := IntWalk.i64_in _ (by omega)
        clear hxx hk hall HC
        by_cases hx0 : x.k = 0
        · have e0 : (x.k != 0) = false := by simp [hx0]
          have HX0 := As.mk hx0
          clear hx0
          go_wp2
          go_roundg g1
          case measure => omega
          case rel => exact ⟨k + 1, 0, by have := HK.out; omega, rfl, by go_num, rfl, ⟨.inl ⟨rfl, fun y hy => by
            rw [List.take_add_one, HXX.out] at hy
            rcases List.mem_append.1 hy with hy | hy
            · exact HAL.out y hy
            · simp at hy; rw [hy]; exact HX0.out⟩⟩⟩
        · have e0 : (x.k != 0) = true := by simp [hx0]
          have HX0 := As.mk hx0
          clear hx0
          go_wp2
          go_roundg g1
          case measure => omega
          case rel => exact ⟨k + 1, 1, by have := HK.out; omega, rfl, by go_num, rfl, ⟨.inr ⟨rfl, fun hp => HX0.out (hp x (List.mem_of_getElem? HXX.out))⟩⟩⟩
      · obtain rfl : k = text.length := by omega
        rw [List.take_length] at hall
        have hkd : decide ((text.length : Int) < (text.length : Int)) = false := decide_eq_false (by omega)
        have HTT := As.mk (HT.out hall)
        clear hall HC
        go_wp2_with (go_at_call 87; refine (HTT.out wr HU1.out).mono ?_; rintro r w9 ⟨rfl, hu⟩; have HB9 := As.mk ((hu.block w.heap.size (lt_of_block HB1.out) (fun h => h)).trans HB1.out); have HU9 := As.mk (HU1.out.trans hu (fun _ _ h => h)); clear hu; apply As.out)
        refine ⟨?_⟩
        clear z0 z1 z2 z3 z4 z5 z6 z7 hcf hbl
        have hbl : w.heap.size < w9.heap.size := (Array.getElem?_eq_some_iff.1 HB9.out).1
        have hcf : ∀ i, w9.frozen? ⟨w.heap.size, i, none⟩ = false := fun i => by simp [World.frozen?, HB9.out]
        obtain ⟨k0, k1, k2, k3, k4, k5, k6, k7⟩ := cells8 HB9.out
        go_wp2
        exact bodyPost_ret (step_end (rb := w.heap.size) rfl _ rfl (set8 (rb := w.heap.size) HB9.out _ _ _ _ _ _ _ _)) rfl ⟨rfl, set8_pure HU9.out (Nat.le_refl _) _ _ _ _ _ _ _ _⟩
    · obtain ⟨hs, rfl⟩ := HN.out hnp
      have HSS := As.mk hs
      cases hz : decide ((k : Int) < (text.length : Int))
      all_goals
        have hz2 : decide (k < text.length) = decide ((k : Int) < (text.length : Int)) := by simp
        rw [hz] at hz2
        clear hnp HC hs
        go_wp2
        exact bodyPost_ret (step_end (rb := w.heap.size) rfl _ rfl (set8 (rb := w.heap.size) HB1.out _ _ _ _ _ _ _ _)) rfl ⟨by rw [HSS.out]; rfl, set8_pure HU1.out (Nat.le_refl _) _ _ _ _ _ _ _ _⟩
theorem Insert12_calls {w : World} {F G : Nat → Prop} {cb : Nat} {A T : Option Addr} {c ct : Nat} {l text : List Tok} {p : Int} (h : H6 w cb) (hr : tokR.row w F A l) (hlc : l.length ≤ c) (hb : l.length ≤ 1048576 * 4) (hx : tokR.row w G T text) (hxb : text.length ≤ 1048576 * 4) (hct : text.length ≤ ct) :
    Calls Tryz.prog 30 #[.pointer (some ⟨cb, 0, none⟩), .slice A l.length c, .int .i64 p, .slice T text.length ct] w (Told (toldS (repl p p text) (insErr l p text)) (toldB T (insErr l p text)) (toldC ct (insErr l p text)) (insErr l p text) w) := by
  by_cases p0 : placesErr l p p = 0
  · refine Insert12_go hx hxb (fun W hW => (may12_calls (h.pure hW) (Rp.row_pure hr hW) hb hlc).mono (fun _ _ h => ⟨by rw [h.1, p0], h.2⟩)) (fun hpl W hW => ?_) (fun hpl => ?_)
    · have he : insErr l p text = remapErr l (repl p p text) := by unfold insErr; rw [if_neg (fun h => h p0), if_neg (fun h => h hpl)]
      rw [he]
      exact told12_doc (h.pure hW) (Rp.row_pure hr hW) hb (dn_repl (doc_ne (places_zero.1 p0).1) (Rp.row_pure hr hW) hlc (Rp.row_pure hx hW) hct hxb)
    · have he : insErr l p text = 1 := by unfold insErr; rw [if_neg (fun h => h p0), if_pos hpl]
      rw [he]
      exact ⟨told_refused (by decide), rfl⟩
  · have he : insErr l p text = placesErr l p p := by unfold insErr; rw [if_pos p0]
    rw [he]
    exact Insert12_no (fun W hW => may12_calls (h.pure hW) (Rp.row_pure hr hW) hb hlc) p0 (told_refused p0)
end Go.Proofs.YtofjodppljnlaaaGreatDoor
namespace Go.Proofs.YtofjodppljnlaaaGreatDoor
open Go.RowKit
set_option linter.unusedVariables false
set_option linter.unusedSimpArgs false
set_option maxRecDepth 100000 in
set_option maxHeartbeats 4000000 in
theorem twin_same {w : World} {F G : Nat → Prop} {A B : Option Addr} {c c' : Nat} {s : StepD} (ha : tokR.row w F A s.sl) (hb : tokR.row w G B s.sl) (hl : s.sl.length ≤ 1048576 * 4) :
    Calls Tryz.prog 88 #[s.val A c, s.val B c'] w fun r w' => r = .returned (.bool true) ∧ Pure w w' := by
  have HAL := As.mk (fun W (hu : Pure w W) => Alike_same (c := c) (c' := c') (Rp.row_pure ha hu) (Rp.row_pure hb hu) hl)
  clear ha hb
  unfold StepD.val at *
  go_enter Tryz.func88, Tryz.ntmps88
  go_wp2_with (go_at_call 139; refine (HAL.out _ ((Upd.alloc1 _ _ _).alloc _)).mono ?_; rintro r w1 ⟨rfl, hu⟩; have HU1 := As.mk (((Upd.alloc1 (fun _ => False) _ _).alloc _).trans hu (fun _ _ h => h)); clear hu)
  go_ret
  exact ⟨rfl, HU1.out⟩
set_option maxRecDepth 100000 in
set_option maxHeartbeats 4000000 in
theorem same_same {w : World} {F G : Nat → Prop} {A B : Option Addr} {c c' : Nat} {s : StepD} {e : Int} (ha : tokR.row w F A s.sl) (hb : tokR.row w G B s.sl) (hl : s.sl.length ≤ 1048576 * 4) :
    Calls Tryz.prog 33 #[s.val A c, .int .i64 e, s.val B c', .int .i64 e] w fun r w' => r = .returned (.bool true) ∧ Pure w w' := by
  have HTW := As.mk (fun W (hu : Pure w W) => twin_same (c := c) (c' := c') (Rp.row_pure ha hu) (Rp.row_pure hb hu) hl)
  clear ha hb
  unfold StepD.val at *
  go_enter Tryz.func33, Tryz.ntmps33
  go_wp2_with (go_at_call 88; refine (HTW.out _ ((Upd.alloc1 _ _ _).alloc _)).mono ?_; rintro r w1 ⟨rfl, hu⟩; have HU1 := As.mk (((Upd.alloc1 (fun _ => False) _ _).alloc _).trans hu (fun _ _ h => h)); clear hu)
  go_ret
  exact ⟨rfl, HU1.out⟩
end Go.Proofs.YtofjodppljnlaaaGreatDoor
namespace Go.Proofs.YtofjodppljnlaaaGreatDoor
open Go.RowKit
set_option linter.unusedVariables false
set_option linter.unusedSimpArgs false
/-- A text that is read, up to a place. -/
def PB (w : World) (tb : Nat) (s : ByteArray) (k : Nat) : Prop := w.heap[tb]? = some (.cells #[.string s, .int .i64 k, .bool false] 262 (0, 0))
theorem PB.pure {w w1 : World} {tb : Nat} {s : ByteArray} {k : Nat} (h : PB w tb s k) (hu : Pure w w1) : PB w1 tb s k := (hu.block _ (Array.getElem?_eq_some_iff.1 h).1 (fun h => h)).trans h
theorem PB.cells {w : World} {tb : Nat} {s : ByteArray} {k : Nat} (h : PB w tb s k) : (w.cell? ⟨tb, 0, none⟩ = some (.string s) ∧ w.cell? ⟨tb, 1, none⟩ = some (.int .i64 k) ∧ w.cell? ⟨tb, 2, none⟩ = some (.bool false)) ∧ w.frozen? ⟨tb, 1, none⟩ = false ∧ tb < w.heap.size := by
  have h' : w.heap[tb]? = some (.cells #[.string s, .int .i64 k, .bool false] 262 (0, 0)) := h
  refine ⟨⟨?_, ?_, ?_⟩, ?_, (Array.getElem?_eq_some_iff.1 h).1⟩
  · unfold World.cell?; simp only [h']; rfl
  · unfold World.cell?; simp only [h']; rfl
  · unfold World.cell?; simp only [h']; rfl
  · simp [World.frozen?, h']
theorem PB.set {w : World} {tb : Nat} {s : ByteArray} {k : Nat} (h : PB w tb s k) (m : Nat) : PB (w.setCell ⟨tb, 1, none⟩ (.int .i64 m)) tb s m := by
  have h' : w.heap[tb]? = some (.cells #[.string s, .int .i64 k, .bool false] 262 (0, 0)) := h
  unfold PB
  simp [World.setCell, Array.getElem?_modify, h']
set_option maxRecDepth 100000 in
set_option maxHeartbeats 4000000 in
theorem peek_end {w : World} {tb : Nat} {s : ByteArray} (h : PB w tb s s.size) (hs : s.size ≤ 1000) :
    Calls Tryz.prog 191 #[.pointer (some ⟨tb, 0, none⟩)] w fun r w' => r = .returned (.int .u8 0) ∧ Pure w w' := by
  have HT := As.mk h
  have hlt : ¬ ((s.size : Int) < (s.size : Int)) := by omega
  have hlt2 : decide (s.size < s.size) = false := by simp
  have heq2 : (s.size == s.size) = true := by simp
  clear h
  go_enter Tryz.func191, Tryz.ntmps191
  go_wp2
  go_loopg [] 0 (fun g wr => As (wr = w))
  case atStart => exact ⟨rfl⟩
  case round =>
    obtain rfl := hrel.out
    obtain ⟨⟨c0, c1, c2⟩, f1, htb⟩ := HT.out.cells
    have c0d : wr.drew.cell? ⟨tb, 0, none⟩ = some (.string s) := c0
    have c1d : wr.drew.cell? ⟨tb, 1, none⟩ = some (.int .i64 s.size) := c1
    have c2d : wr.drew.cell? ⟨tb, 2, none⟩ = some (.bool false) := c2
    go_wp2
    refine wp_region_held_drew (S := (fun v => v.cell? ⟨tb, 0, none⟩ = some (.string s) ∧ v.cell? ⟨tb, 1, none⟩ = some (.int .i64 s.size) ∧ v.cell? ⟨tb, 2, none⟩ = some (.bool false))) (by kernel_rfl) ?_ (fun hHeld => ?_)
    · exact ⟨c0d, c1d, c2d⟩
    refine zH 0 ?_
    (try simp only [Act.put, sA, sB, sC])
    refine zH 1 ?_
    (try simp only [Act.put, sA, sB, sC])
    refine zH 2 ?_
    (try simp only [Act.put, sA, sB, sC])
    refine zH 3 ?_
    (try simp only [Act.put, sA, sB, sC])
    refine zH 4 ?_
    (try simp only [Act.put, sA, sB, sC])
    refine zH 5 ?_
    (try simp only [Act.put, sA, sB, sC])
    refine zH 6 ?_
    (try simp only [Act.put, sA, sB, sC])
    refine zH 7 ?_
    (try simp only [Act.put, sA, sB, sC])
    refine zH 8 ?_
    (try simp only [Act.put, sA, sB, sC])
    refine zH 9 ?_
    (try simp only [Act.put, sA, sB, sC])
    refine zH 10 ?_
    (try simp only [Act.put, sA, sB, sC])
    refine wpAnyH_take (i := 11) (oi := { dst := (some 14), op := (Go.Op.move (Go.Operand.tmp 0)), type := 260, pos := "ref.go:100", after := #[{ on := 10, ground := Go.Ground.guard }], guard := (some (10, true)) }) (v := undef) rfl (by kernel_rfl) (by kernel_rfl) (by kernel_rfl) (fun _ _ _ h => h) (Or.inr ⟨by rfl, rfl⟩) (by assumption) ?_
    (try simp only [Act.put, sA, sB, sC])
    refine wpAnyH_take (i := 12) (oi := { dst := (some 15), op := (Go.Op.nilCheck (Go.Operand.tmp 14)), type := 0, pos := "ref.go:100", after := #[{ on := 11, ground := Go.Ground.data }, { on := 10, ground := Go.Ground.guard }], guard := (some (10, true)) }) (v := undef) rfl (by kernel_rfl) (by kernel_rfl) (by kernel_rfl) (fun _ _ _ h => h) (Or.inr ⟨by rfl, rfl⟩) (by assumption) ?_
    (try simp only [Act.put, sA, sB, sC])
    refine wpAnyH_take (i := 13) (oi := { dst := (some 16), op := (Go.Op.fieldAddr 262 (Go.Operand.tmp 15) 0), type := 0, pos := "ref.go:100", after := #[{ on := 12, ground := Go.Ground.data }, { on := 10, ground := Go.Ground.guard }], guard := (some (10, true)) }) (v := undef) rfl (by kernel_rfl) (by kernel_rfl) (by kernel_rfl) (fun _ _ _ h => h) (Or.inr ⟨by rfl, rfl⟩) (by assumption) ?_
    (try simp only [Act.put, sA, sB, sC])
    refine wpAnyH_take (i := 14) (oi := { dst := (some 17), op := (Go.Op.load 9 (Go.Operand.tmp 16)), type := 9, pos := "ref.go:100", after := #[{ on := 13, ground := Go.Ground.data }, { on := 10, ground := Go.Ground.guard }], guard := (some (10, true)) }) (v := undef) rfl (by kernel_rfl) (by kernel_rfl) (by kernel_rfl) (fun _ _ _ h => h) (Or.inr ⟨by rfl, rfl⟩) (by assumption) ?_
    (try simp only [Act.put, sA, sB, sC])
    refine wpAnyH_take (i := 15) (oi := { dst := (some 18), op := (Go.Op.move (Go.Operand.tmp 0)), type := 260, pos := "ref.go:100", after := #[{ on := 10, ground := Go.Ground.guard }], guard := (some (10, true)) }) (v := undef) rfl (by kernel_rfl) (by kernel_rfl) (by kernel_rfl) (fun _ _ _ h => h) (Or.inr ⟨by rfl, rfl⟩) (by assumption) ?_
    (try simp only [Act.put, sA, sB, sC])
    refine wpAnyH_take (i := 16) (oi := { dst := (some 19), op := (Go.Op.nilCheck (Go.Operand.tmp 18)), type := 0, pos := "ref.go:100", after := #[{ on := 15, ground := Go.Ground.data }, { on := 10, ground := Go.Ground.guard }], guard := (some (10, true)) }) (v := undef) rfl (by kernel_rfl) (by kernel_rfl) (by kernel_rfl) (fun _ _ _ h => h) (Or.inr ⟨by rfl, rfl⟩) (by assumption) ?_
    (try simp only [Act.put, sA, sB, sC])
    refine wpAnyH_take (i := 17) (oi := { dst := (some 20), op := (Go.Op.fieldAddr 262 (Go.Operand.tmp 19) 1), type := 0, pos := "ref.go:100", after := #[{ on := 16, ground := Go.Ground.data }, { on := 10, ground := Go.Ground.guard }], guard := (some (10, true)) }) (v := undef) rfl (by kernel_rfl) (by kernel_rfl) (by kernel_rfl) (fun _ _ _ h => h) (Or.inr ⟨by rfl, rfl⟩) (by assumption) ?_
    (try simp only [Act.put, sA, sB, sC])
    refine wpAnyH_take (i := 18) (oi := { dst := (some 21), op := (Go.Op.load 3 (Go.Operand.tmp 20)), type := 3, pos := "ref.go:100", after := #[{ on := 17, ground := Go.Ground.data }, { on := 10, ground := Go.Ground.guard }], guard := (some (10, true)) }) (v := undef) rfl (by kernel_rfl) (by kernel_rfl) (by kernel_rfl) (fun _ _ _ h => h) (Or.inr ⟨by rfl, rfl⟩) (by assumption) ?_
    (try simp only [Act.put, sA, sB, sC])
    refine wpAnyH_take (i := 19) (oi := { dst := (some 22), op := (Go.Op.index 9 (Go.Operand.tmp 17) (Go.Operand.tmp 21)), type := 5, pos := "ref.go:100", after := #[{ on := 14, ground := Go.Ground.data }, { on := 18, ground := Go.Ground.data }, { on := 10, ground := Go.Ground.guard }], guard := (some (10, true)) }) (v := undef) rfl (by kernel_rfl) (by kernel_rfl) (by kernel_rfl) (fun _ _ _ h => h) (Or.inr ⟨by rfl, rfl⟩) (by assumption) ?_
    (try simp only [Act.put, sA, sB, sC])
    refine wpAnyH_take (i := 20) (oi := { dst := (some 23), op := (Go.Op.binOp Go.BinOp.eql 5 (Go.Operand.tmp 22) (Go.Operand.const (Go.Value.int Go.IntKind.u8 32)) 5), type := 4, pos := "ref.go:100", after := #[{ on := 19, ground := Go.Ground.data }, { on := 10, ground := Go.Ground.guard }], guard := (some (10, true)) }) (v := undef) rfl (by kernel_rfl) (by kernel_rfl) (by kernel_rfl) (fun _ _ _ h => h) (Or.inr ⟨by rfl, rfl⟩) (by assumption) ?_
    (try simp only [Act.put, sA, sB, sC])
    refine zH 21 ?_
    (try simp only [Act.put, sA, sB, sC])
    refine wpAnyH_done (by kernel_rfl) ?_ _
    go_wp2
    refine wp_region_held_drew (S := (fun v => v.cell? ⟨tb, 0, none⟩ = some (.string s) ∧ v.cell? ⟨tb, 1, none⟩ = some (.int .i64 s.size) ∧ v.cell? ⟨tb, 2, none⟩ = some (.bool false))) (by kernel_rfl) ?_ (fun hHeld => ?_)
    · exact ⟨c0d, c1d, c2d⟩
    refine zH 0 ?_
    (try simp only [Act.put, sA, sB, sC])
    refine zH 1 ?_
    (try simp only [Act.put, sA, sB, sC])
    refine zH 2 ?_
    (try simp only [Act.put, sA, sB, sC])
    refine zH 3 ?_
    (try simp only [Act.put, sA, sB, sC])
    refine zH 4 ?_
    (try simp only [Act.put, sA, sB, sC])
    refine zH 5 ?_
    (try simp only [Act.put, sA, sB, sC])
    refine zH 6 ?_
    (try simp only [Act.put, sA, sB, sC])
    refine zH 7 ?_
    (try simp only [Act.put, sA, sB, sC])
    refine zH 8 ?_
    (try simp only [Act.put, sA, sB, sC])
    refine zH 9 ?_
    (try simp only [Act.put, sA, sB, sC])
    refine zH 10 ?_
    (try simp only [Act.put, sA, sB, sC])
    refine zH 11 ?_
    (try simp only [Act.put, sA, sB, sC])
    refine zH 12 ?_
    (try simp only [Act.put, sA, sB, sC])
    refine zH 13 ?_
    (try simp only [Act.put, sA, sB, sC])
    refine zH 14 ?_
    (try simp only [Act.put, sA, sB, sC])
    refine zH 15 ?_
    (try simp only [Act.put, sA, sB, sC])
    refine wpAnyH_done (by kernel_rfl) ?_ _
    go_wp2
    go_ret
    exact ⟨rfl, ((Upd.refl _ _).drew).drew⟩
set_option maxRecDepth 100000 in
set_option maxHeartbeats 4000000 in
theorem peek_at {w : World} {tb k : Nat} {s : ByteArray} (h : PB w tb s k) (hk : k < s.size) (h32 : (s[k] == 32) = false) (h0 : 1 ≤ s[k].toNat) (hs : s.size ≤ 1000) :
    Calls Tryz.prog 191 #[.pointer (some ⟨tb, 0, none⟩)] w fun r w' => r = .returned (.int .u8 s[k].toNat) ∧ Pure w w' := by
  have HT := As.mk h
  have hlt : ((k : Int) < (s.size : Int)) := by omega
  have hlt2 : decide (k < s.size) = true := by simp; exact hk
  have hlt3 : decide ((k : Int) < (s.size : Int)) = true := by simp; omega
  have heq2 : (k == s.size) = false := by simp; omega
  have heq3 : ((k : Int) == (s.size : Int)) = false := by simp; omega
  have hb1 : ((s[k].toNat : Int) == 32) = false := by
    have : s[k] ≠ 32 := by simpa using h32
    simp
    intro h
    apply this
    apply UInt8.toNat_inj.1
    have : s[k].toNat = 32 := by omega
    rw [this]; rfl
  have hb2 : (s[k].toNat == 32) = false := by
    simp at hb1 ⊢
    omega
  have hmx : max (s[k].toNat : Int) 1 = (s[k].toNat : Int) := by omega
  clear h
  go_enter Tryz.func191, Tryz.ntmps191
  go_wp2
  go_loopg [] 0 (fun g wr => As (wr = w))
  case atStart => exact ⟨rfl⟩
  case round =>
    obtain rfl := hrel.out
    obtain ⟨⟨c0, c1, c2⟩, f1, htb⟩ := HT.out.cells
    have c0d : wr.drew.cell? ⟨tb, 0, none⟩ = some (.string s) := c0
    have c1d : wr.drew.cell? ⟨tb, 1, none⟩ = some (.int .i64 k) := c1
    have c2d : wr.drew.cell? ⟨tb, 2, none⟩ = some (.bool false) := c2
    go_wp2
    refine wp_region_held_drew (S := (fun v => v.cell? ⟨tb, 0, none⟩ = some (.string s) ∧ v.cell? ⟨tb, 1, none⟩ = some (.int .i64 k) ∧ v.cell? ⟨tb, 2, none⟩ = some (.bool false))) (by kernel_rfl) ?_ (fun hHeld => ?_)
    · exact ⟨c0d, c1d, c2d⟩
    refine zH 0 ?_
    (try simp only [Act.put, sA, sB, sC])
    refine zH 1 ?_
    (try simp only [Act.put, sA, sB, sC])
    refine zH 2 ?_
    (try simp only [Act.put, sA, sB, sC])
    refine zH 3 ?_
    (try simp only [Act.put, sA, sB, sC])
    refine zH 4 ?_
    (try simp only [Act.put, sA, sB, sC])
    refine zH 5 ?_
    (try simp only [Act.put, sA, sB, sC])
    refine zH 6 ?_
    (try simp only [Act.put, sA, sB, sC])
    refine zH 7 ?_
    (try simp only [Act.put, sA, sB, sC])
    refine zH 8 ?_
    (try simp only [Act.put, sA, sB, sC])
    refine zH 9 ?_
    (try simp only [Act.put, sA, sB, sC])
    refine zH 10 ?_
    (try simp only [Act.put, sA, sB, sC])
    refine zH 11 ?_
    (try simp only [Act.put, sA, sB, sC])
    refine zH 12 ?_
    (try simp only [Act.put, sA, sB, sC])
    refine zH 13 ?_
    (try simp only [Act.put, sA, sB, sC])
    refine zH 14 ?_
    (try simp only [Act.put, sA, sB, sC])
    refine zH 15 ?_
    (try simp only [Act.put, sA, sB, sC])
    refine zH 16 ?_
    (try simp only [Act.put, sA, sB, sC])
    refine zH 17 ?_
    (try simp only [Act.put, sA, sB, sC])
    refine zH 18 ?_
    (try simp only [Act.put, sA, sB, sC])
    refine zH 19 ?_
    (try simp only [Act.put, sA, sB, sC])
    refine zH 20 ?_
    (try simp only [Act.put, sA, sB, sC])
    refine zH 21 ?_
    (try simp only [Act.put, sA, sB, sC])
    refine wpAnyH_done (by kernel_rfl) ?_ _
    go_wp2
    refine wp_region_held_drew (S := (fun v => v.cell? ⟨tb, 0, none⟩ = some (.string s) ∧ v.cell? ⟨tb, 1, none⟩ = some (.int .i64 k) ∧ v.cell? ⟨tb, 2, none⟩ = some (.bool false))) (by kernel_rfl) ?_ (fun hHeld => ?_)
    · exact ⟨c0d, c1d, c2d⟩
    refine zH 0 ?_
    (try simp only [Act.put, sA, sB, sC])
    refine zH 1 ?_
    (try simp only [Act.put, sA, sB, sC])
    refine zH 2 ?_
    (try simp only [Act.put, sA, sB, sC])
    refine zH 3 ?_
    (try simp only [Act.put, sA, sB, sC])
    refine zH 4 ?_
    (try simp only [Act.put, sA, sB, sC])
    refine zH 5 ?_
    (try simp only [Act.put, sA, sB, sC])
    refine zH 6 ?_
    (try simp only [Act.put, sA, sB, sC])
    refine zH 7 ?_
    (try simp only [Act.put, sA, sB, sC])
    refine zH 8 ?_
    (try simp only [Act.put, sA, sB, sC])
    refine zH 9 ?_
    (try simp only [Act.put, sA, sB, sC])
    refine zH 10 ?_
    (try simp only [Act.put, sA, sB, sC])
    refine zH 11 ?_
    (try simp only [Act.put, sA, sB, sC])
    refine zH 12 ?_
    (try simp only [Act.put, sA, sB, sC])
    refine zH 13 ?_
    (try simp only [Act.put, sA, sB, sC])
    refine zH 14 ?_
    (try simp only [Act.put, sA, sB, sC])
    refine zH 15 ?_
    (try simp only [Act.put, sA, sB, sC])
    refine wpAnyH_done (by kernel_rfl) ?_ _
    go_wp2
    refine wp_region_held_drew (S := (fun v => v.cell? ⟨tb, 0, none⟩ = some (.string s) ∧ v.cell? ⟨tb, 1, none⟩ = some (.int .i64 k) ∧ v.cell? ⟨tb, 2, none⟩ = some (.bool false))) (by kernel_rfl) ?_ (fun hHeld => ?_)
    · exact ⟨c0d, c1d, c2d⟩
    refine zH 0 ?_
    (try simp only [Act.put, sA, sB, sC])
    refine zH 1 ?_
    (try simp only [Act.put, sA, sB, sC])
    refine zH 2 ?_
    (try simp only [Act.put, sA, sB, sC])
    refine zH 3 ?_
    (try simp only [Act.put, sA, sB, sC])
    refine zH 4 ?_
    (try simp only [Act.put, sA, sB, sC])
    refine zH 5 ?_
    (try simp only [Act.put, sA, sB, sC])
    refine zH 6 ?_
    (try simp only [Act.put, sA, sB, sC])
    refine zH 7 ?_
    (try simp only [Act.put, sA, sB, sC])
    refine zH 8 ?_
    (try simp only [Act.put, sA, sB, sC])
    refine zH 9 ?_
    (try simp only [Act.put, sA, sB, sC])
    refine zH 10 ?_
    (try simp only [Act.put, sA, sB, sC])
    refine wpAnyH_done (by kernel_rfl) ?_ _
    go_wp2
    go_ret
    exact ⟨rfl, (((Upd.refl _ _).drew).drew).drew⟩
/-- The letters of a name with a sign. -/
theorem name_letters {s : ByteArray} {m : Nat} {kk : Int} (hn : NameSign s m kk) (i : Nat) (hi : i < m) (h : i < s.size) : 97 ≤ (s[i]'h).toNat ∧ (s[i]'h).toNat ≤ 122 := by
  have h1 := hn.nm.in_ i (Nat.zero_le _) hi
  unfold nameB at h1
  rw [Bool.and_eq_true, List.all_eq_true] at h1
  have h2 := h1.1 (s[i]'h) (by
    have e : (s.extract i (i + 1)).data = s.data.extract i (i + 1) := by
      rw [ByteArray.data_extract]
    have h' : i < s.data.size := h
    rw [e]
    have : (s.data.extract i (i + 1)).toList = [s.data[i]] := by
      rw [Array.toList_extract]
      simp only [List.extract, Nat.add_sub_cancel_left]
      rw [List.drop_eq_getElem_cons (by simpa using h')]
      simp
    rw [this]
    simp
    rfl)
  simpa [lettB] using h2
end Go.Proofs.YtofjodppljnlaaaGreatDoor
namespace Go.Proofs.YtofjodppljnlaaaGreatDoor
open Go.RowKit
set_option linter.unusedVariables false
set_option linter.unusedSimpArgs false
theorem part_step6 {w2 : World} {tb eb m : Nat} {s : ByteArray} {kk : Int} {x0 x1 x2 : Value} (hT : PB w2 tb s m) (he : w2.heap[eb]? = some (.cells #[x0, x1, x2] 92 (0, 0))) (hne : tb ≠ eb) (nm : ByteArray) (k : Nat) :
    PB (((((w2.setCell ⟨tb, 1, none⟩ (.int .i64 (k : Nat))).setCell ⟨eb, 0, none⟩ (.int .i64 kk)).setCell ⟨eb, 1, none⟩ (.string ⟨#[]⟩)).setCell ⟨eb, 2, none⟩ (.slice (some ⟨w2.heap.size, 0, none⟩) 1 1)).alloc (.cells #[.int .i64 1, .string nm, .slice none 0 0] 92)) tb s k ∧
    NameB (((((w2.setCell ⟨tb, 1, none⟩ (.int .i64 (k : Nat))).setCell ⟨eb, 0, none⟩ (.int .i64 kk)).setCell ⟨eb, 1, none⟩ (.string ⟨#[]⟩)).setCell ⟨eb, 2, none⟩ (.slice (some ⟨w2.heap.size, 0, none⟩) 1 1)).alloc (.cells #[.int .i64 1, .string nm, .slice none 0 0] 92)) w2.heap.size nm ∧
    (((((w2.setCell ⟨tb, 1, none⟩ (.int .i64 (k : Nat))).setCell ⟨eb, 0, none⟩ (.int .i64 kk)).setCell ⟨eb, 1, none⟩ (.string ⟨#[]⟩)).setCell ⟨eb, 2, none⟩ (.slice (some ⟨w2.heap.size, 0, none⟩) 1 1)).alloc (.cells #[.int .i64 1, .string nm, .slice none 0 0] 92)).heap[eb]? = some (.cells #[.int .i64 kk, .string ⟨#[]⟩, .slice (some ⟨w2.heap.size, 0, none⟩) 1 1] 92 (0, 0)) ∧
    Upd (fun q => q = tb ∨ q = eb) w2 (((((w2.setCell ⟨tb, 1, none⟩ (.int .i64 (k : Nat))).setCell ⟨eb, 0, none⟩ (.int .i64 kk)).setCell ⟨eb, 1, none⟩ (.string ⟨#[]⟩)).setCell ⟨eb, 2, none⟩ (.slice (some ⟨w2.heap.size, 0, none⟩) 1 1)).alloc (.cells #[.int .i64 1, .string nm, .slice none 0 0] 92)) := by
  have hebl := (Array.getElem?_eq_some_iff.1 he).1
  have htbl := hT.cells.2.2
  have hT1 := hT.set k
  have hu1 : Upd (fun q => q = tb) w2 (w2.setCell ⟨tb, 1, none⟩ (.int .i64 (k : Nat))) := Upd.setCell1 (S := fun q => q = tb) w2 (p := ⟨tb, 1, none⟩) rfl _
  have he1 := (hu1.block eb hebl (fun h => hne h.symm)).trans he
  have hsz : (w2.setCell ⟨tb, 1, none⟩ (.int .i64 (k : Nat))).heap.size = w2.heap.size := by simp [World.setCell]
  generalize w2.setCell ⟨tb, 1, none⟩ (.int .i64 (k : Nat)) = V at *
  have hu3 := set3U V eb (.int .i64 kk) (.string ⟨#[]⟩) (.slice (some ⟨w2.heap.size, 0, none⟩) 1 1)
  have hx : (((V.setCell ⟨eb, 0, none⟩ (.int .i64 kk)).setCell ⟨eb, 1, none⟩ (.string ⟨#[]⟩)).setCell ⟨eb, 2, none⟩ (.slice (some ⟨w2.heap.size, 0, none⟩) 1 1)).heap[eb]? = some (.cells #[.int .i64 kk, .string ⟨#[]⟩, .slice (some ⟨w2.heap.size, 0, none⟩) 1 1] 92 (0, 0)) := by
    simp [World.setCell, Array.getElem?_modify, he1]
  have hxs : (((V.setCell ⟨eb, 0, none⟩ (.int .i64 kk)).setCell ⟨eb, 1, none⟩ (.string ⟨#[]⟩)).setCell ⟨eb, 2, none⟩ (.slice (some ⟨w2.heap.size, 0, none⟩) 1 1)).heap.size = w2.heap.size := by simp [World.setCell] at hsz ⊢; exact hsz
  have hT2 : PB (((V.setCell ⟨eb, 0, none⟩ (.int .i64 kk)).setCell ⟨eb, 1, none⟩ (.string ⟨#[]⟩)).setCell ⟨eb, 2, none⟩ (.slice (some ⟨w2.heap.size, 0, none⟩) 1 1)) tb s k := (hu3.block tb (by omega) hne).trans hT1
  generalize ((V.setCell ⟨eb, 0, none⟩ (.int .i64 kk)).setCell ⟨eb, 1, none⟩ (.string ⟨#[]⟩)).setCell ⟨eb, 2, none⟩ (.slice (some ⟨w2.heap.size, 0, none⟩) 1 1) = V2 at *
  have hn := heap_alloc_new V2 (.cells #[.int .i64 1, .string nm, .slice none 0 0] 92)
  rw [hxs] at hn
  exact ⟨hT2.pure (Upd.alloc1 _ _ _), hn, (Below.heap_alloc V2 _ eb (by omega)).trans hx, (hu1.mono (fun _ _ h => .inl h)).trans (hu3.alloc _) (fun _ _ h => .inr h)⟩
structure PartT (w : World) (tb : Nat) (s : ByteArray) (m eb : Nat) (wr : World) : Prop where
  ht : PB wr tb s m
  eb : wr.heap[eb]? = some (.cells #[.int .i64 1, .string (s.extract 0 m), .slice none 0 0] 92 (0, 0))
  rb : wr.heap[w.heap.size]? = some (.cells #[.int .i64 0, .string ⟨#[]⟩, .slice none 0 0] 92 (0, 0))
  up : Upd (fun q => q = tb) w wr
structure PartS (w : World) (tb : Nat) (s : ByteArray) (m : Nat) (kk : Int) (eb nb : Nat) (wr : World) : Prop where
  ht : PB wr tb s s.size
  nm : NameB wr nb (s.extract 0 m)
  le : w.heap.size < nb
  eb : wr.heap[eb]? = some (.cells #[.int .i64 kk, .string ⟨#[]⟩, .slice (some ⟨nb, 0, none⟩) 1 1] 92 (0, 0))
  rb : wr.heap[w.heap.size]? = some (.cells #[.int .i64 0, .string ⟨#[]⟩, .slice none 0 0] 92 (0, 0))
  up : Upd (fun q => q = tb) w wr
set_option maxRecDepth 100000 in
set_option maxHeartbeats 4000000 in
theorem part6_name {w : World} {tb m : Nat} {s : ByteArray} {kk : Int} (h : PB w tb s 0) (hn : NameSign s m kk) :
    Calls Tryz.prog 219 #[.pointer (some ⟨tb, 0, none⟩)] w fun r w' => ∃ nb, r = .returned (.agg #[.int .i64 kk, .string ⟨#[]⟩, .slice (some ⟨nb, 0, none⟩) 1 1]) ∧ NameB w' nb (s.extract 0 m) ∧ w.heap.size ≤ nb ∧ PB w' tb s s.size ∧ Upd (fun q => q = tb) w w' := by
  have HLT := As.mk (fun i hi h => name_letters hn i hi h)
  have hms := hn.nm.le
  have hm0 := hn.nm.lt
  have hlen := hn.len
  have hsm := hn.nm.small
  have htb := h.cells.2.2
  have hT1 : Pure w (w.alloc (.cells #[.int .i64 0, .string ⟨#[]⟩, .slice none 0 0] 92)) := Upd.alloc1 _ _ _
  obtain ⟨a1, a2, a3⟩ := hn.c0 (by omega)
  obtain ⟨f1, f2⟩ := HLT.out 0 hm0 (by omega)
  obtain ⟨c0, hc0⟩ : ∃ c : Int, c = (s[0]'(by omega)).toNat := ⟨_, rfl⟩
  have g1 : c0 ≥ 97 := by omega
  have g2 : c0 ≤ 122 := by omega
  have HP0 := As.mk (show ∀ W, PB W tb s 0 → Calls Tryz.prog 191 #[.pointer (some ⟨tb, 0, none⟩)] W fun r w' => r = .returned (.int .u8 c0) ∧ Pure W w' from fun W hT => hc0 ▸ peek_at hT (by omega) a2 a3 hsm)
  have hsgn := hn.sg (by omega)
  obtain ⟨cm, hcm⟩ : ∃ c : Int, c = (s[m]'(by omega)).toNat := ⟨_, rfl⟩
  rw [← hcm] at hsgn
  have hc32 : ((s[m]'(by omega)) == 32) = false := by
    rw [beq_eq_false_iff_ne]
    intro e
    rw [e] at hcm
    have : cm = 32 := hcm
    omega
  have HPM := As.mk (show ∀ W, PB W tb s m → Calls Tryz.prog 191 #[.pointer (some ⟨tb, 0, none⟩)] W fun r w' => r = .returned (.int .u8 cm) ∧ Pure W w' from fun W hT => hcm ▸ peek_at hT (by omega) hc32 (by omega) hsm)
  have HPE := As.mk (fun W (hT : PB W tb s s.size) => peek_end hT hsm)
  have HCM := As.mk hcm
  have HSG := As.mk hsgn
  have HT := As.mk (h.pure hT1)
  have HT1 := As.mk hT1
  clear h hn a1 a2 a3 f1 f2 hc0 hcm hc32 hsgn hT1
  go_enter Tryz.func219, Tryz.ntmps219
  go_wp2_with (go_at_call 191; refine (HP0.out _ HT.out).mono ?_; rintro e w1 ⟨rfl, hu⟩; have HU1 := As.mk hu; clear hu; apply As.out)
  refine ⟨?_⟩
  have hz1 := HU1.out.size
  simp at hz1
  have HRB := As.mk ((HU1.out.block w.heap.size (by simp) (fun h => h)).trans (heap_alloc_new w _))
  have HTB := As.mk (HT.out.pure HU1.out)
  generalize hW : w1.alloc (.cells #[.int .i64 0, .string ⟨#[]⟩, .slice none 0 0] 92) = W
  have hPW : Pure w1 W := hW ▸ Upd.alloc1 _ _ _
  have hWs : W.heap.size = w1.heap.size + 1 := by rw [← hW]; simp
  have HEB := As.mk (show W.heap[w1.heap.size]? = some (.cells #[.int .i64 0, .string ⟨#[]⟩, .slice none 0 0] 92 (0, 0)) from hW ▸ heap_alloc_new _ _)
  have HPW := As.mk hPW
  have HTW := As.mk (HTB.out.pure hPW)
  clear hPW
  obtain ⟨⟨z0, z1, z2⟩, z3, z4⟩ := HTW.out.cells
  go_wp2
  go_loopg [] m (fun g wr => ∃ i : Nat, i + g = m ∧ As (PB wr tb s i ∧ Upd (fun q => q = tb) W wr))
  case atStart => exact ⟨0, by omega, ⟨HTW.out, Upd.refl _ _⟩⟩
  case round =>
    obtain ⟨i, hi, HP⟩ := hrel
    clear z0 z1 z2 z3
    obtain ⟨⟨c0', c1', c2'⟩, f1, htb2⟩ := HP.out.1.cells
    have c0d : wr.drew.cell? ⟨tb, 0, none⟩ = some (.string s) := c0'
    have c1d : wr.drew.cell? ⟨tb, 1, none⟩ = some (.int .i64 i) := c1'
    have hisz : i < s.size := by omega
    have hl1 : ((i : Int) < (s.size : Int)) := by omega
    have hl2 : decide (i < s.size) = true := by simp; omega
    have hl3 : decide ((i : Int) < (s.size : Int)) = true := by simp; omega
    by_cases hlt : i < m
    · obtain ⟨g1', rfl⟩ : ∃ g, gk = g + 1 := ⟨gk - 1, by omega⟩
      obtain ⟨l1, l2⟩ := HLT.out i hlt hisz
      have hwr : IntKind.i64.wrap ((i : Int) + 1) = (i : Int) + 1 := by rw [IntKind.wrap_i64]; omega
      have HI := As.mk hi
      generalize hsk : s[i]'hisz = cc at *
      have e1 : decide ((97 : Int) ≤ (cc.toNat : Int)) = true := by simp; omega
      have e2 : decide ((cc.toNat : Int) ≤ 122) = true := by simp; omega
      clear hi l1 l2
      go_wp2
      refine wp_region_held_drew (S := (fun v => v.cell? ⟨tb, 0, none⟩ = some (.string s) ∧ v.cell? ⟨tb, 1, none⟩ = some (.int .i64 i))) (by kernel_rfl) ?_ (fun hHeld => ?_)
      · exact ⟨c0d, c1d⟩
      refine zH 0 ?_
      (try simp only [Act.put, sA, sB, sC])
      refine zH 1 ?_
      (try simp only [Act.put, sA, sB, sC])
      refine zH 2 ?_
      (try simp only [Act.put, sA, sB, sC])
      refine zH 3 ?_
      (try simp only [Act.put, sA, sB, sC])
      refine zH 4 ?_
      (try simp only [Act.put, sA, sB, sC])
      refine zH 5 ?_
      (try simp only [Act.put, sA, sB, sC])
      refine zH 6 ?_
      (try simp only [Act.put, sA, sB, sC])
      refine zH 7 ?_
      (try simp only [Act.put, sA, sB, sC])
      refine zH 8 ?_
      (try simp only [Act.put, sA, sB, sC])
      refine zH 9 ?_
      (try simp only [Act.put, sA, sB, sC])
      refine zH 10 ?_
      (try simp only [Act.put, sA, sB, sC])
      refine zH 11 ?_
      (try simp only [Act.put, sA, sB, sC])
      refine zH 12 ?_
      (try simp only [Act.put, sA, sB, sC])
      refine zH 13 ?_
      (try simp only [Act.put, sA, sB, sC])
      refine zH 14 ?_
      (try simp only [Act.put, sA, sB, sC])
      refine zH 15 ?_
      (try simp only [Act.put, sA, sB, sC])
      refine zH 16 ?_
      (try simp only [Act.put, sA, sB, sC])
      refine zH 17 ?_
      (try simp only [Act.put, sA, sB, sC])
      refine zH 18 ?_
      (try simp only [Act.put, sA, sB, sC])
      refine zH 19 ?_
      (try simp only [Act.put, sA, sB, sC])
      refine zH 20 ?_
      (try simp only [Act.put, sA, sB, sC])
      refine zH 21 ?_
      (try simp only [Act.put, sA, sB, sC])
      refine zH 22 ?_
      (try simp only [Act.put, sA, sB, sC])
      refine zH 23 ?_
      (try simp only [Act.put, sA, sB, sC])
      refine zH 24 ?_
      (try simp only [Act.put, sA, sB, sC])
      refine zH 25 ?_
      (try simp only [Act.put, sA, sB, sC])
      refine zH 26 ?_
      (try simp only [Act.put, sA, sB, sC])
      refine zH 27 ?_
      (try simp only [Act.put, sA, sB, sC])
      refine zH 28 ?_
      (try simp only [Act.put, sA, sB, sC])
      refine zH 29 ?_
      (try simp only [Act.put, sA, sB, sC])
      refine zH 30 ?_
      (try simp only [Act.put, sA, sB, sC])
      refine zH 31 ?_
      (try simp only [Act.put, sA, sB, sC])
      refine zH 32 ?_
      (try simp only [Act.put, sA, sB, sC])
      refine zH 33 ?_
      (try simp only [Act.put, sA, sB, sC])
      refine wpAnyH_done (by kernel_rfl) ?_ _
      go_wp2
      go_roundg g1'
      case measure => omega
      case rel =>
        have hT2 := (HP.out.1.pure ((Upd.refl (fun _ => False) wr).drew)).set (i + 1)
        exact ⟨i + 1, by have := HI.out; omega, ⟨hT2, (HP.out.2.trans ((Upd.refl (fun _ => False) wr).drew) (fun _ _ h => h.elim)).setCell (p := ⟨tb, 1, none⟩) (fun _ => rfl) _⟩⟩
    · have him : i = m := by omega
      subst him
      have hcm := HCM.out
      have h97 : cm < 97 := by rcases HSG.out with h | h | h <;> omega
      generalize hsk : s[i]'hisz = cc at *
      have e1 : decide ((97 : Int) ≤ (cc.toNat : Int)) = false := by simp; omega
      clear hi hcm h97
      go_wp2
      refine wp_region_held_drew (S := (fun v => v.cell? ⟨tb, 0, none⟩ = some (.string s) ∧ v.cell? ⟨tb, 1, none⟩ = some (.int .i64 i))) (by kernel_rfl) ?_ (fun hHeld => ?_)
      · exact ⟨c0d, c1d⟩
      refine zH 0 ?_
      (try simp only [Act.put, sA, sB, sC])
      refine zH 1 ?_
      (try simp only [Act.put, sA, sB, sC])
      refine zH 2 ?_
      (try simp only [Act.put, sA, sB, sC])
      refine zH 3 ?_
      (try simp only [Act.put, sA, sB, sC])
      refine zH 4 ?_
      (try simp only [Act.put, sA, sB, sC])
      refine zH 5 ?_
      (try simp only [Act.put, sA, sB, sC])
      refine zH 6 ?_
      (try simp only [Act.put, sA, sB, sC])
      refine zH 7 ?_
      (try simp only [Act.put, sA, sB, sC])
      refine zH 8 ?_
      (try simp only [Act.put, sA, sB, sC])
      refine zH 9 ?_
      (try simp only [Act.put, sA, sB, sC])
      refine zH 10 ?_
      (try simp only [Act.put, sA, sB, sC])
      refine zH 11 ?_
      (try simp only [Act.put, sA, sB, sC])
      refine zH 12 ?_
      (try simp only [Act.put, sA, sB, sC])
      refine zH 13 ?_
      (try simp only [Act.put, sA, sB, sC])
      refine zH 14 ?_
      (try simp only [Act.put, sA, sB, sC])
      refine zH 15 ?_
      (try simp only [Act.put, sA, sB, sC])
      refine zH 16 ?_
      (try simp only [Act.put, sA, sB, sC])
      refine zH 17 ?_
      (try simp only [Act.put, sA, sB, sC])
      refine zH 18 ?_
      (try simp only [Act.put, sA, sB, sC])
      refine zH 19 ?_
      (try simp only [Act.put, sA, sB, sC])
      refine zH 20 ?_
      (try simp only [Act.put, sA, sB, sC])
      refine zH 21 ?_
      (try simp only [Act.put, sA, sB, sC])
      refine zH 22 ?_
      (try simp only [Act.put, sA, sB, sC])
      refine wpAnyH_take (i := 23) (oi := { dst := (some 47), op := (Go.Op.move (Go.Operand.tmp 0)), type := 260, pos := "ref.go:132", after := #[{ on := 22, ground := Go.Ground.guard }], guard := (some (22, true)) }) (v := undef) rfl (by kernel_rfl) (by kernel_rfl) (by kernel_rfl) (fun _ _ _ h => h) (Or.inr ⟨by rfl, rfl⟩) (by assumption) ?_
      (try simp only [Act.put, sA, sB, sC])
      refine wpAnyH_take (i := 24) (oi := { dst := (some 48), op := (Go.Op.nilCheck (Go.Operand.tmp 47)), type := 0, pos := "ref.go:132", after := #[{ on := 23, ground := Go.Ground.data }, { on := 22, ground := Go.Ground.guard }], guard := (some (22, true)) }) (v := undef) rfl (by kernel_rfl) (by kernel_rfl) (by kernel_rfl) (fun _ _ _ h => h) (Or.inr ⟨by rfl, rfl⟩) (by assumption) ?_
      (try simp only [Act.put, sA, sB, sC])
      refine wpAnyH_take (i := 25) (oi := { dst := (some 49), op := (Go.Op.fieldAddr 262 (Go.Operand.tmp 48) 0), type := 0, pos := "ref.go:132", after := #[{ on := 24, ground := Go.Ground.data }, { on := 22, ground := Go.Ground.guard }], guard := (some (22, true)) }) (v := undef) rfl (by kernel_rfl) (by kernel_rfl) (by kernel_rfl) (fun _ _ _ h => h) (Or.inr ⟨by rfl, rfl⟩) (by assumption) ?_
      (try simp only [Act.put, sA, sB, sC])
      refine wpAnyH_take (i := 26) (oi := { dst := (some 50), op := (Go.Op.load 9 (Go.Operand.tmp 49)), type := 9, pos := "ref.go:132", after := #[{ on := 25, ground := Go.Ground.data }, { on := 22, ground := Go.Ground.guard }], guard := (some (22, true)) }) (v := undef) rfl (by kernel_rfl) (by kernel_rfl) (by kernel_rfl) (fun _ _ _ h => h) (Or.inr ⟨by rfl, rfl⟩) (by assumption) ?_
      (try simp only [Act.put, sA, sB, sC])
      refine wpAnyH_take (i := 27) (oi := { dst := (some 51), op := (Go.Op.move (Go.Operand.tmp 0)), type := 260, pos := "ref.go:132", after := #[{ on := 22, ground := Go.Ground.guard }], guard := (some (22, true)) }) (v := undef) rfl (by kernel_rfl) (by kernel_rfl) (by kernel_rfl) (fun _ _ _ h => h) (Or.inr ⟨by rfl, rfl⟩) (by assumption) ?_
      (try simp only [Act.put, sA, sB, sC])
      refine wpAnyH_take (i := 28) (oi := { dst := (some 52), op := (Go.Op.nilCheck (Go.Operand.tmp 51)), type := 0, pos := "ref.go:132", after := #[{ on := 27, ground := Go.Ground.data }, { on := 22, ground := Go.Ground.guard }], guard := (some (22, true)) }) (v := undef) rfl (by kernel_rfl) (by kernel_rfl) (by kernel_rfl) (fun _ _ _ h => h) (Or.inr ⟨by rfl, rfl⟩) (by assumption) ?_
      (try simp only [Act.put, sA, sB, sC])
      refine wpAnyH_take (i := 29) (oi := { dst := (some 53), op := (Go.Op.fieldAddr 262 (Go.Operand.tmp 52) 1), type := 0, pos := "ref.go:132", after := #[{ on := 28, ground := Go.Ground.data }, { on := 22, ground := Go.Ground.guard }], guard := (some (22, true)) }) (v := undef) rfl (by kernel_rfl) (by kernel_rfl) (by kernel_rfl) (fun _ _ _ h => h) (Or.inr ⟨by rfl, rfl⟩) (by assumption) ?_
      (try simp only [Act.put, sA, sB, sC])
      refine wpAnyH_take (i := 30) (oi := { dst := (some 54), op := (Go.Op.load 3 (Go.Operand.tmp 53)), type := 3, pos := "ref.go:132", after := #[{ on := 29, ground := Go.Ground.data }, { on := 22, ground := Go.Ground.guard }], guard := (some (22, true)) }) (v := undef) rfl (by kernel_rfl) (by kernel_rfl) (by kernel_rfl) (fun _ _ _ h => h) (Or.inr ⟨by rfl, rfl⟩) (by assumption) ?_
      (try simp only [Act.put, sA, sB, sC])
      refine wpAnyH_take (i := 31) (oi := { dst := (some 55), op := (Go.Op.index 9 (Go.Operand.tmp 50) (Go.Operand.tmp 54)), type := 5, pos := "ref.go:132", after := #[{ on := 26, ground := Go.Ground.data }, { on := 30, ground := Go.Ground.data }, { on := 22, ground := Go.Ground.guard }], guard := (some (22, true)) }) (v := undef) rfl (by kernel_rfl) (by kernel_rfl) (by kernel_rfl) (fun _ _ _ h => h) (Or.inr ⟨by rfl, rfl⟩) (by assumption) ?_
      (try simp only [Act.put, sA, sB, sC])
      refine wpAnyH_take (i := 32) (oi := { dst := (some 56), op := (Go.Op.binOp Go.BinOp.leq 5 (Go.Operand.tmp 55) (Go.Operand.const (Go.Value.int Go.IntKind.u8 122)) 5), type := 4, pos := "ref.go:132", after := #[{ on := 31, ground := Go.Ground.data }, { on := 22, ground := Go.Ground.guard }], guard := (some (22, true)) }) (v := undef) rfl (by kernel_rfl) (by kernel_rfl) (by kernel_rfl) (fun _ _ _ h => h) (Or.inr ⟨by rfl, rfl⟩) (by assumption) ?_
      (try simp only [Act.put, sA, sB, sC])
      refine zH 33 ?_
      (try simp only [Act.put, sA, sB, sC])
      refine wpAnyH_done (by kernel_rfl) ?_ _
      have heb := (HP.out.2.block w1.heap.size (by omega) (by omega)).trans HEB.out
      have HEBr := As.mk heb
      obtain ⟨⟨_, _, _⟩, ⟨ef0, ef1, ef2⟩, hebl⟩ := cells3P heb
      have hne : ¬ tb = w1.heap.size := by omega
      have n0d : wr.drew.drew.cell? ⟨tb, 0, none⟩ = some (.string s) := c0'
      have n1d : wr.drew.drew.cell? ⟨tb, 1, none⟩ = some (.int .i64 i) := c1'
      have hsl1 : (0 : Int) ≤ (i : Int) := by omega
      have hsl2 : (i : Int) ≤ (s.size : Int) := by omega
      clear heb
      go_wp2
      refine wp_region_T (P := Tryz.prog) (fun v => (v.cell? ⟨tb, 0, none⟩ = some (.string s) ∧ v.cell? ⟨tb, 1, none⟩ = some (.int .i64 i)) ∧ v.frozen? ⟨w1.heap.size, 0, none⟩ = false ∧ v.frozen? ⟨w1.heap.size, 1, none⟩ = false ∧ v.frozen? ⟨w1.heap.size, 2, none⟩ = false) 11 (by kernel_rfl) ?_ (fun hHeld => ?_)
      · first | exact ⟨⟨((set3U _ w1.heap.size _ _ _).cell htb2 hne).trans n0d, ((set3U _ w1.heap.size _ _ _).cell htb2 hne).trans n1d⟩, by simp [World.frozen?_setCell, ef0], by simp [World.frozen?_setCell, ef1], by simp [World.frozen?_setCell, ef2]⟩ | exact ⟨⟨n0d, n1d⟩, ef0, ef1, ef2⟩
      refine zT 0 ?_
      (try simp only [Act.put, sA, sB, sC])
      refine zT 1 ?_
      (try simp only [Act.put, sA, sB, sC])
      refine zT 2 ?_
      (try simp only [Act.put, sA, sB, sC])
      refine zT 3 ?_
      (try simp only [Act.put, sA, sB, sC])
      refine zT 4 ?_
      (try simp only [Act.put, sA, sB, sC])
      refine zT 5 ?_
      (try simp only [Act.put, sA, sB, sC])
      refine zT 6 ?_
      (try simp only [Act.put, sA, sB, sC])
      refine zT 7 ?_
      (try simp only [Act.put, sA, sB, sC])
      refine zT 8 ?_
      (try simp only [Act.put, sA, sB, sC])
      refine zT 9 ?_
      (try simp only [Act.put, sA, sB, sC])
      refine zT 10 ?_
      (try simp only [Act.put, sA, sB, sC])
      refine oT 11 (fun K hK => ?_)
      go_simp
      
      refine hK.out _ _ (fun h => absurd rfl h) (fun hHeld => ?_)
      clear hK K
      (try simp only [Act.put, sA, sB, sC])
      refine wpAnyT_done (by kernel_rfl) ?_ _
      have HF : As (PartT w tb s i w1.heap.size ((((wr.setCell ⟨w1.heap.size, 0, none⟩ (.int .i64 1)).setCell ⟨w1.heap.size, 1, none⟩ (.string (s.extract 0 i))).setCell ⟨w1.heap.size, 2, none⟩ (.slice none 0 0)).drew.drew)) := ⟨by
        have hu := set3U wr w1.heap.size (.int .i64 1) (.string (s.extract 0 i)) (.slice none 0 0)
        have hx : (((wr.setCell ⟨w1.heap.size, 0, none⟩ (.int .i64 1)).setCell ⟨w1.heap.size, 1, none⟩ (.string (s.extract 0 i))).setCell ⟨w1.heap.size, 2, none⟩ (.slice none 0 0)).heap[w1.heap.size]? = some (.cells #[.int .i64 1, .string (s.extract 0 i), .slice none 0 0] 92 (0, 0)) := by
          simp [World.setCell, Array.getElem?_modify, HEBr.out]
        have h1 : Upd (fun q => q = tb) w wr := (HT1.out.mono (fun _ _ h => h.elim)).trans ((HU1.out.mono (fun _ _ h => h.elim)).trans ((HPW.out.mono (fun _ _ h => h.elim)).trans HP.out.2 (fun _ _ h => h)) (fun _ _ h => h)) (fun _ _ h => h)
        have hrb := (HP.out.2.block w.heap.size (by omega) (by omega)).trans ((HPW.out.block w.heap.size (by omega) (fun h => h)).trans HRB.out)
        refine ⟨(hu.drew.drew.block tb htb2 hne).trans HP.out.1, hx, (hu.drew.drew.block w.heap.size (by have := (Array.getElem?_eq_some_iff.1 hrb).1; omega) (by omega)).trans hrb, h1.trans hu.drew.drew (fun q hq h => by omega)⟩⟩
      clear c0' c1' c2' f1 c0d c1d n0d n1d ef0 ef1 ef2
      go_wp2
      go_loopg [] 1 (fun g wx => (g = 1 ∧ As (PartT w tb s i w1.heap.size wx)) ∨ (g = 0 ∧ ∃ nb, As (PartS w tb s i kk w1.heap.size nb wx)))
      case atStart => exact .inl ⟨rfl, HF⟩
      case round =>
        rcases hrel with ⟨rfl, HR⟩ | ⟨rfl, nb, HR⟩
        · go_wp2_with (go_at_call 191; refine (HPM.out _ HR.out.ht).mono ?_; rintro e w3 ⟨rfl, hu⟩; have HU3 := As.mk hu; clear hu; apply As.out)
          refine ⟨?_⟩
          have hT3 := HR.out.ht.pure HU3.out
          have heb3 := (HU3.out.block w1.heap.size (Array.getElem?_eq_some_iff.1 HR.out.eb).1 (fun h => h)).trans HR.out.eb
          have hrb3 := (HU3.out.block w.heap.size (Array.getElem?_eq_some_iff.1 HR.out.rb).1 (fun h => h)).trans HR.out.rb
          obtain ⟨⟨c0', c1', c2'⟩, f1, htb3⟩ := hT3.cells
          obtain ⟨⟨e0, e1, e2⟩, ⟨ef0, ef1, ef2⟩, hel⟩ := cells3P heb3
          have hrl3 := (Array.getElem?_eq_some_iff.1 hrb3).1
          have hwr : IntKind.i64.wrap ((i : Int) + 1) = (i : Int) + 1 := by rw [IntKind.wrap_i64]; omega
          have hne2 : ¬ w1.heap.size = tb := by omega
          have HT3 := As.mk hT3
          have HE3 := As.mk heb3
          have HRB3 := As.mk hrb3
          have HZ3 := As.mk HU3.out.size
          clear hT3 heb3 hrb3
          rcases HSG.out with ⟨rfl, rfl⟩ | ⟨rfl, rfl⟩ | ⟨rfl, rfl⟩
          all_goals go_wp2
          all_goals go_roundg 0
          all_goals first
            | (case measure => omega)
            | (case rel =>
                obtain ⟨p1, p2, p3, p4⟩ := part_step6 HT3.out HE3.out hne (s.extract 0 i) (i + 1)
                refine .inr ⟨rfl, _, ⟨⟨by rw [← hlen]; exact p1, p2, by have := hrl3; omega, p3, (p4.block w.heap.size hrl3 (by omega)).trans HRB3.out, ?_⟩⟩⟩
                exact (HR.out.up.trans HU3.out (fun _ _ h => h.elim)).trans p4 (fun q hq h => by omega))
        · go_wp2_with (go_at_call 191; refine (HPE.out _ HR.out.ht).mono ?_; rintro e w3 ⟨rfl, hu⟩; have HU3 := As.mk hu; clear hu; apply As.out)
          refine ⟨?_⟩
          have heb3 := (HU3.out.block w1.heap.size (Array.getElem?_eq_some_iff.1 HR.out.eb).1 (fun h => h)).trans HR.out.eb
          have hrb3 := (HU3.out.block w.heap.size (Array.getElem?_eq_some_iff.1 HR.out.rb).1 (fun h => h)).trans HR.out.rb
          obtain ⟨⟨e0, e1, e2⟩, ⟨ef0, ef1, ef2⟩, hel⟩ := cells3P heb3
          obtain ⟨⟨r0, r1, r2⟩, ⟨rf0, rf1, rf2⟩, hrl⟩ := cells3P hrb3
          clear heb3 hrb3
          go_wp2
          exact bodyPost_ret (v := .agg #[.int .i64 kk, .string ⟨#[]⟩, .slice (some ⟨nb, 0, none⟩) 1 1]) (by simp [results, Tryz.results219, go_sem, r0, r1, r2, rf0, rf1, rf2]) rfl ⟨nb, rfl, by
            have hnb := (Array.getElem?_eq_some_iff.1 HR.out.nm).1
            exact (((set3U w3 w.heap.size _ _ _).block nb (Nat.lt_of_lt_of_le hnb HU3.out.size) (by have := HR.out.le; omega)).trans ((HU3.out.block nb hnb (fun h => h)).trans HR.out.nm)), by have := HR.out.le; omega, by
            have hT := HR.out.ht.pure HU3.out
            exact ((set3U w3 w.heap.size _ _ _).block tb hT.cells.2.2 (by omega)).trans hT, (HR.out.up.trans HU3.out (fun _ _ h => h.elim)).trans (set3U w3 w.heap.size _ _ _) (fun q hq h => absurd h (by omega))⟩
end Go.Proofs.YtofjodppljnlaaaGreatDoor
namespace Go.Proofs.YtofjodppljnlaaaGreatDoor
open Go.RowKit
set_option linter.unusedVariables false
set_option linter.unusedSimpArgs false
set_option maxRecDepth 100000 in
set_option maxHeartbeats 4000000 in
theorem join_one {w : World} {lb c : Nat} {k : Int} {x1 : ByteArray} {x00 : Int} {A2 : Option Addr} {n2 c2 : Nat} (h : w.heap[lb]? = some (.cells #[.int .i64 x00, .string x1, .slice A2 n2 c2] 92 (0, 0))) :
    Calls Tryz.prog 214 #[.int .i64 k, .slice (some ⟨lb, 0, none⟩) 1 c] w fun r w' => r = .returned (.agg #[.int .i64 x00, .string x1, .slice A2 n2 c2]) ∧ Pure w w' := by
  have hT1 : Pure w (w.alloc (.cells #[.int .i64 0, .string ⟨#[]⟩, .slice none 0 0] 92)) := Upd.alloc1 _ _ _
  have hl := (Array.getElem?_eq_some_iff.1 h).1
  have h1 := (hT1.block lb hl (fun h => h)).trans h
  obtain ⟨⟨e0, e1, e2⟩, _, _⟩ := cells3P h
  have hrb := heap_alloc_new w (.cells #[.int .i64 0, .string ⟨#[]⟩, .slice none 0 0] 92)
  have HRB := As.mk hrb
  have hne : ¬ lb = w.heap.size := by omega
  clear h h1 hrb hT1
  go_enter Tryz.func214, Tryz.ntmps214
  go_wp2
  obtain ⟨⟨r0, r1, r2⟩, ⟨rf0, rf1, rf2⟩, hrl⟩ := cells3P HRB.out
  exact bodyPost_ret (v := .agg #[.int .i64 x00, .string x1, .slice A2 n2 c2]) (by simp [results, Tryz.results214, go_sem, r0, r1, r2, rf0, rf1, rf2]) rfl ⟨rfl, Upd.alloc1 _ _ _⟩
abbrev PartPost6 (w : World) (tb : Nat) (s : ByteArray) (m : Nat) (kk : Int) (r : Ending) (w' : World) : Prop := ∃ nb, r = .returned (.agg #[.int .i64 kk, .string ⟨#[]⟩, .slice (some ⟨nb, 0, none⟩) 1 1]) ∧ NameB w' nb (s.extract 0 m) ∧ w.heap.size ≤ nb ∧ PB w' tb s s.size ∧ Upd (fun q => q = tb) w w'
set_option maxRecDepth 100000 in
set_option maxHeartbeats 4000000 in
theorem seq6_name {w : World} {tb m : Nat} {s : ByteArray} {kk : Int} (h : PB w tb s 0) (hn : NameSign s m kk) : Calls Tryz.prog 213 #[.pointer (some ⟨tb, 0, none⟩)] w (PartPost6 w tb s m kk) := by
  have hsm := hn.nm.small
  have htb := h.cells.2.2
  have hT1 : Pure w (w.alloc (.cells #[.int .i64 0, .string ⟨#[]⟩, .slice none 0 0] 92)) := Upd.alloc1 _ _ _
  have HPN := As.mk (part6_name (h.pure hT1) hn)
  have HPE := As.mk (fun (W : World) (hT : PB W tb s s.size) => peek_end hT hsm)
  have HT1 := As.mk hT1
  have HRB := As.mk (heap_alloc_new w (.cells #[.int .i64 0, .string ⟨#[]⟩, .slice none 0 0] 92))
  clear h hn hT1
  go_enter Tryz.func213, Tryz.ntmps213
  go_wp2_with (go_at_call 219; refine HPN.out.mono ?_; rintro e w1 ⟨nb, rfl, hnm, hnb, hT, hu⟩; have HNM := As.mk hnm; have HNB := As.mk hnb; have HTB := As.mk hT; have HU1 := As.mk hu; clear hnm hnb hT hu; apply As.out)
  refine ⟨?_⟩
  have hz1 := HU1.out.size
  simp at hz1
  have hnb0 := HNB.out
  simp at hnb0
  have hnbl := (Array.getElem?_eq_some_iff.1 HNM.out).1
  have hrb1 := (HU1.out.block w.heap.size (by simp) (by omega)).trans HRB.out
  generalize hW : w1.alloc (.cells #[.int .i64 kk, .string ⟨#[]⟩, .slice (some ⟨nb, 0, none⟩) 1 1] 92) = W
  have hPW : Pure w1 W := hW ▸ Upd.alloc1 _ _ _
  have hWs : W.heap.size = w1.heap.size + 1 := by rw [← hW]; simp
  have HLB := As.mk (show W.heap[w1.heap.size]? = some (.cells #[.int .i64 kk, .string ⟨#[]⟩, .slice (some ⟨nb, 0, none⟩) 1 1] 92 (0, 0)) from hW ▸ heap_alloc_new _ _)
  have HTW := As.mk (HTB.out.pure hPW)
  have HRBW := As.mk ((hPW.block w.heap.size (Array.getElem?_eq_some_iff.1 hrb1).1 (fun h => h)).trans hrb1)
  have HNW := As.mk (show NameB W nb (s.extract 0 m) from (hPW.block nb hnbl (fun h => h)).trans HNM.out)
  have HUW := As.mk (show Upd (fun q => q = tb) w W from (HT1.out.mono (fun _ _ h => h.elim)).trans (HU1.out.trans hPW (fun _ _ h => h.elim)) (fun _ _ h => h))
  clear hrb1 hPW
  go_wp2
  go_loopg [3] 0 (fun g lv wr => lv = .slice (some ⟨w1.heap.size, 0, none⟩) 1 1 ∧ As (wr = W))
  case atStart => exact ⟨rfl, ⟨rfl⟩⟩
  case round =>
    obtain ⟨rfl, HWR⟩ := hrel
    obtain rfl := HWR.out
    obtain ⟨⟨c0, c1, c2⟩, f1, htb2⟩ := HTW.out.cells
    go_wp2_with (first | (go_at_call 191; refine (HPE.out _ HTW.out).mono ?_; rintro e w2 ⟨rfl, hu⟩; have HU2 := As.mk hu; clear hu) | (go_at_call 214; refine (join_one ((HU2.out.block _ (Array.getElem?_eq_some_iff.1 HLB.out).1 (fun h => h)).trans HLB.out)).mono ?_; rintro e w3 ⟨rfl, hu⟩; have HU3 := As.mk (HU2.out.trans hu (fun _ _ h => h)); clear hu; apply As.out))
    refine ⟨?_⟩
    have hrb3 := (HU3.out.block w.heap.size (Array.getElem?_eq_some_iff.1 HRBW.out).1 (fun h => h)).trans HRBW.out
    obtain ⟨⟨r0, r1, r2⟩, ⟨rf0, rf1, rf2⟩, hrl⟩ := cells3P hrb3
    clear hrb3
    go_wp2
    exact bodyPost_ret (v := .agg #[.int .i64 kk, .string ⟨#[]⟩, .slice (some ⟨nb, 0, none⟩) 1 1]) (by simp [results, Tryz.results213, go_sem, r0, r1, r2, rf0, rf1, rf2]) rfl ⟨nb, rfl, by
      have hnm3 := (HU3.out.block nb (Array.getElem?_eq_some_iff.1 HNW.out).1 (fun h => h)).trans HNW.out
      exact ((set3U w3 w.heap.size _ _ _).block nb (Array.getElem?_eq_some_iff.1 hnm3).1 (by omega)).trans hnm3, by omega, by
      have hT := HTW.out.pure HU3.out
      exact ((set3U w3 w.heap.size _ _ _).block tb hT.cells.2.2 (by omega)).trans hT, (HUW.out.trans HU3.out (fun _ _ h => h.elim)).trans (set3U w3 w.heap.size _ _ _) (fun q hq h => absurd h (by omega))⟩
set_option maxRecDepth 100000 in
set_option maxHeartbeats 4000000 in
theorem alt6_name {w : World} {tb m : Nat} {s : ByteArray} {kk : Int} (h : PB w tb s 0) (hn : NameSign s m kk) : Calls Tryz.prog 192 #[.pointer (some ⟨tb, 0, none⟩)] w (PartPost6 w tb s m kk) := by
  have hsm := hn.nm.small
  have htb := h.cells.2.2
  have hT1 : Pure w (w.alloc (.cells #[.int .i64 0, .string ⟨#[]⟩, .slice none 0 0] 92)) := Upd.alloc1 _ _ _
  have HPN := As.mk (seq6_name (h.pure hT1) hn)
  have HPE := As.mk (fun (W : World) (hT : PB W tb s s.size) => peek_end hT hsm)
  have HT1 := As.mk hT1
  have HRB := As.mk (heap_alloc_new w (.cells #[.int .i64 0, .string ⟨#[]⟩, .slice none 0 0] 92))
  clear h hn hT1
  go_enter Tryz.func192, Tryz.ntmps192
  go_wp2_with (go_at_call 213; refine HPN.out.mono ?_; rintro e w1 ⟨nb, rfl, hnm, hnb, hT, hu⟩; have HNM := As.mk hnm; have HNB := As.mk hnb; have HTB := As.mk hT; have HU1 := As.mk hu; clear hnm hnb hT hu; apply As.out)
  refine ⟨?_⟩
  have hz1 := HU1.out.size
  simp at hz1
  have hnb0 := HNB.out
  simp at hnb0
  have hnbl := (Array.getElem?_eq_some_iff.1 HNM.out).1
  have hrb1 := (HU1.out.block w.heap.size (by simp) (by omega)).trans HRB.out
  generalize hW : w1.alloc (.cells #[.int .i64 kk, .string ⟨#[]⟩, .slice (some ⟨nb, 0, none⟩) 1 1] 92) = W
  have hPW : Pure w1 W := hW ▸ Upd.alloc1 _ _ _
  have hWs : W.heap.size = w1.heap.size + 1 := by rw [← hW]; simp
  have HLB := As.mk (show W.heap[w1.heap.size]? = some (.cells #[.int .i64 kk, .string ⟨#[]⟩, .slice (some ⟨nb, 0, none⟩) 1 1] 92 (0, 0)) from hW ▸ heap_alloc_new _ _)
  have HTW := As.mk (HTB.out.pure hPW)
  have HRBW := As.mk ((hPW.block w.heap.size (Array.getElem?_eq_some_iff.1 hrb1).1 (fun h => h)).trans hrb1)
  have HNW := As.mk (show NameB W nb (s.extract 0 m) from (hPW.block nb hnbl (fun h => h)).trans HNM.out)
  have HUW := As.mk (show Upd (fun q => q = tb) w W from (HT1.out.mono (fun _ _ h => h.elim)).trans (HU1.out.trans hPW (fun _ _ h => h.elim)) (fun _ _ h => h))
  clear hrb1 hPW
  go_wp2
  go_loopg [3] 0 (fun g lv wr => lv = .slice (some ⟨w1.heap.size, 0, none⟩) 1 1 ∧ As (wr = W))
  case atStart => exact ⟨rfl, ⟨rfl⟩⟩
  case round =>
    obtain ⟨rfl, HWR⟩ := hrel
    obtain rfl := HWR.out
    obtain ⟨⟨c0, c1, c2⟩, f1, htb2⟩ := HTW.out.cells
    go_wp2_with (first | (go_at_call 191; refine (HPE.out _ HTW.out).mono ?_; rintro e w2 ⟨rfl, hu⟩; have HU2 := As.mk hu; clear hu) | (go_at_call 214; refine (join_one ((HU2.out.block _ (Array.getElem?_eq_some_iff.1 HLB.out).1 (fun h => h)).trans HLB.out)).mono ?_; rintro e w3 ⟨rfl, hu⟩; have HU3 := As.mk (HU2.out.trans hu (fun _ _ h => h)); clear hu; apply As.out))
    refine ⟨?_⟩
    have hrb3 := (HU3.out.block w.heap.size (Array.getElem?_eq_some_iff.1 HRBW.out).1 (fun h => h)).trans HRBW.out
    obtain ⟨⟨r0, r1, r2⟩, ⟨rf0, rf1, rf2⟩, hrl⟩ := cells3P hrb3
    clear hrb3
    go_wp2
    exact bodyPost_ret (v := .agg #[.int .i64 kk, .string ⟨#[]⟩, .slice (some ⟨nb, 0, none⟩) 1 1]) (by simp [results, Tryz.results192, go_sem, r0, r1, r2, rf0, rf1, rf2]) rfl ⟨nb, rfl, by
      have hnm3 := (HU3.out.block nb (Array.getElem?_eq_some_iff.1 HNW.out).1 (fun h => h)).trans HNW.out
      exact ((set3U w3 w.heap.size _ _ _).block nb (Array.getElem?_eq_some_iff.1 hnm3).1 (by omega)).trans hnm3, by omega, by
      have hT := HTW.out.pure HU3.out
      exact ((set3U w3 w.heap.size _ _ _).block tb hT.cells.2.2 (by omega)).trans hT, (HUW.out.trans HU3.out (fun _ _ h => h.elim)).trans (set3U w3 w.heap.size _ _ _) (fun q hq h => absurd h (by omega))⟩
/-- What the reference parses a text to. -/
def Parses6 (s : ByteArray) (e : Ex) : Prop := ∀ w : World, Calls Tryz.prog 164 #[.string s] w fun r w' => ∃ A c, r = .returned (.tuple #[e.val A c, .int .i64 s.size, .int .i64 0]) ∧ e.l.length ≤ c ∧ exR.row w' (fun k => w.heap.size ≤ k) A e.l ∧ Pure w w'
set_option maxRecDepth 100000 in
set_option maxHeartbeats 4000000 in
theorem parse6_name {m : Nat} {s : ByteArray} {kk : Int} (hn : NameSign s m kk) (hs : s.size ≤ 200) (hck : exprCheck (.mk kk ⟨#[]⟩ [.mk 1 (s.extract 0 m) []]) = 0) (hwt : (Ex.mk kk ⟨#[]⟩ [.mk 1 (s.extract 0 m) []]).wt ≤ 1048576 * 4) : Parses6 s (.mk kk ⟨#[]⟩ [.mk 1 (s.extract 0 m) []]) := by
  intro w
  have e2 : ¬ (200 : Int) < (s.size : Int) := by omega
  have e4 : ¬ ((s.size : Int) > 200) := by omega
  have hm := hn.nm.lt
  have hlen := hn.len
  have hsm := hn.nm.small
  obtain ⟨f1, f2⟩ := name_letters hn 0 hm (by omega)
  obtain ⟨a1, a2, a3⟩ := hn.c0 (by omega)
  obtain ⟨c0, hc0⟩ : ∃ c : Int, c = (s[0]'(by omega)).toNat := ⟨_, rfl⟩
  have g1 : (c0 == 0) = false := by simp; omega
  have HP0 := As.mk (show ∀ W tb, PB W tb s 0 → Calls Tryz.prog 191 #[.pointer (some ⟨tb, 0, none⟩)] W fun r w' => r = .returned (.int .u8 c0) ∧ Pure W w' from fun W tb hT => hc0 ▸ peek_at hT (by omega) a2 a3 hsm)
  have HPE := As.mk (fun (W : World) tb (hT : PB W tb s s.size) => peek_end hT hsm)
  have HAL := As.mk (fun (W : World) tb (hT : PB W tb s 0) => alt6_name hT hn)
  have hT1 : Pure w ((w.alloc (.cells #[.int .i64 0, .string ⟨#[]⟩, .slice none 0 0] 92)).alloc (.cells #[.string s, .int .i64 0, .bool false] 262)) := (Upd.alloc1 _ _ _).alloc _
  have hTB : PB ((w.alloc (.cells #[.int .i64 0, .string ⟨#[]⟩, .slice none 0 0] 92)).alloc (.cells #[.string s, .int .i64 0, .bool false] 262)) (w.heap.size + 1) s 0 := by
    have := heap_alloc_new (w.alloc (.cells #[.int .i64 0, .string ⟨#[]⟩, .slice none 0 0] 92)) (.cells #[.string s, .int .i64 0, .bool false] 262)
    rw [show (w.alloc (.cells #[.int .i64 0, .string ⟨#[]⟩, .slice none 0 0] 92)).heap.size = w.heap.size + 1 by simp] at this
    exact this
  have HT1 := As.mk hT1
  have HTB := As.mk hTB
  have HCK := As.mk hck
  have HWT := As.mk hwt
  have HRB := As.mk ((Below.heap_alloc (w.alloc (.cells #[.int .i64 0, .string ⟨#[]⟩, .slice none 0 0] 92)) (.cells #[.string s, .int .i64 0, .bool false] 262) w.heap.size (by simp)).trans (heap_alloc_new w _))
  clear hn hT1 hTB hck hwt f1 f2 a1 a2 a3 hc0
  go_enter Tryz.func164, Tryz.ntmps164
  go_wp2_with (first | (go_at_call 192; refine (HAL.out _ _ (HTB.out.pure HU1.out)).mono ?_; rintro e w2 ⟨nb, rfl, hnm, hnb, hT, hu⟩; have HNM := As.mk hnm; have HNB := As.mk hnb; have HT2 := As.mk hT; have HU2 := As.mk hu; clear hnm hnb hT hu; apply As.out) | (go_at_call 191; refine (HP0.out _ _ HTB.out).mono ?_; rintro e w1 ⟨rfl, hu⟩; have HU1 := As.mk hu; clear hu))
  refine ⟨?_⟩
  have hz1 := HU1.out.size
  simp at hz1
  have hz2 := HU2.out.size
  have hnb0 := HNB.out
  have hrb2 := (HU2.out.block w.heap.size (by omega) (by omega)).trans ((HU1.out.block w.heap.size (by simp; omega) (fun h => h)).trans HRB.out)
  have HRB2 := As.mk hrb2
  obtain ⟨⟨r0, r1, r2⟩, ⟨rf0, rf1, rf2⟩, hrl⟩ := cells3P hrb2
  have HNMb := As.mk (Array.getElem?_eq_some_iff.1 HNM.out).1
  obtain ⟨⟨c0', c1', c2'⟩, pf1, htb2⟩ := HT2.out.cells
  have HP02 := As.mk (show Pure w w2 from (HT1.out.trans HU1.out (fun _ _ h => h)).trans HU2.out (fun q hq h => by omega))
  clear hrb2
  generalize hW : w2.alloc (.cells #[.int .i64 kk, .string ⟨#[]⟩, .slice (some ⟨nb, 0, none⟩) 1 1] 92) = W
  have hPW : Pure w2 W := hW ▸ Upd.alloc1 _ _ _
  have HPW := As.mk hPW
  have HPWW := As.mk (HP02.out.trans hPW (fun _ _ h => h))
  have HTW := As.mk (HT2.out.pure hPW)
  have HE := As.mk (show W.heap[w2.heap.size]? = some (.cells #[.int .i64 kk, .string ⟨#[]⟩, .slice (some ⟨nb, 0, none⟩) 1 1] 92 (0, 0)) from hW ▸ heap_alloc_new _ _)
  have HNW := As.mk (show NameB W nb (s.extract 0 m) from (hPW.block nb HNMb.out (fun h => h)).trans HNM.out)
  have HRBW := As.mk ((hPW.block w.heap.size hrl (fun h => h)).trans HRB2.out)
  clear hPW r0 r1 r2 rf0 rf1 rf2 c0' c1' c2' pf1
  obtain ⟨⟨c0', c1', c2'⟩, pf1, htb3⟩ := HTW.out.cells
  go_wp2_with (go_at_call 191; refine (HPE.out _ _ HTW.out).mono ?_; rintro e w3 ⟨rfl, hu⟩; have HU3 := As.mk hu; clear hu; apply As.out)
  refine ⟨?_⟩
  obtain ⟨⟨e0, e1, e2'⟩, _, hel⟩ := cells3P ((HU3.out.block _ (Array.getElem?_eq_some_iff.1 HE.out).1 (fun h => h)).trans HE.out)
  have HN3 := As.mk (show NameB w3 nb (s.extract 0 m) from (HU3.out.block nb (Array.getElem?_eq_some_iff.1 HNW.out).1 (fun h => h)).trans HNW.out)
  have HC3 := As.mk (show Calls Tryz.prog 168 #[.agg #[.int .i64 kk, .string ⟨#[]⟩, .slice (some ⟨nb, 0, none⟩) 1 1]] w3 fun r w' => r = .returned (.int .i64 0) ∧ Pure w3 w' from HCK.out ▸ exprCheck5_calls (e := .mk kk ⟨#[]⟩ [.mk 1 (s.extract 0 m) []]) (A := some ⟨nb, 0, none⟩) (c := 1) (F := fun _ => True) (name_row HN3.out trivial) HWT.out)
  go_wp2_with (go_at_call 168; refine HC3.out.mono ?_; rintro e w4 ⟨rfl, hu⟩; have HU4 := As.mk (HU3.out.trans hu (fun _ _ h => h)); clear hu; apply As.out)
  refine ⟨?_⟩
  clear e0 e1 e2'
  obtain ⟨⟨e0, e1, e2'⟩, _, hel4⟩ := cells3P ((HU4.out.block _ (Array.getElem?_eq_some_iff.1 HE.out).1 (fun h => h)).trans HE.out)
  have hrb4 := (HU4.out.block w.heap.size (Array.getElem?_eq_some_iff.1 HRBW.out).1 (fun h => h)).trans HRBW.out
  obtain ⟨⟨r0, r1, r2⟩, ⟨rf0, rf1, rf2⟩, hrl4⟩ := cells3P hrb4
  clear hrb4
  go_wp2
  exact bodyPost_ret (v := .tuple #[.agg #[.int .i64 kk, .string ⟨#[]⟩, .slice (some ⟨nb, 0, none⟩) 1 1], .int .i64 s.size, .int .i64 0]) (by simp [results, Tryz.results164, go_sem, r0, r1, r2, rf0, rf1, rf2]) rfl ⟨some ⟨nb, 0, none⟩, 1, rfl, Nat.le_refl _, name_row (show NameB _ nb (s.extract 0 m) from by
    have hn4 := (HU4.out.block nb (Array.getElem?_eq_some_iff.1 HNW.out).1 (fun h => h)).trans HNW.out
    exact ((set3U w4 w.heap.size _ _ _).block nb (Array.getElem?_eq_some_iff.1 hn4).1 (by omega)).trans hn4) (by omega), (HPWW.out.trans HU4.out (fun _ _ h => h)).trans (set3U w4 w.heap.size _ _ _) (fun q hq h => by omega)⟩
set_option maxRecDepth 100000 in
set_option maxHeartbeats 4000000 in
theorem parse6_empty : Parses6 ⟨#[]⟩ (.mk 0 ⟨#[]⟩ []) := by
  intro w
  have hT1 : Pure w ((w.alloc (.cells #[.int .i64 0, .string ⟨#[]⟩, .slice none 0 0] 92)).alloc (.cells #[.string ⟨#[]⟩, .int .i64 0, .bool false] 262)) := (Upd.alloc1 _ _ _).alloc _
  have hTB : PB ((w.alloc (.cells #[.int .i64 0, .string ⟨#[]⟩, .slice none 0 0] 92)).alloc (.cells #[.string ⟨#[]⟩, .int .i64 0, .bool false] 262)) (w.heap.size + 1) ⟨#[]⟩ 0 := by
    have := heap_alloc_new (w.alloc (.cells #[.int .i64 0, .string ⟨#[]⟩, .slice none 0 0] 92)) (.cells #[.string ⟨#[]⟩, .int .i64 0, .bool false] 262)
    rw [show (w.alloc (.cells #[.int .i64 0, .string ⟨#[]⟩, .slice none 0 0] 92)).heap.size = w.heap.size + 1 by simp] at this
    exact this
  have HPE := As.mk (peek_end (s := ⟨#[]⟩) hTB (by decide))
  have HT1 := As.mk hT1
  have HRB := As.mk ((Below.heap_alloc (w.alloc (.cells #[.int .i64 0, .string ⟨#[]⟩, .slice none 0 0] 92)) (.cells #[.string ⟨#[]⟩, .int .i64 0, .bool false] 262) w.heap.size (by simp)).trans (heap_alloc_new w _))
  clear hT1 hTB
  go_enter Tryz.func164, Tryz.ntmps164
  go_wp2_with (go_at_call 191; refine HPE.out.mono ?_; rintro e w1 ⟨rfl, hu⟩; have HU1 := As.mk hu; clear hu; apply As.out)
  refine ⟨?_⟩
  have hz1 := HU1.out.size
  simp at hz1
  have hrb1 := (HU1.out.block w.heap.size (by simp; omega) (fun h => h)).trans HRB.out
  obtain ⟨⟨r0, r1, r2⟩, ⟨rf0, rf1, rf2⟩, hrl⟩ := cells3P hrb1
  clear hrb1
  go_wp2
  exact bodyPost_ret (v := .tuple #[.agg #[.int .i64 0, .string ⟨#[]⟩, .slice none 0 0], .int .i64 0, .int .i64 0]) (by simp [results, Tryz.results164, go_sem, r0, r1, r2, rf0, rf1, rf2]) rfl ⟨none, 0, rfl, Nat.le_refl _, .inl rfl, (HT1.out.trans HU1.out (fun _ _ h => h)).trans (set3U w1 w.heap.size _ _ _) (fun q hq h => by omega)⟩
end Go.Proofs.YtofjodppljnlaaaGreatDoor
