/- schema.Check: what it tells (plain part). schema.Check. -/
import Derived.Test.YtfapglhdakhbeaaGreatDoorHeldZ
import Derived.Test.YtfapglhdakhbeaaGreatDoorMay2
import Derived.Test.YtfapglhdakhbeaaGreatDoorFlatC
import Derived.Test.YtfapglhdakhbeaaGreatDoorAcc
namespace Go.Proofs.YtfapglhdakhbeaaGreatDoor
open Go.RowKit
set_option linter.unusedVariables false
set_option linter.unusedSimpArgs false

abbrev Lev := (Spec × Ex) × List Int
def zeroEx : Ex := .mk 0 ⟨#[]⟩ []
def ruleOf (rs : List (Spec × Ex)) (t : Int) : Spec × Ex := (rs[t.toNat]?).getD (zeroSpec, zeroEx)
/-- The level with one more in it: may it be? -/
def stepOk (rs : List (Spec × Ex)) (gs : List Grp) (top : Lev) (x : Tok) : Bool := mayT rs top.1.1 x && decide (top.2.length + 1 ≤ regBegins top.1.2 gs (top.2 ++ [x.t]))
def ckGo (rs : List (Spec × Ex)) (gs : List Grp) : Nat → Lev → List Lev → List Tok → Int × Int
  | i, top, _, [] => (i, if regAccepts top.1.2 gs top.2 = true then 0 else 9)
  | i, top, below, x :: r =>
    if x.k = 2 then
      (if regAccepts top.1.2 gs top.2 = true then (match below with | [] => (i, 9) | p :: q => ckGo rs gs (i + 1) p q r) else (i, 9))
    else if stepOk rs gs top x = true then
      (if x.k = 1 then ckGo rs gs (i + 1) (ruleOf rs x.t, []) ((top.1, top.2 ++ [x.t]) :: below) r else ckGo rs gs (i + 1) (top.1, top.2 ++ [x.t]) below r)
    else (i, 9)
def schemaCheck (rs : List (Spec × Ex)) (gs : List Grp) (l : List Tok) : Int × Int := if (flatCheck l).2 = 0 then ckGo rs gs 0 (ruleOf rs 0, []) [] l else flatCheck l

structure SchOk (rs : List (Spec × Ex)) (gs : List Grp) : Prop where
  ne : rs ≠ []
  len : rs.length ≤ 1000
  wt : ∀ p ∈ rs, p.2.wt ≤ 1048576 * 4
  gl : gs.length ≤ 1048576
  gt : ∀ x ∈ gs, x.types.length ≤ 1048576
theorem SchR.made {w v : World} {rs : List (Spec × Ex)} {gs : List Grp} {A1 AG : Option Addr} {x : Spec} {e : Ex} (hok : SchOk rs gs) (hg : grpR.row w (fun _ => True) AG gs) (hu : Pure w v) (hm : (x, e) ∈ rs) (hx : exR.row v (fun k => k < w.heap.size) A1 e.l) : MadeC v A1 AG e gs :=
  ⟨Rp.row_fp hx (fun k hk => Nat.lt_of_lt_of_le hk hu.size), Rp.row_move (fun k hk hl => ⟨Nat.lt_of_lt_of_le hl hu.size, Nat.lt_of_lt_of_le hl hu.size, hu.block k hl (fun h => h)⟩) hg, hok.wt _ hm, hok.gl, hok.gt⟩

/-- The state at the loop's head: k tokens are gone. -/
structure CkRel (w : World) (rs : List (Spec × Ex)) (gs : List Grp) (l : List Tok) (k b cap : Nat) (rv : List ((Spec × Ex) × Value)) (top : Lev) (below : List Lev) (wr : World) : Prop where
  opn : ∃ ws, Opn w b cap rv ws wr ∧ ws = (top :: below).reverse.map (·.2)
  rules : rv.map (·.1) = (top :: below).reverse.map (·.1)
  go : ckGo rs gs k top below (l.drop k) = schemaCheck rs gs l
  flat : fcGo k below.length (l.drop k) = ((l.length : Int), (0 : Int))
  words : ∀ p ∈ top :: below, p.2.length ≤ k ∧ p.1 ∈ rs
theorem fcGo_at : ∀ (l : List Tok) (i n : Nat), (fcGo i n l).2 = 0 → (fcGo i n l).1 = i + l.length
  | [], i, n, h => by simp [fcGo]
  | t :: r, i, n, h => by
    unfold fcGo at h ⊢
    split at h
    · simp at h
    · rename_i h1
      rw [if_neg h1]
      split at h
      · rename_i h2
        rw [if_pos h2]
        split at h
        · simp at h
        · rename_i h3
          rw [if_neg h3, fcGo_at r _ _ h]
          simp; omega
      · rename_i h2
        rw [if_neg h2]
        split at h
        · rename_i h3
          rw [if_pos h3, fcGo_at r _ _ h]
          simp; omega
        · rename_i h3
          rw [if_neg h3, fcGo_at r _ _ h]
          simp; omega
theorem fcGo_depth : ∀ (l : List Tok) (i n : Nat), (fcGo i n l).2 = 0 → n ≤ l.length
  | [], i, n, h => by
    unfold fcGo at h
    by_cases h0 : n = 0
    · omega
    · simp only [if_neg h0] at h
      omega
  | t :: r, i, n, h => by
    unfold fcGo at h
    split at h
    · simp at h
    · split at h
      · split at h
        · simp at h
        · have := fcGo_depth r _ _ h
          simp; omega
      · split at h
        · have := fcGo_depth r _ _ h
          simp; omega
        · have := fcGo_depth r _ _ h
          simp; omega
theorem CkRel.split {w wr : World} {rs : List (Spec × Ex)} {gs : List Grp} {l : List Tok} {k b cap : Nat} {rv : List ((Spec × Ex) × Value)} {top : Lev} {below : List Lev} (h : CkRel w rs gs l k b cap rv top below wr) : ∃ init v wi, rv = init ++ [(top.1, v)] ∧ init.length = below.length ∧ Opn w b cap (init ++ [(top.1, v)]) (wi ++ [top.2]) wr ∧ init.map (·.1) = below.reverse.map (·.1) ∧ wi = below.reverse.map (·.2) := by
  obtain ⟨⟨ws, ho, hws⟩, hr, _⟩ := h
  rw [List.reverse_cons, List.map_append] at hr hws
  obtain ⟨init, last, rfl, h1, h2⟩ := List.map_eq_append_iff.1 hr
  obtain ⟨y, rfl⟩ : ∃ y, last = [y] := by
    have hl1 : last.length = 1 := by simpa using congrArg List.length h2
    exact List.length_eq_one_iff.1 hl1
  have h2' : y.1 = top.1 := by simpa using h2
  obtain ⟨y1, y2⟩ := y
  simp only at h2'
  subst h2'
  exact ⟨init, y2, _, rfl, by simpa using congrArg List.length h1, by rw [hws] at ho; exact ho, h1, rfl⟩
theorem fc_right {k n : Nat} {x : Tok} {r : List Tok} {L : Int} (h : fcGo k n (x :: r) = (L, 0)) : rightB x = true := by
  unfold fcGo at h
  split at h
  · simp at h
  · rename_i h1
    cases hr : rightB x
    · exact absurd (.inl hr) h1
    · rfl
theorem fc_close {k n : Nat} {x : Tok} {r : List Tok} {L : Int} (h : fcGo k n (x :: r) = (L, 0)) (hk : x.k = 2) : n ≠ 0 ∧ fcGo (k + 1) (n - 1) r = (L, 0) := by
  unfold fcGo at h
  split at h
  · simp at h
  · rename_i h1
    rw [if_neg (by omega)] at h
    exact ⟨fun e => h1 (.inr ⟨hk, e⟩), h⟩
theorem fc_open {k n : Nat} {x : Tok} {r : List Tok} {L : Int} (h : fcGo k n (x :: r) = (L, 0)) (hk : x.k = 1) : n ≠ 32 ∧ fcGo (k + 1) (n + 1) r = (L, 0) := by
  unfold fcGo at h
  split at h
  · simp at h
  · split at h
    · simp at h
    · rename_i h2
      exact ⟨h2, h⟩
theorem fc_else {k n : Nat} {x : Tok} {r : List Tok} {L : Int} (h : fcGo k n (x :: r) = (L, 0)) (h1 : x.k ≠ 1) (h2 : x.k ≠ 2) : fcGo (k + 1) n r = (L, 0) := by
  unfold fcGo at h
  split at h
  · simp at h
  · exact h
theorem ck_close {rs : List (Spec × Ex)} {gs : List Grp} {k : Nat} {top p : Lev} {q : List Lev} {x : Tok} {r : List Tok} (h : x.k = 2) (ha : regAccepts top.1.2 gs top.2 = true) : ckGo rs gs k top (p :: q) (x :: r) = ckGo rs gs (k + 1) p q r := by
  rw [ckGo, if_pos h, if_pos ha]
theorem ck_noclose {rs : List (Spec × Ex)} {gs : List Grp} {k : Nat} {top : Lev} {q : List Lev} {x : Tok} {r : List Tok} (h : x.k = 2) (ha : regAccepts top.1.2 gs top.2 = false) : ckGo rs gs k top q (x :: r) = ((k : Int), (9 : Int)) := by
  rw [ckGo.eq_def]; simp only []; rw [if_pos h, if_neg (by rw [ha]; exact Bool.false_ne_true)]
theorem ck_bad {rs : List (Spec × Ex)} {gs : List Grp} {k : Nat} {top : Lev} {q : List Lev} {x : Tok} {r : List Tok} (h : x.k ≠ 2) (ha : stepOk rs gs top x = false) : ckGo rs gs k top q (x :: r) = ((k : Int), (9 : Int)) := by
  rw [ckGo.eq_def]; simp only []; rw [if_neg h, if_neg (by rw [ha]; exact Bool.false_ne_true)]
theorem ck_open {rs : List (Spec × Ex)} {gs : List Grp} {k : Nat} {top : Lev} {q : List Lev} {x : Tok} {r : List Tok} (h : x.k = 1) (ha : stepOk rs gs top x = true) : ckGo rs gs k top q (x :: r) = ckGo rs gs (k + 1) (ruleOf rs x.t, []) ((top.1, top.2 ++ [x.t]) :: q) r := by
  rw [ckGo.eq_def]; simp only []; rw [if_neg (by omega), if_pos ha, if_pos h]
theorem ck_leaf {rs : List (Spec × Ex)} {gs : List Grp} {k : Nat} {top : Lev} {q : List Lev} {x : Tok} {r : List Tok} (h : x.k ≠ 2) (h1 : x.k ≠ 1) (ha : stepOk rs gs top x = true) : ckGo rs gs k top q (x :: r) = ckGo rs gs (k + 1) (top.1, top.2 ++ [x.t]) q r := by
  rw [ckGo.eq_def]; simp only []; rw [if_neg h, if_pos ha, if_neg h1]
theorem ck_end {rs : List (Spec × Ex)} {gs : List Grp} {k : Nat} {top : Lev} {q : List Lev} : ckGo rs gs k top q [] = ((k : Int), if regAccepts top.1.2 gs top.2 = true then (0 : Int) else 9) := by
  rw [ckGo]
theorem acc_calls {A Bg Aw : Option Addr} {c d cw : Nat} {e : Ex} {g : List Grp} {word : List Int} {w : World} {F : Nat → Prop} (hm : MadeC w A Bg e g) (hw : intR.row w F Aw word) (hb : word.length ≤ 1048576 * 4) :
    Calls Tryz.prog 71 #[.agg #[.int .i64 e.k, .string e.name, .slice A e.l.length c], .slice Bg g.length d, .slice Aw word.length cw] w fun r w' => r = .returned (.bool (regAccepts e g word)) ∧ Pure w w' := by
  cases e
  exact accepts_calls hm hw hb
theorem beg_calls {A Bg Aw : Option Addr} {c d cw : Nat} {e : Ex} {g : List Grp} {word : List Int} {w : World} {F : Nat → Prop} (hm : MadeC w A Bg e g) (hw : intR.row w F Aw word) (hb : word.length ≤ 1048576 * 4) :
    Calls Tryz.prog 70 #[.agg #[.int .i64 e.k, .string e.name, .slice A e.l.length c], .slice Bg g.length d, .slice Aw word.length cw] w fun r w' => r = .returned (.int .i64 (regBegins e g word : Nat)) ∧ Pure w w' := by
  cases e
  exact begins_calls hm hw hb
theorem CkRel.leaf {w W : World} {rs : List (Spec × Ex)} {gs : List Grp} {l : List Tok} {k b cap : Nat} {init : List ((Spec × Ex) × Value)} {r : Spec × Ex} {below : List Lev} {v1 : Value} {wd : List Int} {t : Int} {wi : List (List Int)} (hw : ∀ y ∈ ((r, wd) : Lev) :: below, y.2.length ≤ k ∧ y.1 ∈ rs) (ho : Opn w b cap (init ++ [(r, v1)]) (wi ++ [wd ++ [t]]) W) (him : init.map (·.1) = below.reverse.map (·.1)) (hwi : wi = below.reverse.map (·.2)) (hgo : ckGo rs gs (k + 1) (r, wd ++ [t]) below (l.drop (k + 1)) = schemaCheck rs gs l) (hfl : fcGo (k + 1) below.length (l.drop (k + 1)) = ((l.length : Int), (0 : Int))) : CkRel w rs gs l (k + 1) b cap (init ++ [(r, v1)]) (r, wd ++ [t]) below W :=
  ⟨⟨_, ho, by rw [hwi]; simp⟩, by rw [List.map_append, him]; simp, hgo, hfl, fun y hy => by
    rcases List.mem_cons.1 hy with rfl | hy
    · have h0 : wd.length ≤ k ∧ r ∈ rs := hw (r, wd) List.mem_cons_self
      exact ⟨by simp; omega, h0.2⟩
    · have := hw y (List.mem_cons_of_mem _ hy)
      exact ⟨by omega, this.2⟩⟩
theorem CkRel.opened {w W : World} {rs : List (Spec × Ex)} {gs : List Grp} {l : List Tok} {k b cap : Nat} {init : List ((Spec × Ex) × Value)} {r r2 : Spec × Ex} {below : List Lev} {v1 : Value} {wd : List Int} {t : Int} {wi : List (List Int)} (hw : ∀ y ∈ ((r, wd) : Lev) :: below, y.2.length ≤ k ∧ y.1 ∈ rs) (ho : Opn w b cap (init ++ [(r, v1)] ++ [(r2, .slice none 0 0)]) (wi ++ [wd ++ [t]] ++ [[]]) W) (him : init.map (·.1) = below.reverse.map (·.1)) (hwi : wi = below.reverse.map (·.2)) (hr2 : r2 ∈ rs) (hgo : ckGo rs gs (k + 1) (r2, []) ((r, wd ++ [t]) :: below) (l.drop (k + 1)) = schemaCheck rs gs l) (hfl : fcGo (k + 1) (below.length + 1) (l.drop (k + 1)) = ((l.length : Int), (0 : Int))) : CkRel w rs gs l (k + 1) b cap (init ++ [(r, v1)] ++ [(r2, .slice none 0 0)]) (r2, []) ((r, wd ++ [t]) :: below) W :=
  ⟨⟨_, ho, by rw [hwi]; simp⟩, by rw [List.map_append, List.map_append, him]; simp, hgo, hfl, fun y hy => by
    rcases List.mem_cons.1 hy with rfl | hy
    · exact ⟨Nat.zero_le _, hr2⟩
    · rcases List.mem_cons.1 hy with rfl | hy
      · have h0 : wd.length ≤ k ∧ r ∈ rs := hw (r, wd) List.mem_cons_self
        exact ⟨by simp; omega, h0.2⟩
      · have := hw y (List.mem_cons_of_mem _ hy)
        exact ⟨by omega, this.2⟩⟩
theorem lev_info : (Tryz.prog.info? 102).map (fun i => (i.zero, i.size, i.bytes)) = some (some (.agg #[.string ⟨#[]⟩, .string ⟨#[]⟩, .bool false, .int .i64 0, .int .i64 0, .int .i64 0, .bool false, .int .i64 0, .string ⟨#[]⟩, .slice none 0 0, .slice none 0 0]), 11, 144) := by kernel_rfl
theorem mayT_open {rs : List (Spec × Ex)} {s : Spec} {x : Tok} (h1 : x.k = 1) (h : mayT rs s x = true) : ∃ j : Nat, x.t = j ∧ ∃ y e, rs[j]? = some (y, e) ∧ ruleOf rs x.t = (y, e) := by
  unfold mayT at h
  rw [if_neg (by omega)] at h
  cases hs : specOf rs x.t with
  | none => simp [hs] at h
  | some y =>
    unfold specOf at hs
    split at hs
    · cases hs
    · obtain ⟨z, hz, rfl⟩ := Option.map_eq_some_iff.1 hs
      refine ⟨x.t.toNat, by omega, z.1, z.2, hz, ?_⟩
      unfold ruleOf
      rw [hz]
      rfl
theorem CkRel.closed {w wr w1 : World} {rs : List (Spec × Ex)} {gs : List Grp} {l : List Tok} {k b cap : Nat} {init : List ((Spec × Ex) × Value)} {top p : Lev} {q : List Lev} {v : Value} {wi : List (List Int)} (hw : ∀ y ∈ top :: p :: q, y.2.length ≤ k ∧ y.1 ∈ rs) (ho : Opn w b cap (init ++ [(top.1, v)]) (wi ++ [top.2]) wr) (him : init.map (·.1) = (p :: q).reverse.map (·.1)) (hwi : wi = (p :: q).reverse.map (·.2)) (hgo : ckGo rs gs (k + 1) p q (l.drop (k + 1)) = schemaCheck rs gs l) (hfl : fcGo (k + 1) q.length (l.drop (k + 1)) = ((l.length : Int), (0 : Int))) (hu : Pure wr w1) : CkRel w rs gs l (k + 1) b cap init p q w1 :=
  ⟨⟨wi, ho.take.pure hu, hwi⟩, him, hgo, hfl, fun y hy => by
    have := hw y (by simp only [List.mem_cons] at hy ⊢; exact .inr hy)
    exact ⟨by omega, this.2⟩⟩
end Go.Proofs.YtfapglhdakhbeaaGreatDoor
namespace Go.Proofs.YtfapglhdakhbeaaGreatDoor
open Go.RowKit
set_option linter.unusedVariables false
set_option linter.unusedSimpArgs false

set_option maxRecDepth 100000 in
set_option maxHeartbeats 4000000 in
theorem schemaCheck_flat {w : World} {cb : Nat} {rs : List (Spec × Ex)} {gs : List Grp} {F : Nat → Prop} {A : Option Addr} {c : Nat} {l : List Tok} (h : SchR w cb rs gs) (hok : SchOk rs gs) (hr : tokR.row w F A l) (hb : l.length ≤ 1048576 * 4) (hf : (flatCheck l).2 ≠ 0) :
    Calls Tryz.prog 17 #[.pointer (some ⟨cb, 0, none⟩), .slice A l.length c] w fun e w' => e = .returned (.tuple #[.int .i64 (schemaCheck rs gs l).1, .int .i64 (schemaCheck rs gs l).2]) ∧ Pure w w' := by
  have HNO := As.mk (none_calls h hok.ne)
  have HFC := As.mk (Check_calls (c := c) hr hb)
  have hE : schemaCheck rs gs l = flatCheck l := by unfold schemaCheck; rw [if_neg hf]
  rw [hE]
  have t1 : ((flatCheck l).2 != 0) = true := by simpa using hf
  clear h hok hr hf hE
  generalize flatCheck l = fc at *
  obtain ⟨f1, f2⟩ := fc
  go_enter Tryz.func17, Tryz.ntmps17
  go_wp2_with (first | (go_at_call 69; refine HFC.out.mono ?_; rintro r w2 ⟨rfl, hu⟩; have HU2 := As.mk hu; clear hu) | (go_at_call 68; refine HNO.out.mono ?_; rintro r w1 ⟨rfl, hw⟩; replace hw := hw.symm; subst hw))
  exact bodyPost_ret (v := .tuple #[.int .i64 f1, .int .i64 f2]) (by simp [results, Tryz.results17, go_sem]) rfl ⟨rfl, HU2.out⟩
set_option maxRecDepth 100000 in
set_option maxHeartbeats 4000000 in
theorem schemaCheck_main {w : World} {cb : Nat} {rs : List (Spec × Ex)} {gs : List Grp} {F : Nat → Prop} {A : Option Addr} {c : Nat} {l : List Tok} (h : SchR w cb rs gs) (hok : SchOk rs gs) (hr : tokR.row w F A l) (hb : l.length ≤ 1048576 * 4) (hf : (flatCheck l).2 = 0) :
    Calls Tryz.prog 17 #[.pointer (some ⟨cb, 0, none⟩), .slice A l.length c] w fun e w' => e = .returned (.tuple #[.int .i64 (schemaCheck rs gs l).1, .int .i64 (schemaCheck rs gs l).2]) ∧ Pure w w' := by
  have HNO := As.mk (none_calls h hok.ne)
  have HFC := As.mk (Check_calls (c := c) hr hb)
  have HH := As.mk h
  have HOK := As.mk hok
  have HR := As.mk hr
  obtain ⟨AL, cL, AG, cG, p0, p1, hcb, hle, hrow, hgrow⟩ := h.cells
  have HG := As.mk hgrow
  have HROW := As.mk hrow
  obtain ⟨y, hy⟩ : ∃ y, rs[0]? = some y := ⟨_, List.getElem?_eq_getElem (List.length_pos_iff.2 hok.ne)⟩
  obtain ⟨x0, e0⟩ := y
  obtain ⟨b0, o0, A1, c1, rfl, _, hb0, d0, d1, d2, d3, d4, d5, d6, d7, d8, d9, hl1, hx1⟩ := rule_at hrow hy
  simp only [Nat.zero_mul, Nat.add_zero] at d0 d1 d2 d3 d4 d5 d6 d7 d8 d9
  have hlen : l.length ≤ 2048 := by
    rcases Nat.lt_or_ge 2048 l.length with h9 | h9
    · exfalso
      unfold flatCheck at hf
      rw [if_pos (by omega)] at hf
      simp at hf
    · exact h9
  have hE : schemaCheck rs gs l = ckGo rs gs 0 ((x0, e0), []) [] l := by
    unfold schemaCheck
    rw [if_pos hf]
    unfold ruleOf
    rw [show (0 : Int).toNat = 0 from rfl, hy]
    rfl
  have hF : fcGo 0 0 l = ((l.length : Int), (0 : Int)) := by
    have hu : flatCheck l = fcGo 0 0 l := by unfold flatCheck; rw [if_neg (by omega)]
    rw [hu] at hf
    have h1 := fcGo_at l 0 0 hf
    rw [Prod.ext_iff]
    exact ⟨by simpa using h1, hf⟩
  have HE := As.mk hE
  have HFL := As.mk hF
  have HM0 := As.mk (List.mem_of_getElem? hy)
  have HX1 := As.mk (And.intro hl1 (Rp.row_move (fun k (hk : True) hl => ⟨hl, hl, rfl⟩) hx1 : exR.row w (fun k => k < w.heap.size) A1 e0.l))
  have t1 : ((flatCheck l).2 != 0) = false := by simpa using hf
  have hpos : 0 < rs.length := List.length_pos_iff.2 hok.ne
  have hrl : rs.length ≤ 1000 := hok.len
  have hfz : (flatCheck l).2 = 0 := hf
  rw [hfz] at HFC
  clear h hok hr hf hE hF hrow hgrow hx1 hl1 hfz t1 hy
  go_enter Tryz.func17, Tryz.ntmps17
  go_wp2_with (first | (go_at_call 69; refine HFC.out.mono ?_; rintro r w2 ⟨rfl, hu⟩; have HU2 := As.mk hu; obtain ⟨oc, of⟩ := hu.olds; have hz2 := hu.size; clear hu) | (go_at_call 68; refine HNO.out.mono ?_; rintro r w1 ⟨rfl, hw⟩; replace hw := hw.symm; subst hw))
  go_loopg [9, 34] l.length (fun gg ov i wr => ∃ (k d b cap : Nat), k + gg = l.length ∧ i = .int .i64 k ∧ ov = .slice (some ⟨b, 0, none⟩) (d + 1) cap ∧ As (∃ rv top below, d = below.length ∧ CkRel w rs gs l k b cap rv top below wr))
  case atStart =>
    exact ⟨0, 0, w2.heap.size, 1, by omega, rfl, rfl, ⟨[((x0, e0), .slice none 0 0)], ((x0, e0), []), [], rfl, ⟨⟨[[]], Opn.start HU2.out HX1.out.1 (Rp.row_pure HX1.out.2 HU2.out), rfl⟩, rfl, HE.out.symm, HFL.out, fun p hp => by
      simp only [List.mem_singleton] at hp
      subst hp
      exact ⟨Nat.zero_le _, HM0.out⟩⟩⟩⟩
  case round =>
    obtain ⟨k, d, b, cap, hk, rfl, rfl, HC⟩ := hrel
    clear oc of d0 d1 d2 d3 d4 d5 d6 d7 d8 d9 hb0 HU2 hz2 HE HFL HM0 HX1 HNO HFC
    by_cases hlt : k < l.length
    · obtain ⟨x, hx⟩ : ∃ x, l[k]? = some x := ⟨_, List.getElem?_eq_getElem hlt⟩
      obtain ⟨rv, top, below, hd, hC⟩ := HC.out
      obtain ⟨init, v, wi, hrv, hil, hop, him, hwi⟩ := hC.split
      obtain rfl : d = init.length := hd.trans hil.symm
      obtain ⟨⟨x1, e1⟩, wd⟩ := top
      replace hop : Opn w b cap (init ++ [((x1, e1), v)]) (wi ++ [wd]) wr := hop
      have hup := hop.up
      have HUP := As.mk hup
      obtain ⟨bt, ot, rfl, hFb, hbl, q0, q1, q2, q3⟩ := tok_at (Rp.row_pure HR.out hup) hx
      obtain ⟨A2, c2, m3, m6, m7, m8, m9, m10, hl2, hx2⟩ := hop.lev (j := init.length) (x := x1) (e := e1) (v := v) (by simp)
      have hbb := hop.blt
      have hroom := hop.room
      rw [show (init ++ [((x1, e1), v)]).length = init.length + 1 by simp] at hroom
      obtain ⟨Aw, cw, rfl, hlw, hrw⟩ := Rp.own_slice hop.top
      have pc0 := (hup.cell (o := 0) hcb (fun h => h)).trans p0
      have pc1 := (hup.cell (o := 1) hcb (fun h => h)).trans p1
      have hcb2 := Nat.lt_of_lt_of_le hcb hup.size
      have hgo := hC.go
      have hfl := hC.flat
      rw [drop_cons hx] at hgo hfl
      have hwords := hC.words
      have hw1 : wd.length ≤ k ∧ (x1, e1) ∈ rs := hwords ((x1, e1), wd) List.mem_cons_self
      have HOP := As.mk hop
      have HIM := As.mk (And.intro him hwi)
      have HK := As.mk hk
      have HWD := As.mk hwords
      have hd33 : init.length ≤ 2048 := by
        have h9 := fcGo_depth _ _ _ (by rw [hfl])
        rw [List.length_cons, List.length_drop] at h9
        omega
      have HACC := As.mk (fun V (hu : Pure wr V) => acc_calls (c := c2) (d := cG) (cw := cw) (SchR.made HOK.out HG.out (HUP.out.trans hu (fun _ _ h => h)) hw1.2 (Rp.row_pure hx2 hu)) (Rp.row_pure hrw hu) (by have := hw1.1; omega))
      obtain ⟨g1, rfl⟩ : ∃ m, gk = m + 1 := ⟨gk - 1, by omega⟩
      obtain ⟨W, hW⟩ : ∃ W, W = wr.alloc (.cells #[.int .i64 x.k, .int .i64 x.t, .int .i64 x.n, .int .i64 x.m] 71) := ⟨_, rfl⟩
      have HPW := As.mk (show Pure wr W from hW ▸ Upd.alloc1 _ _ _)
      have hWb : W.heap[wr.heap.size]? = some (.cells #[.int .i64 x.k, .int .i64 x.t, .int .i64 x.n, .int .i64 x.m] 71) := hW ▸ heap_alloc_new wr _
      have HWB := As.mk hWb
      have HWS := As.mk (show W.heap.size = wr.heap.size + 1 by subst hW; simp)
      have HCEL : As (∀ V, Pure wr V → V.cell? ⟨b, init.length * 11 + 7, none⟩ = some (.int .i64 e1.k) ∧ V.cell? ⟨b, init.length * 11 + 8, none⟩ = some (.string e1.name) ∧ V.cell? ⟨b, init.length * 11 + 9, none⟩ = some (.slice A2 e1.l.length c2) ∧ V.cell? ⟨b, init.length * 11 + 10, none⟩ = some (.slice Aw wd.length cw) ∧ V.cell? ⟨cb, 1, none⟩ = some (.slice AG gs.length cG)) := ⟨fun V hu => ⟨(hu.cell hbb (fun h => h)).trans m7, (hu.cell hbb (fun h => h)).trans m8, (hu.cell hbb (fun h => h)).trans m9, (hu.cell hbb (fun h => h)).trans m10, (hu.cell hcb2 (fun h => h)).trans pc1⟩⟩
      clear hwords hx2 hrw hC hd hil hop him hwi hx HC hk hup hrv
      by_cases h2 : x.k = 2
      · have e2 : (x.k == 2) = true := by simp [h2]
        obtain ⟨hn0, hfl2⟩ := fc_close hfl h2
        have HFL2 := As.mk hfl2
        cases hacc : regAccepts e1 gs wd
        · have HV := As.mk (show ((k : Int), (9 : Int)) = schemaCheck rs gs l by rw [← hgo, ck_noclose h2 hacc])
          rw [hacc] at HACC
          clear hgo hfl hfl2 h2 hn0 hacc
          go_wp2
          rw [← hW]
          clear hW
          refine wp_region_held_drew (S := (fun V => V.cell? ⟨b, init.length * 11 + 7, none⟩ = some (.int .i64 e1.k) ∧ V.cell? ⟨b, init.length * 11 + 8, none⟩ = some (.string e1.name) ∧ V.cell? ⟨b, init.length * 11 + 9, none⟩ = some (.slice A2 e1.l.length c2) ∧ V.cell? ⟨b, init.length * 11 + 10, none⟩ = some (.slice Aw wd.length cw) ∧ V.cell? ⟨cb, 1, none⟩ = some (.slice AG gs.length cG))) (by kernel_rfl) ?_ (fun hHeld => ?_)
          · first | exact HCEL.out _ HPW.out.drew | exact HCEL.out _ HU3.out
          refine zH 0 ?_
          refine zH 1 ?_
          refine zH 2 ?_
          refine zH 3 ?_
          (try simp only [Act.put, List.setIfInBounds_toArray, List.set_cons_zero, List.set_cons_succ])
          refine zH 4 ?_
          refine zH 5 ?_
          refine zH 6 ?_
          refine zH 7 ?_
          (try simp only [Act.put, List.setIfInBounds_toArray, List.set_cons_zero, List.set_cons_succ])
          refine zH 8 ?_
          refine zH 9 ?_
          refine zH 10 ?_
          refine zH 11 ?_
          (try simp only [Act.put, List.setIfInBounds_toArray, List.set_cons_zero, List.set_cons_succ])
          refine zH 12 ?_
          refine wpAnyH_ready (rs := [13]) (by kernel_rfl) (by simp) (AllReadyH.cons (o := { dst := (some 60), op := (Go.Op.call { callee := (Go.Callee.value (Go.Operand.func 71)), args := #[(Go.Operand.tmp 51), (Go.Operand.tmp 55), (Go.Operand.tmp 59)], argTypes := #[95, 89, 86] }), type := 4, pos := "schema.go:134", after := #[{ on := 4, ground := Go.Ground.data }, { on := 8, ground := Go.Ground.data }, { on := 12, ground := Go.Ground.data }], guard := none }) rfl (fun K hK => ?_) AllReadyH.nil)
          go_simp
          (go_at_call 71; refine (HACC.out _ HPW.out.drew).mono ?_; rintro r w3 ⟨rfl, hu⟩; have HU3 := As.mk (HPW.out.drew.trans hu (fun _ _ h => h)); clear hu)
          refine hK.out _ _ (by first | exact HCEL.out _ HPW.out.drew | exact HCEL.out _ HU3.out) (fun hHeld => ?_)
          clear hK K
          (try simp only [Act.put, List.setIfInBounds_toArray, List.set_cons_zero, List.set_cons_succ])
          refine zH 14 ?_
          refine wpAnyH_done (by kernel_rfl) ?_ _
          go_wp2
          exact bodyPost_ret (v := .tuple #[.int .i64 (k : Int), .int .i64 9]) (by simp [results, Tryz.results17, go_sem]) rfl ⟨by rw [← HV.out], HUP.out.trans HU3.out (fun _ _ h => h)⟩
        · obtain ⟨p, q, rfl⟩ : ∃ p q, below = p :: q := by
            cases below with
            | nil => exact absurd rfl hn0
            | cons p q => exact ⟨p, q, rfl⟩
          have HV := As.mk (show ckGo rs gs (k + 1) p q (l.drop (k + 1)) = schemaCheck rs gs l by rw [← hgo, ck_close h2 hacc])
          have HIL2 := As.mk (show init.length = q.length + 1 by have := congrArg List.length HIM.out.1; simpa using this)
          rw [hacc] at HACC
          clear hgo hfl hfl2 h2 hn0 hacc
          go_wp2
          rw [← hW]
          clear hW
          refine wp_region_held_drew (S := (fun V => V.cell? ⟨b, init.length * 11 + 7, none⟩ = some (.int .i64 e1.k) ∧ V.cell? ⟨b, init.length * 11 + 8, none⟩ = some (.string e1.name) ∧ V.cell? ⟨b, init.length * 11 + 9, none⟩ = some (.slice A2 e1.l.length c2) ∧ V.cell? ⟨b, init.length * 11 + 10, none⟩ = some (.slice Aw wd.length cw) ∧ V.cell? ⟨cb, 1, none⟩ = some (.slice AG gs.length cG))) (by kernel_rfl) ?_ (fun hHeld => ?_)
          · first | exact HCEL.out _ HPW.out.drew | exact HCEL.out _ HU3.out
          refine zH 0 ?_
          (try simp only [Act.put, List.setIfInBounds_toArray, List.set_cons_zero, List.set_cons_succ])
          refine zH 1 ?_
          refine zH 2 ?_
          refine zH 3 ?_
          refine zH 4 ?_
          (try simp only [Act.put, List.setIfInBounds_toArray, List.set_cons_zero, List.set_cons_succ])
          refine zH 5 ?_
          refine zH 6 ?_
          refine zH 7 ?_
          refine zH 8 ?_
          (try simp only [Act.put, List.setIfInBounds_toArray, List.set_cons_zero, List.set_cons_succ])
          refine zH 9 ?_
          refine zH 10 ?_
          refine zH 11 ?_
          refine zH 12 ?_
          (try simp only [Act.put, List.setIfInBounds_toArray, List.set_cons_zero, List.set_cons_succ])
          refine wpAnyH_ready (rs := [13]) (by kernel_rfl) (by simp) (AllReadyH.cons (o := { dst := (some 60), op := (Go.Op.call { callee := (Go.Callee.value (Go.Operand.func 71)), args := #[(Go.Operand.tmp 51), (Go.Operand.tmp 55), (Go.Operand.tmp 59)], argTypes := #[95, 89, 86] }), type := 4, pos := "schema.go:134", after := #[{ on := 4, ground := Go.Ground.data }, { on := 8, ground := Go.Ground.data }, { on := 12, ground := Go.Ground.data }], guard := none }) rfl (fun K hK => ?_) AllReadyH.nil)
          go_simp
          (go_at_call 71; refine (HACC.out _ HPW.out.drew).mono ?_; rintro r w3 ⟨rfl, hu⟩; have HU3 := As.mk (HPW.out.drew.trans hu (fun _ _ h => h)); clear hu)
          refine hK.out _ _ (by first | exact HCEL.out _ HPW.out.drew | exact HCEL.out _ HU3.out) (fun hHeld => ?_)
          clear hK K
          (try simp only [Act.put, List.setIfInBounds_toArray, List.set_cons_zero, List.set_cons_succ])
          refine zH 14 ?_
          refine wpAnyH_done (by kernel_rfl) ?_ _
          go_wp2
          go_roundg g1
          case measure => omega
          case rel => exact ⟨k + 1, q.length, b, cap, by have := HK.out; omega, by go_num, by rw [HIL2.out], ⟨init, p, q, rfl, CkRel.closed HWD.out HOP.out HIM.out.1 HIM.out.2 HV.out (by simpa using HFL2.out) HU3.out⟩⟩
      · have e2 : (x.k == 2) = false := by simp [h2]
        have HTOP := As.mk (Rp.own_drew (int_own_upd HOP.out.top HPW.out (fun _ _ h => h)))
        have HLEN := As.mk (show (wd.length + 1) * 8 ≤ 140737488355328 by have := hw1.1; omega)
        have HBB := As.mk (And.intro hbb (HOP.out.frozen (init.length * 11 + 10)))
        have HSK : As (∀ V, Upd (fun q => (Value.slice Aw wd.length cw).ownBlock = some q) W.drew V → V.cell? ⟨b, init.length * 11 + 10, none⟩ = some (.slice Aw wd.length cw) ∧ V.frozen? ⟨b, init.length * 11 + 10, none⟩ = false ∧ V.cell? ⟨wr.heap.size, 1, none⟩ = some (.int .i64 x.t)) := ⟨by
          intro V hu
          have hnb : ¬ (Value.slice Aw wd.length cw).ownBlock = some b := fun e => (Rp.own_block_lt HOP.out.top b e).1.2 rfl
          have hnt : ¬ (Value.slice Aw wd.length cw).ownBlock = some wr.heap.size := fun e => by have := (Rp.own_block_lt HOP.out.top _ e).2; omega
          have hbW : b < W.drew.heap.size := by have := HWS.out; have := HBB.out.1; show b < W.heap.size; omega
          have htW : wr.heap.size < W.drew.heap.size := by have := HWS.out; show wr.heap.size < W.heap.size; omega
          refine ⟨(hu.cell hbW hnb).trans (HCEL.out _ HPW.out.drew).2.2.2.1, (hu.frozen hbW hnb).trans ((HPW.out.drew.frozen HBB.out.1 (fun h => h)).trans HBB.out.2), (hu.cell htW hnt).trans ?_⟩
          show W.cell? _ = _
          unfold World.cell?; simp only [HWB.out]; rfl⟩
        clear hw1
        go_wp2
        rw [← hW]
        clear hW
        refine wp_region_T (P := Tryz.prog) (fun V => V.cell? ⟨b, init.length * 11 + 10, none⟩ = some (.slice Aw wd.length cw) ∧ V.frozen? ⟨b, init.length * 11 + 10, none⟩ = false ∧ V.cell? ⟨wr.heap.size, 1, none⟩ = some (.int .i64 x.t)) 11 (by kernel_rfl) ?_ (fun hHeld => ?_)
        · first | exact HSK.out _ (Upd.refl _ _) | exact HSK.out _ (Upd.alloc1 _ _ _) | exact HSK.out _ HU4.out
        refine zT 0 ?_
        refine zT 1 ?_
        (try simp only [Act.put, List.setIfInBounds_toArray, List.set_cons_zero, List.set_cons_succ])
        refine zT 2 ?_
        refine zT 3 ?_
        refine zT 4 ?_
        refine zT 5 ?_
        (try simp only [Act.put, List.setIfInBounds_toArray, List.set_cons_zero, List.set_cons_succ])
        refine zT 6 ?_
        refine oT 7 (fun K hK => ?_)
        go_simp
        refine hK.out _ _ (fun _ => by first | exact HSK.out _ (Upd.refl _ _) | exact HSK.out _ (Upd.alloc1 _ _ _) | exact HSK.out _ HU4.out) (fun hHeld => ?_)
        replace hHeld := hHeld (by decide)
        clear hK K
        (try simp only [Act.put, List.setIfInBounds_toArray, List.set_cons_zero, List.set_cons_succ])
        refine oT 8 (fun K hK => ?_)
        refine Rp.step_append_keen intRS (W := W.drew) (Fp := fun _ => False) HTOP.out x.t [.int .i64 x.t] rfl (fun _ h => h.elim) (by rfl) _ _ 86 (.int .i64 0) 8 (by rfl) Tryz.underlying86 int_infoS rfl (by decide) (by decide) (by rfl) (n := W.heap.size) rfl (by rfl) HLEN.out ?_; intro v4 w4 ho4 hu4 hat4; obtain ⟨A4, c4, rfl, hl4, hr4⟩ := Rp.own_slice ho4; have HO4 := As.mk ho4; have HU4 := As.mk hu4; have HAT4 := As.mk hat4; obtain ⟨s1, s2, s3⟩ := HSK.out w4 hu4; clear ho4 hu4 hat4 hl4 hr4
        refine hK.out _ _ (fun _ => by first | exact HSK.out _ (Upd.refl _ _) | exact HSK.out _ (Upd.alloc1 _ _ _) | exact HSK.out _ HU4.out) (fun hHeld => ?_)
        replace hHeld := hHeld (by decide)
        clear hK K
        (try simp only [Act.put, List.setIfInBounds_toArray, List.set_cons_zero, List.set_cons_succ])
        refine oT 9 (fun K hK => ?_)
        go_simp
        refine hK.out _ _ (fun _ => by first | exact HSK.out _ (Upd.refl _ _) | exact HSK.out _ (Upd.alloc1 _ _ _) | exact HSK.out _ HU4.out) (fun hHeld => ?_)
        replace hHeld := hHeld (by decide)
        clear hK K
        (try simp only [Act.put, List.setIfInBounds_toArray, List.set_cons_zero, List.set_cons_succ])
        refine zT 10 ?_
        refine oT 11 (fun K hK => ?_)
        go_simp
        refine hK.out _ _ (fun h => absurd rfl h) (fun hHeld => ?_)
        clear hK K
        (try simp only [Act.put, List.setIfInBounds_toArray, List.set_cons_zero, List.set_cons_succ])
        refine wpAnyT_done (by kernel_rfl) ?_ _
        obtain ⟨W5, hW5⟩ : ∃ W5, W5 = w4.setCell ⟨b, init.length * 11 + 10, none⟩ (.slice A4 (wd ++ [x.t]).length c4) := ⟨_, rfl⟩
        have HOP5 : As (Opn w b cap (init ++ [((x1, e1), .slice A4 (wd ++ [x.t]).length c4)]) (wi ++ [wd ++ [x.t]]) W5) := ⟨by
          rw [hW5]
          have hws := HWS.out
          have hsz : W.drew.heap.size = W.heap.size := rfl
          refine HOP.out.grow HO4.out (fun q hq => ?_) ((HPW.out.drew.mono (fun _ _ h => h.elim)).trans HU4.out (fun _ _ h => h)) ?_
          · rcases HAT4.out with e | ⟨q', hq', hle⟩
            · rw [e] at hq
              exact (Rp.own_block_lt HOP.out.top q hq).1
            · rw [hq'] at hq
              injection hq with hq
              have := HOP.out.ge
              have := HBB.out.1
              omega
          · rcases HAT4.out with e | ⟨q', hq', hle⟩
            · exact .inl e
            · exact .inr ⟨q', hq', by omega⟩⟩
        have HTK : As (∀ V, Pure W5 V → V.cell? ⟨wr.heap.size, 0, none⟩ = some (.int .i64 x.k) ∧ V.cell? ⟨wr.heap.size, 1, none⟩ = some (.int .i64 x.t) ∧ V.cell? ⟨wr.heap.size, 2, none⟩ = some (.int .i64 x.n) ∧ V.cell? ⟨wr.heap.size, 3, none⟩ = some (.int .i64 x.m)) := ⟨by
          intro V hu
          have hws := HWS.out
          have hnt : ¬ (Value.slice Aw wd.length cw).ownBlock = some wr.heap.size := fun e => by have := (Rp.own_block_lt HOP.out.top _ e).2; omega
          have hblk : W5.heap[wr.heap.size]? = some (.cells #[.int .i64 x.k, .int .i64 x.t, .int .i64 x.n, .int .i64 x.m] 71) := by
            rw [hW5]
            rw [Below.heap_setCell _ _ _ _ (by have := HBB.out.1; simp; omega), HU4.out.block _ (by show wr.heap.size < W.heap.size; omega) hnt]
            exact HWB.out
          have hb5 := (hu.block wr.heap.size (Array.getElem?_eq_some_iff.1 hblk).1 (fun h => h)).trans hblk
          refine ⟨?_, ?_, ?_, ?_⟩ <;> (unfold World.cell?; simp only [hb5]; rfl)⟩
        have HLT5 := As.mk (show wr.heap.size < W5.heap.size by
          have h1 := HU4.out.size
          have h2 := HWS.out
          have h3 : W.drew.heap.size = W.heap.size := rfl
          have h4 : W5.heap.size = w4.heap.size := by rw [hW5]; simp [World.setCell]
          omega)
        rw [List.length_append, List.length_singleton] at hW5
        try rw [← hW5]
        clear hW5
        obtain ⟨A3, c3, n3, n6, n7, n8, n9, n10, hl3, hx3⟩ := HOP5.out.lev (j := init.length) (x := x1) (e := e1) (v := .slice A4 (wd ++ [x.t]).length c4) (by simp)
        have HUP5 := As.mk HOP5.out.up
        have pd1 := (HOP5.out.up.cell (o := 1) hcb (fun h => h)).trans p1
        rw [List.length_append, List.length_singleton] at n10
        have hb5 := HOP5.out.blt
        have hcb5 := Nat.lt_of_lt_of_le hcb HOP5.out.up.size
        have HCEL5 : As (∀ V, Pure W5 V → (V.cell? ⟨b, init.length * 11 + 7, none⟩ = some (.int .i64 e1.k) ∧ V.cell? ⟨b, init.length * 11 + 8, none⟩ = some (.string e1.name) ∧ V.cell? ⟨b, init.length * 11 + 9, none⟩ = some (.slice A3 e1.l.length c3) ∧ V.cell? ⟨b, init.length * 11 + 10, none⟩ = some (.slice A4 (wd.length + 1) c4) ∧ V.cell? ⟨cb, 1, none⟩ = some (.slice AG gs.length cG)) ∧ V.cell? ⟨wr.heap.size, 0, none⟩ = some (.int .i64 x.k) ∧ V.cell? ⟨wr.heap.size, 1, none⟩ = some (.int .i64 x.t) ∧ V.cell? ⟨wr.heap.size, 2, none⟩ = some (.int .i64 x.n) ∧ V.cell? ⟨wr.heap.size, 3, none⟩ = some (.int .i64 x.m)) := ⟨fun V hu => ⟨⟨(hu.cell hb5 (fun h => h)).trans n7, (hu.cell hb5 (fun h => h)).trans n8, (hu.cell hb5 (fun h => h)).trans n9, (hu.cell hb5 (fun h => h)).trans n10, (hu.cell hcb5 (fun h => h)).trans pd1⟩, HTK.out V hu⟩⟩
        have HMAY := As.mk (fun V (hu : Pure W5 V) => may_calls (HH.out.pure (HUP5.out.trans hu (fun _ _ h => h))) HOK.out.ne HOK.out.len (Nat.lt_of_lt_of_le hb5 hu.size) ((hu.cell hb5 (fun h => h)).trans n3) ((hu.cell hb5 (fun h => h)).trans n6) x)
        have hrw5 : intRS.row W5 (fun k => w.heap.size ≤ k ∧ k ≠ b) A4 (wd ++ [x.t]) := by
          obtain ⟨A', c', hv', _, hr'⟩ := Rp.own_slice HOP5.out.top
          simp only [Value.slice.injEq] at hv'
          obtain ⟨rfl, _, _⟩ := hv'
          exact hr'
        have hm1 : (x1, e1) ∈ rs := (HWD.out ((x1, e1), wd) List.mem_cons_self).2
        have hwl : wd.length ≤ k := (HWD.out ((x1, e1), wd) List.mem_cons_self).1
        have HBEG := As.mk (fun V (hu : Pure W5 V) => beg_calls (c := c3) (d := cG) (cw := c4) (SchR.made HOK.out HG.out (HUP5.out.trans hu (fun _ _ h => h)) hm1 (Rp.row_pure hx3 hu)) (Rp.row_pure hrw5 hu) (by simp; omega))
        rw [List.length_append, List.length_singleton] at HBEG
        have hrows := hrw5
        clear hrw5 hx3 s1 s2 s3 m3 m6 m7 m8 m9 m10 n3 n6 n7 n8 n9 n10 pd1 hrows HTOP HBB HSK HCEL HO4 HU4 HAT4 HPW HWB HWS HACC
        cases hm : mayT rs x1 x
        · have HV := As.mk (show ((k : Int), (9 : Int)) = schemaCheck rs gs l by rw [← hgo, ck_bad h2 (by unfold stepOk; simp only [hm]; rfl)])
          rw [hm] at HMAY
          clear hgo hfl h2 hm
          go_wp2
          refine wp_region_held_drew (S := (fun V => (V.cell? ⟨b, init.length * 11 + 7, none⟩ = some (.int .i64 e1.k) ∧ V.cell? ⟨b, init.length * 11 + 8, none⟩ = some (.string e1.name) ∧ V.cell? ⟨b, init.length * 11 + 9, none⟩ = some (.slice A3 e1.l.length c3) ∧ V.cell? ⟨b, init.length * 11 + 10, none⟩ = some (.slice A4 (wd.length + 1) c4) ∧ V.cell? ⟨cb, 1, none⟩ = some (.slice AG gs.length cG)) ∧ V.cell? ⟨wr.heap.size, 0, none⟩ = some (.int .i64 x.k) ∧ V.cell? ⟨wr.heap.size, 1, none⟩ = some (.int .i64 x.t) ∧ V.cell? ⟨wr.heap.size, 2, none⟩ = some (.int .i64 x.n) ∧ V.cell? ⟨wr.heap.size, 3, none⟩ = some (.int .i64 x.m))) (by kernel_rfl) ?_ (fun hHeld => ?_)
          · first | exact HCEL5.out _ HU6.out | exact HCEL5.out _ ((Upd.refl _ _).drew)
          refine zH 0 ?_
          refine zH 1 ?_
          (try simp only [Act.put, List.setIfInBounds_toArray, List.set_cons_zero, List.set_cons_succ])
          refine zH 2 ?_
          refine wpAnyH_ready (rs := [3]) (by kernel_rfl) (by simp) (AllReadyH.cons (o := { dst := (some 82), op := (Go.Op.call { callee := (Go.Callee.value (Go.Operand.func 72)), args := #[(Go.Operand.tmp 79), (Go.Operand.tmp 80), (Go.Operand.tmp 81)], argTypes := #[104, 24, 71] }), type := 4, pos := "schema.go:141", after := #[{ on := 0, ground := Go.Ground.data }, { on := 1, ground := Go.Ground.data }, { on := 2, ground := Go.Ground.data }], guard := none }) rfl (fun K hK => ?_) AllReadyH.nil)
          go_simp
          (go_at_call 72; refine (HMAY.out _ ((Upd.refl _ _).drew)).mono ?_; rintro r w6 ⟨rfl, hu⟩; have HU6 := As.mk (Upd.trans ((Upd.refl (fun _ => False) W5).drew) hu (fun _ _ h => h)); clear hu)
          refine hK.out _ _ (by first | exact HCEL5.out _ HU6.out | exact HCEL5.out _ ((Upd.refl _ _).drew)) (fun hHeld => ?_)
          clear hK K
          (try simp only [Act.put, List.setIfInBounds_toArray, List.set_cons_zero, List.set_cons_succ])
          refine zH 4 ?_
          refine zH 5 ?_
          (try simp only [Act.put, List.setIfInBounds_toArray, List.set_cons_zero, List.set_cons_succ])
          refine sH 6 ?_
          refine sH 7 ?_
          refine sH 8 ?_
          refine sH 9 ?_
          (try simp only [Act.put, List.setIfInBounds_toArray, List.set_cons_zero, List.set_cons_succ])
          refine sH 10 ?_
          refine sH 11 ?_
          refine sH 12 ?_
          refine sH 13 ?_
          (try simp only [Act.put, List.setIfInBounds_toArray, List.set_cons_zero, List.set_cons_succ])
          refine sH 14 ?_
          refine sH 15 ?_
          refine sH 16 ?_
          refine sH 17 ?_
          (try simp only [Act.put, List.setIfInBounds_toArray, List.set_cons_zero, List.set_cons_succ])
          refine sH 18 ?_
          refine sH 19 ?_
          refine sH 20 ?_
          refine sH 21 ?_
          (try simp only [Act.put, List.setIfInBounds_toArray, List.set_cons_zero, List.set_cons_succ])
          refine sH 22 ?_
          refine sH 23 ?_
          refine sH 24 ?_
          refine sH 25 ?_
          (try simp only [Act.put, List.setIfInBounds_toArray, List.set_cons_zero, List.set_cons_succ])
          refine sH 26 ?_
          refine zH 27 ?_
          refine wpAnyH_done (by kernel_rfl) ?_ _
          go_wp2
          exact bodyPost_ret (v := .tuple #[.int .i64 (k : Int), .int .i64 9]) (by simp [results, Tryz.results17, go_sem]) rfl ⟨by rw [← HV.out], HUP5.out.trans HU6.out (fun _ _ h => h)⟩
        · have hst : stepOk rs gs ((x1, e1), wd) x = decide (wd.length + 1 ≤ regBegins e1 gs (wd ++ [x.t])) := by
            unfold stepOk
            simp only [hm]
            exact Bool.true_and _
          rw [hm] at HMAY
          cases hbg : decide (wd.length + 1 ≤ regBegins e1 gs (wd ++ [x.t]))
          · rw [hbg] at hst
            have HV := As.mk (show ((k : Int), (9 : Int)) = schemaCheck rs gs l by rw [← hgo, ck_bad h2 hst])
            clear hgo hfl h2 hm hst
            generalize regBegins e1 gs (wd ++ [x.t]) = bg at *
            have u1 : decide ((bg : Int) < (wd.length : Int) + 1) = true := by
              simp only [decide_eq_false_iff_not] at hbg
              rw [decide_eq_true_eq]; omega
            have u2 : decide (bg < wd.length + 1) = true := by
              simp only [decide_eq_false_iff_not] at hbg
              rw [decide_eq_true_eq]; omega
            clear hbg
            go_wp2
            refine wp_region_held_drew (S := (fun V => (V.cell? ⟨b, init.length * 11 + 7, none⟩ = some (.int .i64 e1.k) ∧ V.cell? ⟨b, init.length * 11 + 8, none⟩ = some (.string e1.name) ∧ V.cell? ⟨b, init.length * 11 + 9, none⟩ = some (.slice A3 e1.l.length c3) ∧ V.cell? ⟨b, init.length * 11 + 10, none⟩ = some (.slice A4 (wd.length + 1) c4) ∧ V.cell? ⟨cb, 1, none⟩ = some (.slice AG gs.length cG)) ∧ V.cell? ⟨wr.heap.size, 0, none⟩ = some (.int .i64 x.k) ∧ V.cell? ⟨wr.heap.size, 1, none⟩ = some (.int .i64 x.t) ∧ V.cell? ⟨wr.heap.size, 2, none⟩ = some (.int .i64 x.n) ∧ V.cell? ⟨wr.heap.size, 3, none⟩ = some (.int .i64 x.m))) (by kernel_rfl) ?_ (fun hHeld => ?_)
            · first | exact HCEL5.out _ HU7.out | exact HCEL5.out _ HU6.out | exact HCEL5.out _ ((Upd.refl _ _).drew)
            refine zH 0 ?_
            refine zH 1 ?_
            (try simp only [Act.put, List.setIfInBounds_toArray, List.set_cons_zero, List.set_cons_succ])
            refine zH 2 ?_
            refine wpAnyH_ready (rs := [3]) (by kernel_rfl) (by simp) (AllReadyH.cons (o := { dst := (some 82), op := (Go.Op.call { callee := (Go.Callee.value (Go.Operand.func 72)), args := #[(Go.Operand.tmp 79), (Go.Operand.tmp 80), (Go.Operand.tmp 81)], argTypes := #[104, 24, 71] }), type := 4, pos := "schema.go:141", after := #[{ on := 0, ground := Go.Ground.data }, { on := 1, ground := Go.Ground.data }, { on := 2, ground := Go.Ground.data }], guard := none }) rfl (fun K hK => ?_) AllReadyH.nil)
            go_simp
            (first | (go_at_call 70; refine (HBEG.out _ HU6.out).mono ?_; rintro r w7 ⟨rfl, hu⟩; have HU7 := As.mk (HU6.out.trans hu (fun _ _ h => h)); clear hu) | (go_at_call 72; refine (HMAY.out _ ((Upd.refl _ _).drew)).mono ?_; rintro r w6 ⟨rfl, hu⟩; have HU6 := As.mk (Upd.trans ((Upd.refl (fun _ => False) W5).drew) hu (fun _ _ h => h)); clear hu))
            refine hK.out _ _ (by first | exact HCEL5.out _ HU7.out | exact HCEL5.out _ HU6.out | exact HCEL5.out _ ((Upd.refl _ _).drew)) (fun hHeld => ?_)
            clear hK K
            (try simp only [Act.put, List.setIfInBounds_toArray, List.set_cons_zero, List.set_cons_succ])
            refine zH 4 ?_
            refine zH 5 ?_
            (try simp only [Act.put, List.setIfInBounds_toArray, List.set_cons_zero, List.set_cons_succ])
            refine zH 6 ?_
            refine zH 7 ?_
            refine zH 8 ?_
            refine zH 9 ?_
            (try simp only [Act.put, List.setIfInBounds_toArray, List.set_cons_zero, List.set_cons_succ])
            refine zH 10 ?_
            refine zH 11 ?_
            refine zH 12 ?_
            refine zH 13 ?_
            (try simp only [Act.put, List.setIfInBounds_toArray, List.set_cons_zero, List.set_cons_succ])
            refine zH 14 ?_
            refine zH 15 ?_
            refine zH 16 ?_
            refine zH 17 ?_
            (try simp only [Act.put, List.setIfInBounds_toArray, List.set_cons_zero, List.set_cons_succ])
            refine zH 18 ?_
            refine zH 19 ?_
            refine zH 21 ?_
            refine zH 22 ?_
            (try simp only [Act.put, List.setIfInBounds_toArray, List.set_cons_zero, List.set_cons_succ])
            refine zH 23 ?_
            refine zH 24 ?_
            refine zH 25 ?_
            refine wpAnyH_ready (rs := [20]) (by kernel_rfl) (by simp) (AllReadyH.cons (o := { dst := (some 99), op := (Go.Op.call { callee := (Go.Callee.value (Go.Operand.tmp 85)), args := #[(Go.Operand.tmp 90), (Go.Operand.tmp 94), (Go.Operand.tmp 98)], argTypes := #[95, 89, 86] }), type := 3, pos := "schema.go:141", after := #[{ on := 6, ground := Go.Ground.data }, { on := 11, ground := Go.Ground.data }, { on := 15, ground := Go.Ground.data }, { on := 19, ground := Go.Ground.data }, { on := 5, ground := Go.Ground.chain }, { on := 5, ground := Go.Ground.guard }], guard := (some (5, false)) }) rfl (fun K hK => ?_) AllReadyH.nil)
            go_simp
            (first | (go_at_call 70; refine (HBEG.out _ HU6.out).mono ?_; rintro r w7 ⟨rfl, hu⟩; have HU7 := As.mk (HU6.out.trans hu (fun _ _ h => h)); clear hu) | (go_at_call 72; refine (HMAY.out _ ((Upd.refl _ _).drew)).mono ?_; rintro r w6 ⟨rfl, hu⟩; have HU6 := As.mk (Upd.trans ((Upd.refl (fun _ => False) W5).drew) hu (fun _ _ h => h)); clear hu))
            refine hK.out _ _ (by first | exact HCEL5.out _ HU7.out | exact HCEL5.out _ HU6.out | exact HCEL5.out _ ((Upd.refl _ _).drew)) (fun hHeld => ?_)
            clear hK K
            (try simp only [Act.put, List.setIfInBounds_toArray, List.set_cons_zero, List.set_cons_succ])
            refine zH 26 ?_
            refine zH 27 ?_
            refine wpAnyH_done (by kernel_rfl) ?_ _
            go_wp2
            exact bodyPost_ret (v := .tuple #[.int .i64 (k : Int), .int .i64 9]) (by simp [results, Tryz.results17, go_sem]) rfl ⟨by rw [← HV.out], HUP5.out.trans HU7.out (fun _ _ h => h)⟩
          · rw [hbg] at hst
            have HST := As.mk hst
            generalize regBegins e1 gs (wd ++ [x.t]) = bg at *
            have u1 : decide ((bg : Int) < (wd.length : Int) + 1) = false := by
              simp only [decide_eq_true_eq] at hbg
              rw [decide_eq_false_iff_not]; omega
            have u2 : decide (bg < wd.length + 1) = false := by
              simp only [decide_eq_true_eq] at hbg
              rw [decide_eq_false_iff_not]; omega
            clear hbg hst
            by_cases h1 : x.k = 1
            · have e1' : (x.k == 1) = true := by simp [h1]
              obtain ⟨j, hj, y, ye, hy, hru⟩ := mayT_open h1 hm
              have HJ := As.mk hj
              clear hj
              have HV := As.mk (show ckGo rs gs (k + 1) ((y, ye), []) (((x1, e1), wd ++ [x.t]) :: below) (l.drop (k + 1)) = schemaCheck rs gs l by rw [← hgo, ck_open h1 HST.out, hru])
              have HF := As.mk (fc_open hfl h1)
              have HYM := As.mk (List.mem_of_getElem? hy)
              obtain ⟨by', oy', Ay, cy, hA, _, hby, g0, g1', g2, g3, g4, g5, g6, g7, g8, g9, hly, hxy⟩ := rule_at HROW.out hy
              simp only [Option.some.injEq, Addr.mk.injEq] at hA
              obtain ⟨rfl, rfl, _⟩ := hA
              have hjl : j < rs.length := (List.getElem?_eq_some_iff.1 hy).1
              clear hgo hfl h2 hm h1 hy hru
              go_wp2
              refine wp_region_held_drew (S := (fun V => (V.cell? ⟨b, init.length * 11 + 7, none⟩ = some (.int .i64 e1.k) ∧ V.cell? ⟨b, init.length * 11 + 8, none⟩ = some (.string e1.name) ∧ V.cell? ⟨b, init.length * 11 + 9, none⟩ = some (.slice A3 e1.l.length c3) ∧ V.cell? ⟨b, init.length * 11 + 10, none⟩ = some (.slice A4 (wd.length + 1) c4) ∧ V.cell? ⟨cb, 1, none⟩ = some (.slice AG gs.length cG)) ∧ V.cell? ⟨wr.heap.size, 0, none⟩ = some (.int .i64 x.k) ∧ V.cell? ⟨wr.heap.size, 1, none⟩ = some (.int .i64 x.t) ∧ V.cell? ⟨wr.heap.size, 2, none⟩ = some (.int .i64 x.n) ∧ V.cell? ⟨wr.heap.size, 3, none⟩ = some (.int .i64 x.m))) (by kernel_rfl) ?_ (fun hHeld => ?_)
              · first | exact HCEL5.out _ HU7.out | exact HCEL5.out _ HU6.out | exact HCEL5.out _ ((Upd.refl _ _).drew)
              refine zH 0 ?_
              refine zH 1 ?_
              (try simp only [Act.put, List.setIfInBounds_toArray, List.set_cons_zero, List.set_cons_succ])
              refine zH 2 ?_
              refine wpAnyH_ready (rs := [3]) (by kernel_rfl) (by simp) (AllReadyH.cons (o := { dst := (some 82), op := (Go.Op.call { callee := (Go.Callee.value (Go.Operand.func 72)), args := #[(Go.Operand.tmp 79), (Go.Operand.tmp 80), (Go.Operand.tmp 81)], argTypes := #[104, 24, 71] }), type := 4, pos := "schema.go:141", after := #[{ on := 0, ground := Go.Ground.data }, { on := 1, ground := Go.Ground.data }, { on := 2, ground := Go.Ground.data }], guard := none }) rfl (fun K hK => ?_) AllReadyH.nil)
              go_simp
              (first | (go_at_call 70; refine (HBEG.out _ HU6.out).mono ?_; rintro r w7 ⟨rfl, hu⟩; have HU7 := As.mk (HU6.out.trans hu (fun _ _ h => h)); clear hu) | (go_at_call 72; refine (HMAY.out _ ((Upd.refl _ _).drew)).mono ?_; rintro r w6 ⟨rfl, hu⟩; have HU6 := As.mk (Upd.trans ((Upd.refl (fun _ => False) W5).drew) hu (fun _ _ h => h)); clear hu))
              refine hK.out _ _ (by first | exact HCEL5.out _ HU7.out | exact HCEL5.out _ HU6.out | exact HCEL5.out _ ((Upd.refl _ _).drew)) (fun hHeld => ?_)
              clear hK K
              (try simp only [Act.put, List.setIfInBounds_toArray, List.set_cons_zero, List.set_cons_succ])
              refine zH 4 ?_
              refine zH 5 ?_
              (try simp only [Act.put, List.setIfInBounds_toArray, List.set_cons_zero, List.set_cons_succ])
              refine zH 6 ?_
              refine zH 7 ?_
              refine zH 8 ?_
              refine zH 9 ?_
              (try simp only [Act.put, List.setIfInBounds_toArray, List.set_cons_zero, List.set_cons_succ])
              refine zH 10 ?_
              refine zH 11 ?_
              refine zH 12 ?_
              refine zH 13 ?_
              (try simp only [Act.put, List.setIfInBounds_toArray, List.set_cons_zero, List.set_cons_succ])
              refine zH 14 ?_
              refine zH 15 ?_
              refine zH 16 ?_
              refine zH 17 ?_
              (try simp only [Act.put, List.setIfInBounds_toArray, List.set_cons_zero, List.set_cons_succ])
              refine zH 18 ?_
              refine zH 19 ?_
              refine zH 21 ?_
              refine zH 22 ?_
              (try simp only [Act.put, List.setIfInBounds_toArray, List.set_cons_zero, List.set_cons_succ])
              refine zH 23 ?_
              refine zH 24 ?_
              refine zH 25 ?_
              refine wpAnyH_ready (rs := [20]) (by kernel_rfl) (by simp) (AllReadyH.cons (o := { dst := (some 99), op := (Go.Op.call { callee := (Go.Callee.value (Go.Operand.tmp 85)), args := #[(Go.Operand.tmp 90), (Go.Operand.tmp 94), (Go.Operand.tmp 98)], argTypes := #[95, 89, 86] }), type := 3, pos := "schema.go:141", after := #[{ on := 6, ground := Go.Ground.data }, { on := 11, ground := Go.Ground.data }, { on := 15, ground := Go.Ground.data }, { on := 19, ground := Go.Ground.data }, { on := 5, ground := Go.Ground.chain }, { on := 5, ground := Go.Ground.guard }], guard := (some (5, false)) }) rfl (fun K hK => ?_) AllReadyH.nil)
              go_simp
              (first | (go_at_call 70; refine (HBEG.out _ HU6.out).mono ?_; rintro r w7 ⟨rfl, hu⟩; have HU7 := As.mk (HU6.out.trans hu (fun _ _ h => h)); clear hu) | (go_at_call 72; refine (HMAY.out _ ((Upd.refl _ _).drew)).mono ?_; rintro r w6 ⟨rfl, hu⟩; have HU6 := As.mk (Upd.trans ((Upd.refl (fun _ => False) W5).drew) hu (fun _ _ h => h)); clear hu))
              refine hK.out _ _ (by first | exact HCEL5.out _ HU7.out | exact HCEL5.out _ HU6.out | exact HCEL5.out _ ((Upd.refl _ _).drew)) (fun hHeld => ?_)
              clear hK K
              (try simp only [Act.put, List.setIfInBounds_toArray, List.set_cons_zero, List.set_cons_succ])
              refine zH 26 ?_
              refine zH 27 ?_
              refine wpAnyH_done (by kernel_rfl) ?_ _
              obtain ⟨q0, q1, q2, q3⟩ := HTK.out w7 HU7.out
              rw [HJ.out] at q1
              have HU7d := As.mk (show Pure W5 w7.drew from HU7.out.drew)
              have HOP7 := As.mk (HOP5.out.pure HU7d.out)
              have HRL := As.mk (show (init ++ [((x1, e1), (.slice A4 (wd ++ [x.t]).length c4 : Value))]).length + 1 = init.length + 1 + 1 by simp)
              have HSK7 : As (∀ V, Upd (fun q => (Value.slice (some ⟨b, 0, none⟩) (init.length + 1) cap).ownBlock = some q) w7.drew V → V.cell? ⟨cb, 0, none⟩ = some (.slice (some ⟨b0, o0, none⟩) rs.length cL) ∧ V.cell? ⟨wr.heap.size, 1, none⟩ = some (.int .i64 (j : Int)) ∧ V.cell? ⟨b0, o0 + j * 10, none⟩ = some (.string y.name) ∧ V.cell? ⟨b0, o0 + j * 10 + 1, none⟩ = some (.string y.expr) ∧ V.cell? ⟨b0, o0 + j * 10 + 2, none⟩ = some (.bool y.leaf) ∧ V.cell? ⟨b0, o0 + j * 10 + 3, none⟩ = some (.int .i64 y.marks) ∧ V.cell? ⟨b0, o0 + j * 10 + 4, none⟩ = some (.int .i64 y.least) ∧ V.cell? ⟨b0, o0 + j * 10 + 5, none⟩ = some (.int .i64 y.most) ∧ V.cell? ⟨b0, o0 + j * 10 + 6, none⟩ = some (.bool y.lines) ∧ V.cell? ⟨b0, o0 + j * 10 + 7, none⟩ = some (.int .i64 ye.k) ∧ V.cell? ⟨b0, o0 + j * 10 + 8, none⟩ = some (.string ye.name) ∧ V.cell? ⟨b0, o0 + j * 10 + 9, none⟩ = some (.slice Ay ye.l.length cy)) := ⟨by
                intro V hu
                have hsz : w7.drew.heap.size = w7.heap.size := rfl
                have hz1 := HU7.out.size
                have hz2 := HUP5.out.size
                have hge := HOP7.out.ge
                have hn1 : ∀ q, q < w.heap.size → ¬ (Value.slice (some ⟨b, 0, none⟩) (init.length + 1) cap).ownBlock = some q := fun q hq e => by
                  injection e with e
                  have e2 : b = q := e
                  omega
                have ho : ∀ q o, q < w.heap.size → V.cell? ⟨q, o, none⟩ = w.cell? ⟨q, o, none⟩ := fun q o hq => (hu.cell (by omega) (hn1 q hq)).trans ((HUP5.out.trans HU7d.out (fun _ _ h => h)).cell hq (fun h => h))
                have hnt : ¬ (Value.slice (some ⟨b, 0, none⟩) (init.length + 1) cap).ownBlock = some wr.heap.size := fun e => by
                  injection e with e
                  have e2 : b = wr.heap.size := e
                  omega
                have htW : wr.heap.size < w7.drew.heap.size := by
                  have := HLT5.out
                  omega
                refine ⟨(ho _ _ hcb).trans p0, (hu.cell htW hnt).trans q1, (ho _ _ hby).trans g0, (ho _ _ hby).trans g1', (ho _ _ hby).trans g2, (ho _ _ hby).trans g3, (ho _ _ hby).trans g4, (ho _ _ hby).trans g5, (ho _ _ hby).trans g6, (ho _ _ hby).trans g7, (ho _ _ hby).trans g8, (ho _ _ hby).trans g9⟩⟩
              have HOWN7 : As ((levR w.heap.size).own 102 w7.drew (fun q => q < w.heap.size ∨ q = b) (.slice (some ⟨b, 0, none⟩) (init.length + 1) cap) (init ++ [((x1, e1), (.slice A4 (wd ++ [x.t]).length c4 : Value))])) := ⟨by
                have h9 := HOP7.out.own
                rw [show (init ++ [((x1, e1), (.slice A4 (wd ++ [x.t]).length c4 : Value))]).length = init.length + 1 by simp] at h9
                exact h9⟩
              have HREP : As ((levR w.heap.size).rep w7.drew (fun q => q < w.heap.size) ((y, ye), (.slice none 0 0 : Value)) [.string y.name, .string y.expr, .bool y.leaf, .int .i64 y.marks, .int .i64 y.least, .int .i64 y.most, .bool y.lines, .int .i64 ye.k, .string ye.name, .slice Ay ye.l.length cy, .slice none 0 0]) := ⟨⟨_, rfl, rfl, rep_rule hly (Rp.row_move (fun q hq hl => ⟨⟨hl, hl⟩, Nat.lt_of_lt_of_le hl (HUP5.out.trans HU7d.out (fun _ _ h => h)).size, (HUP5.out.trans HU7d.out (fun _ _ h => h)).block q hl (fun h => h)⟩) hxy)⟩⟩
              have HFP7 : As (∀ q, q < w.heap.size → q < w7.drew.heap.size → some q ≠ (Value.slice (some ⟨b, 0, none⟩) (init.length + 1) cap).ownBlock) := ⟨fun q hq _ e => by
                injection e with e
                have e2 : q = b := e
                have := HOP7.out.ge
                omega⟩
              have HLEN7 : As (((init ++ [((x1, e1), (.slice A4 (wd ++ [x.t]).length c4 : Value))]).length + 1) * 144 ≤ 140737488355328) := ⟨by
                simp only [List.length_append, List.length_singleton]; omega⟩
              obtain ⟨s1, s2, sg⟩ := HSK7.out _ (Upd.refl _ _)
              clear g0 g1' g2 g3 g4 g5 g6 g7 g8 g9 hxy hly
              go_wp2
              refine wp_region_T (P := Tryz.prog) (fun V => V.cell? ⟨cb, 0, none⟩ = some (.slice (some ⟨b0, o0, none⟩) rs.length cL) ∧ V.cell? ⟨wr.heap.size, 1, none⟩ = some (.int .i64 (j : Int)) ∧ V.cell? ⟨b0, o0 + j * 10, none⟩ = some (.string y.name) ∧ V.cell? ⟨b0, o0 + j * 10 + 1, none⟩ = some (.string y.expr) ∧ V.cell? ⟨b0, o0 + j * 10 + 2, none⟩ = some (.bool y.leaf) ∧ V.cell? ⟨b0, o0 + j * 10 + 3, none⟩ = some (.int .i64 y.marks) ∧ V.cell? ⟨b0, o0 + j * 10 + 4, none⟩ = some (.int .i64 y.least) ∧ V.cell? ⟨b0, o0 + j * 10 + 5, none⟩ = some (.int .i64 y.most) ∧ V.cell? ⟨b0, o0 + j * 10 + 6, none⟩ = some (.bool y.lines) ∧ V.cell? ⟨b0, o0 + j * 10 + 7, none⟩ = some (.int .i64 ye.k) ∧ V.cell? ⟨b0, o0 + j * 10 + 8, none⟩ = some (.string ye.name) ∧ V.cell? ⟨b0, o0 + j * 10 + 9, none⟩ = some (.slice Ay ye.l.length cy)) 12 (by kernel_rfl) ?_ (fun hHeld => ?_)
              · first | exact HSK7.out _ (Upd.refl _ _) | exact HSK7.out _ (Upd.alloc1 _ _ _) | exact HSK7.out _ HU8.out
              refine zT 0 ?_
              refine zT 1 ?_
              (try simp only [Act.put, List.setIfInBounds_toArray, List.set_cons_zero, List.set_cons_succ])
              refine zT 2 ?_
              refine zT 3 ?_
              refine zT 4 ?_
              refine zT 5 ?_
              (try simp only [Act.put, List.setIfInBounds_toArray, List.set_cons_zero, List.set_cons_succ])
              refine zT 6 ?_
              refine zT 7 ?_
              refine zT 8 ?_
              refine zT 9 ?_
              (try simp only [Act.put, List.setIfInBounds_toArray, List.set_cons_zero, List.set_cons_succ])
              refine oT 10 (fun K hK => ?_)
              go_simp
              refine hK.out _ _ (fun _ => by first | exact HSK7.out _ (Upd.refl _ _) | exact HSK7.out _ (Upd.alloc1 _ _ _) | exact HSK7.out _ HU8.out) (fun hHeld => ?_)
              replace hHeld := hHeld (by decide)
              clear hK K
              (try simp only [Act.put, List.setIfInBounds_toArray, List.set_cons_zero, List.set_cons_succ])
              refine oT 11 (fun K hK => ?_)
              refine Rp.step_append_keen (levR w.heap.size) (W := w7.drew) (Fp := fun q => q < w.heap.size) HOWN7.out ((y, ye), (.slice none 0 0 : Value)) [.string y.name, .string y.expr, .bool y.leaf, .int .i64 y.marks, .int .i64 y.least, .int .i64 y.most, .bool y.lines, .int .i64 ye.k, .string ye.name, .slice Ay ye.l.length cy, .slice none 0 0] HREP.out HFP7.out (by rfl) _ _ 103 (.agg #[.string ⟨#[]⟩, .string ⟨#[]⟩, .bool false, .int .i64 0, .int .i64 0, .int .i64 0, .bool false, .int .i64 0, .string ⟨#[]⟩, .slice none 0 0, .slice none 0 0]) 144 (by rfl) Tryz.underlying103 lev_info rfl (by show 0 < 11; decide) (by decide) (by rfl) (n := w7.heap.size) rfl (by rfl) HLEN7.out ?_; intro v8 w8 ho8 hu8 hat8; obtain ⟨b8, cap8, hv8, hop8⟩ := Opn.push HOP7.out ho8 hu8 hat8; rw [HRL.out] at hv8; subst hv8; have HOP8 := As.mk hop8; have HU8 := As.mk hu8; clear ho8 hu8 hat8 hop8
              refine hK.out _ _ (fun _ => by first | exact HSK7.out _ (Upd.refl _ _) | exact HSK7.out _ (Upd.alloc1 _ _ _) | exact HSK7.out _ HU8.out) (fun hHeld => ?_)
              replace hHeld := hHeld (by decide)
              clear hK K
              (try simp only [Act.put, List.setIfInBounds_toArray, List.set_cons_zero, List.set_cons_succ])
              refine oT 12 (fun K hK => ?_)
              go_simp
              refine hK.out _ _ (fun h => absurd rfl h) (fun hHeld => ?_)
              clear hK K
              (try simp only [Act.put, List.setIfInBounds_toArray, List.set_cons_zero, List.set_cons_succ])
              refine wpAnyT_done (by kernel_rfl) ?_ _
              try go_wp2
              go_roundg g1
              case measure => omega
              case rel => exact ⟨k + 1, init.length + 1, b8, cap8, by have := HK.out; omega, by go_num, rfl, ⟨_, _, _, by have := congrArg List.length HIM.out.1; simpa using this, CkRel.opened HWD.out HOP8.out HIM.out.1 HIM.out.2 HYM.out HV.out HF.out.2⟩⟩
            · have e1' : (x.k == 1) = false := by simp [h1]
              have HV := As.mk (show ckGo rs gs (k + 1) ((x1, e1), wd ++ [x.t]) below (l.drop (k + 1)) = schemaCheck rs gs l by rw [← hgo, ck_leaf h2 h1 HST.out])
              have HF := As.mk (fc_else hfl h1 h2)
              clear hgo hfl h2 hm h1
              go_wp2
              refine wp_region_held_drew (S := (fun V => (V.cell? ⟨b, init.length * 11 + 7, none⟩ = some (.int .i64 e1.k) ∧ V.cell? ⟨b, init.length * 11 + 8, none⟩ = some (.string e1.name) ∧ V.cell? ⟨b, init.length * 11 + 9, none⟩ = some (.slice A3 e1.l.length c3) ∧ V.cell? ⟨b, init.length * 11 + 10, none⟩ = some (.slice A4 (wd.length + 1) c4) ∧ V.cell? ⟨cb, 1, none⟩ = some (.slice AG gs.length cG)) ∧ V.cell? ⟨wr.heap.size, 0, none⟩ = some (.int .i64 x.k) ∧ V.cell? ⟨wr.heap.size, 1, none⟩ = some (.int .i64 x.t) ∧ V.cell? ⟨wr.heap.size, 2, none⟩ = some (.int .i64 x.n) ∧ V.cell? ⟨wr.heap.size, 3, none⟩ = some (.int .i64 x.m))) (by kernel_rfl) ?_ (fun hHeld => ?_)
              · first | exact HCEL5.out _ HU7.out | exact HCEL5.out _ HU6.out | exact HCEL5.out _ ((Upd.refl _ _).drew)
              refine zH 0 ?_
              (try simp only [Act.put, List.setIfInBounds_toArray, List.set_cons_zero, List.set_cons_succ])
              refine zH 1 ?_
              refine zH 2 ?_
              refine wpAnyH_ready (rs := [3]) (by kernel_rfl) (by simp) (AllReadyH.cons (o := { dst := (some 82), op := (Go.Op.call { callee := (Go.Callee.value (Go.Operand.func 72)), args := #[(Go.Operand.tmp 79), (Go.Operand.tmp 80), (Go.Operand.tmp 81)], argTypes := #[104, 24, 71] }), type := 4, pos := "schema.go:141", after := #[{ on := 0, ground := Go.Ground.data }, { on := 1, ground := Go.Ground.data }, { on := 2, ground := Go.Ground.data }], guard := none }) rfl (fun K hK => ?_) AllReadyH.nil)
              go_simp
              (first | (go_at_call 70; refine (HBEG.out _ HU6.out).mono ?_; rintro r w7 ⟨rfl, hu⟩; have HU7 := As.mk (HU6.out.trans hu (fun _ _ h => h)); clear hu) | (go_at_call 72; refine (HMAY.out _ ((Upd.refl _ _).drew)).mono ?_; rintro r w6 ⟨rfl, hu⟩; have HU6 := As.mk (Upd.trans ((Upd.refl (fun _ => False) W5).drew) hu (fun _ _ h => h)); clear hu))
              refine hK.out _ _ (by first | exact HCEL5.out _ HU7.out | exact HCEL5.out _ HU6.out | exact HCEL5.out _ ((Upd.refl _ _).drew)) (fun hHeld => ?_)
              clear hK K
              (try simp only [Act.put, List.setIfInBounds_toArray, List.set_cons_zero, List.set_cons_succ])
              refine zH 4 ?_
              (try simp only [Act.put, List.setIfInBounds_toArray, List.set_cons_zero, List.set_cons_succ])
              refine zH 5 ?_
              refine zH 6 ?_
              refine zH 7 ?_
              refine zH 8 ?_
              (try simp only [Act.put, List.setIfInBounds_toArray, List.set_cons_zero, List.set_cons_succ])
              refine zH 9 ?_
              refine zH 10 ?_
              refine zH 11 ?_
              refine zH 12 ?_
              (try simp only [Act.put, List.setIfInBounds_toArray, List.set_cons_zero, List.set_cons_succ])
              refine zH 13 ?_
              refine zH 14 ?_
              refine zH 15 ?_
              refine zH 16 ?_
              (try simp only [Act.put, List.setIfInBounds_toArray, List.set_cons_zero, List.set_cons_succ])
              refine zH 17 ?_
              refine zH 18 ?_
              refine zH 19 ?_
              refine zH 21 ?_
              (try simp only [Act.put, List.setIfInBounds_toArray, List.set_cons_zero, List.set_cons_succ])
              refine zH 22 ?_
              refine zH 23 ?_
              refine zH 24 ?_
              refine zH 25 ?_
              (try simp only [Act.put, List.setIfInBounds_toArray, List.set_cons_zero, List.set_cons_succ])
              refine wpAnyH_ready (rs := [20]) (by kernel_rfl) (by simp) (AllReadyH.cons (o := { dst := (some 99), op := (Go.Op.call { callee := (Go.Callee.value (Go.Operand.tmp 85)), args := #[(Go.Operand.tmp 90), (Go.Operand.tmp 94), (Go.Operand.tmp 98)], argTypes := #[95, 89, 86] }), type := 3, pos := "schema.go:141", after := #[{ on := 6, ground := Go.Ground.data }, { on := 11, ground := Go.Ground.data }, { on := 15, ground := Go.Ground.data }, { on := 19, ground := Go.Ground.data }, { on := 5, ground := Go.Ground.chain }, { on := 5, ground := Go.Ground.guard }], guard := (some (5, false)) }) rfl (fun K hK => ?_) AllReadyH.nil)
              go_simp
              (first | (go_at_call 70; refine (HBEG.out _ HU6.out).mono ?_; rintro r w7 ⟨rfl, hu⟩; have HU7 := As.mk (HU6.out.trans hu (fun _ _ h => h)); clear hu) | (go_at_call 72; refine (HMAY.out _ ((Upd.refl _ _).drew)).mono ?_; rintro r w6 ⟨rfl, hu⟩; have HU6 := As.mk (Upd.trans ((Upd.refl (fun _ => False) W5).drew) hu (fun _ _ h => h)); clear hu))
              refine hK.out _ _ (by first | exact HCEL5.out _ HU7.out | exact HCEL5.out _ HU6.out | exact HCEL5.out _ ((Upd.refl _ _).drew)) (fun hHeld => ?_)
              clear hK K
              (try simp only [Act.put, List.setIfInBounds_toArray, List.set_cons_zero, List.set_cons_succ])
              refine zH 26 ?_
              refine zH 27 ?_
              refine wpAnyH_done (by kernel_rfl) ?_ _
              obtain ⟨q0, q1, q2, q3⟩ := HTK.out w7 HU7.out
              go_wp2
              go_roundg g1
              case measure => omega
              case rel => exact ⟨k + 1, init.length, b, cap, by have := HK.out; omega, by go_num, rfl, ⟨_, _, below, by have := congrArg List.length HIM.out.1; simpa using this, CkRel.leaf HWD.out (HOP5.out.pure HU7.out) HIM.out.1 HIM.out.2 HV.out HF.out⟩⟩
    · obtain rfl : k = l.length := by omega
      obtain ⟨rv, top, below, hd, hC⟩ := HC.out
      obtain ⟨init, v, wi, hrv, hil, hop, him, hwi⟩ := hC.split
      obtain ⟨⟨x1, e1⟩, wd⟩ := top
      replace hop : Opn w b cap (init ++ [((x1, e1), v)]) (wi ++ [wd]) wr := hop
      have hup := hop.up
      have HUP := As.mk hup
      have hfl := hC.flat
      have hgo := hC.go
      rw [List.drop_length] at hfl hgo
      have hb0 : below.length = 0 := by
        unfold fcGo at hfl
        by_cases h0 : below.length = 0
        · exact h0
        · rw [if_neg h0] at hfl
          simp at hfl
      obtain rfl : below = [] := List.eq_nil_of_length_eq_zero hb0
      obtain rfl : init = [] := List.eq_nil_of_length_eq_zero (by rw [hil]; rfl)
      obtain rfl : d = 0 := hd
      obtain ⟨A2, c2, m3, m6, m7, m8, m9, m10, hl2, hx2⟩ := hop.lev (j := 0) (x := x1) (e := e1) (v := v) rfl
      simp only [Nat.zero_mul, Nat.zero_add] at m3 m6 m7 m8 m9 m10
      have hbb := hop.blt
      obtain ⟨Aw, cw, rfl, hlw, hrw⟩ := Rp.own_slice hop.top
      have pc1 := (hup.cell (o := 1) hcb (fun h => h)).trans p1
      have hcb2 := Nat.lt_of_lt_of_le hcb hup.size
      have hw1 : wd.length ≤ l.length ∧ (x1, e1) ∈ rs := hC.words ((x1, e1), wd) List.mem_cons_self
      have HACC := As.mk (fun V (hu : Pure wr V) => acc_calls (c := c2) (d := cG) (cw := cw) (SchR.made HOK.out HG.out (HUP.out.trans hu (fun _ _ h => h)) hw1.2 (Rp.row_pure hx2 hu)) (Rp.row_pure hrw hu) (by have := hw1.1; omega))
      have HCEL : As (∀ V, Pure wr V → V.cell? ⟨b, 7, none⟩ = some (.int .i64 e1.k) ∧ V.cell? ⟨b, 8, none⟩ = some (.string e1.name) ∧ V.cell? ⟨b, 9, none⟩ = some (.slice A2 e1.l.length c2) ∧ V.cell? ⟨b, 10, none⟩ = some (.slice Aw wd.length cw) ∧ V.cell? ⟨cb, 1, none⟩ = some (.slice AG gs.length cG)) := ⟨fun V hu => ⟨(hu.cell hbb (fun h => h)).trans m7, (hu.cell hbb (fun h => h)).trans m8, (hu.cell hbb (fun h => h)).trans m9, (hu.cell hbb (fun h => h)).trans m10, (hu.cell hcb2 (fun h => h)).trans pc1⟩⟩
      rw [ck_end] at hgo
      have HGO := As.mk hgo
      clear hx2 hrw hC hop HC hup hfl hgo hb0 hw1
      try clear hd
      try clear hil
      try clear him hwi hrv
      try clear hk
      cases hacc : regAccepts e1 gs wd
      · have HV := As.mk (show ((l.length : Int), (9 : Int)) = schemaCheck rs gs l by rw [← HGO.out, if_neg (by simp only [hacc]; exact Bool.false_ne_true)])
        rw [hacc] at HACC
        clear hacc HGO
        go_wp2
        refine wp_region_held_drew (S := (fun V => V.cell? ⟨b, 7, none⟩ = some (.int .i64 e1.k) ∧ V.cell? ⟨b, 8, none⟩ = some (.string e1.name) ∧ V.cell? ⟨b, 9, none⟩ = some (.slice A2 e1.l.length c2) ∧ V.cell? ⟨b, 10, none⟩ = some (.slice Aw wd.length cw) ∧ V.cell? ⟨cb, 1, none⟩ = some (.slice AG gs.length cG))) (by kernel_rfl) ?_ (fun hHeld => ?_)
        · first | exact HCEL.out _ (Upd.refl _ _).drew | exact HCEL.out _ HU3.out
        refine zH 0 ?_
        (try simp only [Act.put, List.setIfInBounds_toArray, List.set_cons_zero, List.set_cons_succ])
        refine zH 1 ?_
        refine zH 2 ?_
        refine zH 3 ?_
        refine zH 4 ?_
        (try simp only [Act.put, List.setIfInBounds_toArray, List.set_cons_zero, List.set_cons_succ])
        refine zH 5 ?_
        refine zH 6 ?_
        refine zH 7 ?_
        refine zH 8 ?_
        (try simp only [Act.put, List.setIfInBounds_toArray, List.set_cons_zero, List.set_cons_succ])
        refine zH 9 ?_
        refine zH 10 ?_
        refine zH 11 ?_
        refine zH 12 ?_
        (try simp only [Act.put, List.setIfInBounds_toArray, List.set_cons_zero, List.set_cons_succ])
        refine wpAnyH_ready (rs := [13]) (by kernel_rfl) (by simp) (AllReadyH.cons (o := { dst := (some 137), op := (Go.Op.call { callee := (Go.Callee.value (Go.Operand.func 71)), args := #[(Go.Operand.tmp 128), (Go.Operand.tmp 132), (Go.Operand.tmp 136)], argTypes := #[95, 89, 86] }), type := 4, pos := "schema.go:148", after := #[{ on := 4, ground := Go.Ground.data }, { on := 8, ground := Go.Ground.data }, { on := 12, ground := Go.Ground.data }], guard := none }) rfl (fun K hK => ?_) AllReadyH.nil)
        go_simp
        (go_at_call 71; refine (HACC.out _ (Upd.refl _ _).drew).mono ?_; rintro r w3 ⟨rfl, hu⟩; have HU3 := As.mk (Upd.trans ((Upd.refl (fun _ => False) wr).drew) hu (fun _ _ h => h)); clear hu)
        refine hK.out _ _ (by first | exact HCEL.out _ (Upd.refl _ _).drew | exact HCEL.out _ HU3.out) (fun hHeld => ?_)
        clear hK K
        (try simp only [Act.put, List.setIfInBounds_toArray, List.set_cons_zero, List.set_cons_succ])
        refine zH 14 ?_
        refine wpAnyH_done (by kernel_rfl) ?_ _
        go_wp2
        exact bodyPost_ret (v := .tuple #[.int .i64 (l.length : Int), .int .i64 9]) (by simp [results, Tryz.results17, go_sem]) rfl ⟨by rw [← HV.out], HUP.out.trans HU3.out (fun _ _ h => h)⟩
      · have HV := As.mk (show ((l.length : Int), (0 : Int)) = schemaCheck rs gs l by rw [← HGO.out, if_pos (by simp only [hacc])])
        rw [hacc] at HACC
        clear hacc HGO
        go_wp2
        refine wp_region_held_drew (S := (fun V => V.cell? ⟨b, 7, none⟩ = some (.int .i64 e1.k) ∧ V.cell? ⟨b, 8, none⟩ = some (.string e1.name) ∧ V.cell? ⟨b, 9, none⟩ = some (.slice A2 e1.l.length c2) ∧ V.cell? ⟨b, 10, none⟩ = some (.slice Aw wd.length cw) ∧ V.cell? ⟨cb, 1, none⟩ = some (.slice AG gs.length cG))) (by kernel_rfl) ?_ (fun hHeld => ?_)
        · first | exact HCEL.out _ (Upd.refl _ _).drew | exact HCEL.out _ HU3.out
        refine zH 0 ?_
        refine zH 1 ?_
        (try simp only [Act.put, List.setIfInBounds_toArray, List.set_cons_zero, List.set_cons_succ])
        refine zH 2 ?_
        refine zH 3 ?_
        refine zH 4 ?_
        refine zH 5 ?_
        (try simp only [Act.put, List.setIfInBounds_toArray, List.set_cons_zero, List.set_cons_succ])
        refine zH 6 ?_
        refine zH 7 ?_
        refine zH 8 ?_
        refine zH 9 ?_
        (try simp only [Act.put, List.setIfInBounds_toArray, List.set_cons_zero, List.set_cons_succ])
        refine zH 10 ?_
        refine zH 11 ?_
        refine zH 12 ?_
        refine wpAnyH_ready (rs := [13]) (by kernel_rfl) (by simp) (AllReadyH.cons (o := { dst := (some 137), op := (Go.Op.call { callee := (Go.Callee.value (Go.Operand.func 71)), args := #[(Go.Operand.tmp 128), (Go.Operand.tmp 132), (Go.Operand.tmp 136)], argTypes := #[95, 89, 86] }), type := 4, pos := "schema.go:148", after := #[{ on := 4, ground := Go.Ground.data }, { on := 8, ground := Go.Ground.data }, { on := 12, ground := Go.Ground.data }], guard := none }) rfl (fun K hK => ?_) AllReadyH.nil)
        go_simp
        (go_at_call 71; refine (HACC.out _ (Upd.refl _ _).drew).mono ?_; rintro r w3 ⟨rfl, hu⟩; have HU3 := As.mk (Upd.trans ((Upd.refl (fun _ => False) wr).drew) hu (fun _ _ h => h)); clear hu)
        refine hK.out _ _ (by first | exact HCEL.out _ (Upd.refl _ _).drew | exact HCEL.out _ HU3.out) (fun hHeld => ?_)
        clear hK K
        (try simp only [Act.put, List.setIfInBounds_toArray, List.set_cons_zero, List.set_cons_succ])
        refine zH 14 ?_
        refine wpAnyH_done (by kernel_rfl) ?_ _
        go_wp2
        exact bodyPost_ret (v := .tuple #[.int .i64 (l.length : Int), .int .i64 0]) (by simp [results, Tryz.results17, go_sem]) rfl ⟨by rw [← HV.out], HUP.out.trans HU3.out (fun _ _ h => h)⟩
theorem SchemaCheck_calls {w : World} {cb : Nat} {rs : List (Spec × Ex)} {gs : List Grp} {F : Nat → Prop} {A : Option Addr} {c : Nat} {l : List Tok} (h : SchR w cb rs gs) (hok : SchOk rs gs) (hr : tokR.row w F A l) (hb : l.length ≤ 1048576 * 4) :
    Calls Tryz.prog 17 #[.pointer (some ⟨cb, 0, none⟩), .slice A l.length c] w fun e w' => e = .returned (.tuple #[.int .i64 (schemaCheck rs gs l).1, .int .i64 (schemaCheck rs gs l).2]) ∧ Pure w w' := by
  by_cases hf : (flatCheck l).2 = 0
  · exact schemaCheck_main h hok hr hb hf
  · exact schemaCheck_flat h hok hr hb hf
end Go.Proofs.YtfapglhdakhbeaaGreatDoor
