/- My own texts, packed: Check, HouseC, Lang, RowK, RunC, MarkL, StepE, Done9, Tok, Mark9, Chk9, Chk9m, StepC, Remap, SchR6, MayP, Word6. -/
import Derived.Test.YtofjodppljnlaaaGreatDoorP3
namespace Go.Proofs.YtofjodppljnlaaaGreatDoor
open Go.RowKit
set_option linter.unusedVariables false
set_option linter.unusedSimpArgs false
abbrev Lev := (Spec × Ex) × List Int
def zeroEx : Ex := .mk 0 ⟨#[]⟩ []
def ruleOf (rs : List (Spec × Ex)) (t : Int) : Spec × Ex := (rs[t.toNat]?).getD (zeroSpec, zeroEx)
/-- The level with one more in it: may it be? -/
def stepOk (rs : List (Spec × Ex)) (gs : List Grp) (top : Lev) (x : Tok) : Bool := mayT rs top.1.1 x && decide (top.2.length + 1 ≤ regBegins top.1.2 gs (top.2 ++ [x.t]))
def ckGo (rs : List (Spec × Ex)) (gs : List Grp) : Nat → Lev → List Lev → List Tok → Int × Int
  | i, top, _, [] => (i, if regAccepts top.1.2 gs top.2 = true then 0 else 9)
  | i, top, below, x :: r =>
    if x.k = 2 then
      (if regAccepts top.1.2 gs top.2 = true then (match below with | [] => (i, 9) | p :: q => ckGo rs gs (i + 1) p q r) else (i, 9))
    else if stepOk rs gs top x = true then
      (if x.k = 1 then ckGo rs gs (i + 1) (ruleOf rs x.t, []) ((top.1, top.2 ++ [x.t]) :: below) r else ckGo rs gs (i + 1) (top.1, top.2 ++ [x.t]) below r)
    else (i, 9)
def schemaCheck (rs : List (Spec × Ex)) (gs : List Grp) (l : List Tok) : Int × Int := if (flatCheck l).2 = 0 then ckGo rs gs 0 (ruleOf rs 0, []) [] l else flatCheck l
structure SchOk (rs : List (Spec × Ex)) (gs : List Grp) : Prop where
  ne : rs ≠ []
  len : rs.length ≤ 1000
  wt : ∀ p ∈ rs, p.2.wt ≤ 1048576 * 4
  gl : gs.length ≤ 1048576
  gt : ∀ x ∈ gs, x.types.length ≤ 1048576
theorem SchR.made {w v : World} {rs : List (Spec × Ex)} {gs : List Grp} {A1 AG : Option Addr} {x : Spec} {e : Ex} (hok : SchOk rs gs) (hg : grpR.row w (fun _ => True) AG gs) (hu : Pure w v) (hm : (x, e) ∈ rs) (hx : exR.row v (fun k => k < w.heap.size) A1 e.l) : MadeC v A1 AG e gs :=
  ⟨Rp.row_fp hx (fun k hk => Nat.lt_of_lt_of_le hk hu.size), Rp.row_move (fun k hk hl => ⟨Nat.lt_of_lt_of_le hl hu.size, Nat.lt_of_lt_of_le hl hu.size, hu.block k hl (fun h => h)⟩) hg, hok.wt _ hm, hok.gl, hok.gt⟩
/-- The state at the loop's head: k tokens are gone. -/
structure CkRel (w : World) (rs : List (Spec × Ex)) (gs : List Grp) (l : List Tok) (k b cap : Nat) (rv : List ((Spec × Ex) × Value)) (top : Lev) (below : List Lev) (wr : World) : Prop where
  opn : ∃ ws, Opn w b cap rv ws wr ∧ ws = (top :: below).reverse.map (·.2)
  rules : rv.map (·.1) = (top :: below).reverse.map (·.1)
  go : ckGo rs gs k top below (l.drop k) = schemaCheck rs gs l
  flat : fcGo k below.length (l.drop k) = ((l.length : Int), (0 : Int))
  words : ∀ p ∈ top :: below, p.2.length ≤ k ∧ p.1 ∈ rs
theorem fcGo_at : ∀ (l : List Tok) (i n : Nat), (fcGo i n l).2 = 0 → (fcGo i n l).1 = i + l.length
  | [], i, n, h => by simp [fcGo]
  | t :: r, i, n, h => by
    unfold fcGo at h ⊢
    split at h
    · simp at h
    · rename_i h1
      rw [if_neg h1]
      split at h
      · rename_i h2
        rw [if_pos h2]
        split at h
        · simp at h
        · rename_i h3
          rw [if_neg h3, fcGo_at r _ _ h]
          simp; omega
      · rename_i h2
        rw [if_neg h2]
        split at h
        · rename_i h3
          rw [if_pos h3, fcGo_at r _ _ h]
          simp; omega
        · rename_i h3
          rw [if_neg h3, fcGo_at r _ _ h]
          simp; omega
theorem fcGo_depth : ∀ (l : List Tok) (i n : Nat), (fcGo i n l).2 = 0 → n ≤ l.length
  | [], i, n, h => by
    unfold fcGo at h
    by_cases h0 : n = 0
    · omega
    · simp only [if_neg h0] at h
      omega
  | t :: r, i, n, h => by
    unfold fcGo at h
    split at h
    · simp at h
    · split at h
      · split at h
        · simp at h
        · have := fcGo_depth r _ _ h
          simp; omega
      · split at h
        · have := fcGo_depth r _ _ h
          simp; omega
        · have := fcGo_depth r _ _ h
          simp; omega
theorem CkRel.split {w wr : World} {rs : List (Spec × Ex)} {gs : List Grp} {l : List Tok} {k b cap : Nat} {rv : List ((Spec × Ex) × Value)} {top : Lev} {below : List Lev} (h : CkRel w rs gs l k b cap rv top below wr) : ∃ init v wi, rv = init ++ [(top.1, v)] ∧ init.length = below.length ∧ Opn w b cap (init ++ [(top.1, v)]) (wi ++ [top.2]) wr ∧ init.map (·.1) = below.reverse.map (·.1) ∧ wi = below.reverse.map (·.2) := by
  obtain ⟨⟨ws, ho, hws⟩, hr, _⟩ := h
  rw [List.reverse_cons, List.map_append] at hr hws
  obtain ⟨init, last, rfl, h1, h2⟩ := List.map_eq_append_iff.1 hr
  obtain ⟨y, rfl⟩ : ∃ y, last = [y] := by
    have hl1 : last.length = 1 := by simpa using congrArg List.length h2
    exact List.length_eq_one_iff.1 hl1
  have h2' : y.1 = top.1 := by simpa using h2
  obtain ⟨y1, y2⟩ := y
  simp only at h2'
  subst h2'
  exact ⟨init, y2, _, rfl, by simpa using congrArg List.length h1, by rw [hws] at ho; exact ho, h1, rfl⟩
theorem fc_right {k n : Nat} {x : Tok} {r : List Tok} {L : Int} (h : fcGo k n (x :: r) = (L, 0)) : rightB x = true := by
  unfold fcGo at h
  split at h
  · simp at h
  · rename_i h1
    cases hr : rightB x
    · exact absurd (.inl hr) h1
    · rfl
theorem fc_close {k n : Nat} {x : Tok} {r : List Tok} {L : Int} (h : fcGo k n (x :: r) = (L, 0)) (hk : x.k = 2) : n ≠ 0 ∧ fcGo (k + 1) (n - 1) r = (L, 0) := by
  unfold fcGo at h
  split at h
  · simp at h
  · rename_i h1
    rw [if_neg (by omega)] at h
    exact ⟨fun e => h1 (.inr ⟨hk, e⟩), h⟩
theorem fc_open {k n : Nat} {x : Tok} {r : List Tok} {L : Int} (h : fcGo k n (x :: r) = (L, 0)) (hk : x.k = 1) : n ≠ 32 ∧ fcGo (k + 1) (n + 1) r = (L, 0) := by
  unfold fcGo at h
  split at h
  · simp at h
  · split at h
    · simp at h
    · rename_i h2
      exact ⟨h2, h⟩
theorem fc_else {k n : Nat} {x : Tok} {r : List Tok} {L : Int} (h : fcGo k n (x :: r) = (L, 0)) (h1 : x.k ≠ 1) (h2 : x.k ≠ 2) : fcGo (k + 1) n r = (L, 0) := by
  unfold fcGo at h
  split at h
  · simp at h
  · exact h
theorem ck_close {rs : List (Spec × Ex)} {gs : List Grp} {k : Nat} {top p : Lev} {q : List Lev} {x : Tok} {r : List Tok} (h : x.k = 2) (ha : regAccepts top.1.2 gs top.2 = true) : ckGo rs gs k top (p :: q) (x :: r) = ckGo rs gs (k + 1) p q r := by
  rw [ckGo, if_pos h, if_pos ha]
theorem ck_noclose {rs : List (Spec × Ex)} {gs : List Grp} {k : Nat} {top : Lev} {q : List Lev} {x : Tok} {r : List Tok} (h : x.k = 2) (ha : regAccepts top.1.2 gs top.2 = false) : ckGo rs gs k top q (x :: r) = ((k : Int), (9 : Int)) := by
  rw [ckGo.eq_def]; simp only []; rw [if_pos h, if_neg (by rw [ha]; exact Bool.false_ne_true)]
theorem ck_bad {rs : List (Spec × Ex)} {gs : List Grp} {k : Nat} {top : Lev} {q : List Lev} {x : Tok} {r : List Tok} (h : x.k ≠ 2) (ha : stepOk rs gs top x = false) : ckGo rs gs k top q (x :: r) = ((k : Int), (9 : Int)) := by
  rw [ckGo.eq_def]; simp only []; rw [if_neg h, if_neg (by rw [ha]; exact Bool.false_ne_true)]
theorem ck_open {rs : List (Spec × Ex)} {gs : List Grp} {k : Nat} {top : Lev} {q : List Lev} {x : Tok} {r : List Tok} (h : x.k = 1) (ha : stepOk rs gs top x = true) : ckGo rs gs k top q (x :: r) = ckGo rs gs (k + 1) (ruleOf rs x.t, []) ((top.1, top.2 ++ [x.t]) :: q) r := by
  rw [ckGo.eq_def]; simp only []; rw [if_neg (by omega), if_pos ha, if_pos h]
theorem ck_leaf {rs : List (Spec × Ex)} {gs : List Grp} {k : Nat} {top : Lev} {q : List Lev} {x : Tok} {r : List Tok} (h : x.k ≠ 2) (h1 : x.k ≠ 1) (ha : stepOk rs gs top x = true) : ckGo rs gs k top q (x :: r) = ckGo rs gs (k + 1) (top.1, top.2 ++ [x.t]) q r := by
  rw [ckGo.eq_def]; simp only []; rw [if_neg h, if_pos ha, if_neg h1]
theorem ck_end {rs : List (Spec × Ex)} {gs : List Grp} {k : Nat} {top : Lev} {q : List Lev} : ckGo rs gs k top q [] = ((k : Int), if regAccepts top.1.2 gs top.2 = true then (0 : Int) else 9) := by
  rw [ckGo]
theorem acc_calls {A Bg Aw : Option Addr} {c d cw : Nat} {e : Ex} {g : List Grp} {word : List Int} {w : World} {F : Nat → Prop} (hm : MadeC w A Bg e g) (hw : intR.row w F Aw word) (hb : word.length ≤ 1048576 * 4) :
    Calls Tryz.prog 66 #[.agg #[.int .i64 e.k, .string e.name, .slice A e.l.length c], .slice Bg g.length d, .slice Aw word.length cw] w fun r w' => r = .returned (.bool (regAccepts e g word)) ∧ Pure w w' := by
  cases e
  exact accepts_calls hm hw hb
theorem beg_calls {A Bg Aw : Option Addr} {c d cw : Nat} {e : Ex} {g : List Grp} {word : List Int} {w : World} {F : Nat → Prop} (hm : MadeC w A Bg e g) (hw : intR.row w F Aw word) (hb : word.length ≤ 1048576 * 4) :
    Calls Tryz.prog 65 #[.agg #[.int .i64 e.k, .string e.name, .slice A e.l.length c], .slice Bg g.length d, .slice Aw word.length cw] w fun r w' => r = .returned (.int .i64 (regBegins e g word : Nat)) ∧ Pure w w' := by
  cases e
  exact begins_calls hm hw hb
theorem CkRel.leaf {w W : World} {rs : List (Spec × Ex)} {gs : List Grp} {l : List Tok} {k b cap : Nat} {init : List ((Spec × Ex) × Value)} {r : Spec × Ex} {below : List Lev} {v1 : Value} {wd : List Int} {t : Int} {wi : List (List Int)} (hw : ∀ y ∈ ((r, wd) : Lev) :: below, y.2.length ≤ k ∧ y.1 ∈ rs) (ho : Opn w b cap (init ++ [(r, v1)]) (wi ++ [wd ++ [t]]) W) (him : init.map (·.1) = below.reverse.map (·.1)) (hwi : wi = below.reverse.map (·.2)) (hgo : ckGo rs gs (k + 1) (r, wd ++ [t]) below (l.drop (k + 1)) = schemaCheck rs gs l) (hfl : fcGo (k + 1) below.length (l.drop (k + 1)) = ((l.length : Int), (0 : Int))) : CkRel w rs gs l (k + 1) b cap (init ++ [(r, v1)]) (r, wd ++ [t]) below W :=
  ⟨⟨_, ho, by rw [hwi]; simp⟩, by rw [List.map_append, him]; simp, hgo, hfl, fun y hy => by
    rcases List.mem_cons.1 hy with rfl | hy
    · have h0 : wd.length ≤ k ∧ r ∈ rs := hw (r, wd) List.mem_cons_self
      exact ⟨by simp; omega, h0.2⟩
    · have := hw y (List.mem_cons_of_mem _ hy)
      exact ⟨by omega, this.2⟩⟩
theorem CkRel.opened {w W : World} {rs : List (Spec × Ex)} {gs : List Grp} {l : List Tok} {k b cap : Nat} {init : List ((Spec × Ex) × Value)} {r r2 : Spec × Ex} {below : List Lev} {v1 : Value} {wd : List Int} {t : Int} {wi : List (List Int)} (hw : ∀ y ∈ ((r, wd) : Lev) :: below, y.2.length ≤ k ∧ y.1 ∈ rs) (ho : Opn w b cap (init ++ [(r, v1)] ++ [(r2, .slice none 0 0)]) (wi ++ [wd ++ [t]] ++ [[]]) W) (him : init.map (·.1) = below.reverse.map (·.1)) (hwi : wi = below.reverse.map (·.2)) (hr2 : r2 ∈ rs) (hgo : ckGo rs gs (k + 1) (r2, []) ((r, wd ++ [t]) :: below) (l.drop (k + 1)) = schemaCheck rs gs l) (hfl : fcGo (k + 1) (below.length + 1) (l.drop (k + 1)) = ((l.length : Int), (0 : Int))) : CkRel w rs gs l (k + 1) b cap (init ++ [(r, v1)] ++ [(r2, .slice none 0 0)]) (r2, []) ((r, wd ++ [t]) :: below) W :=
  ⟨⟨_, ho, by rw [hwi]; simp⟩, by rw [List.map_append, List.map_append, him]; simp, hgo, hfl, fun y hy => by
    rcases List.mem_cons.1 hy with rfl | hy
    · exact ⟨Nat.zero_le _, hr2⟩
    · rcases List.mem_cons.1 hy with rfl | hy
      · have h0 : wd.length ≤ k ∧ r ∈ rs := hw (r, wd) List.mem_cons_self
        exact ⟨by simp; omega, h0.2⟩
      · have := hw y (List.mem_cons_of_mem _ hy)
        exact ⟨by omega, this.2⟩⟩
theorem lev_info : (Tryz.prog.info? 99).map (fun i => (i.zero, i.size, i.bytes)) = some (some (.agg #[.string ⟨#[]⟩, .string ⟨#[]⟩, .bool false, .int .i64 0, .int .i64 0, .int .i64 0, .bool false, .int .i64 0, .string ⟨#[]⟩, .slice none 0 0, .slice none 0 0]), 11, 144) := by kernel_rfl
theorem mayT_open {rs : List (Spec × Ex)} {s : Spec} {x : Tok} (h1 : x.k = 1) (h : mayT rs s x = true) : ∃ j : Nat, x.t = j ∧ ∃ y e, rs[j]? = some (y, e) ∧ ruleOf rs x.t = (y, e) := by
  unfold mayT at h
  rw [if_neg (by omega)] at h
  cases hs : specOf rs x.t with
  | none => simp [hs] at h
  | some y =>
    unfold specOf at hs
    split at hs
    · cases hs
    · obtain ⟨z, hz, rfl⟩ := Option.map_eq_some_iff.1 hs
      refine ⟨x.t.toNat, by omega, z.1, z.2, hz, ?_⟩
      unfold ruleOf
      rw [hz]
      rfl
theorem CkRel.closed {w wr w1 : World} {rs : List (Spec × Ex)} {gs : List Grp} {l : List Tok} {k b cap : Nat} {init : List ((Spec × Ex) × Value)} {top p : Lev} {q : List Lev} {v : Value} {wi : List (List Int)} (hw : ∀ y ∈ top :: p :: q, y.2.length ≤ k ∧ y.1 ∈ rs) (ho : Opn w b cap (init ++ [(top.1, v)]) (wi ++ [top.2]) wr) (him : init.map (·.1) = (p :: q).reverse.map (·.1)) (hwi : wi = (p :: q).reverse.map (·.2)) (hgo : ckGo rs gs (k + 1) p q (l.drop (k + 1)) = schemaCheck rs gs l) (hfl : fcGo (k + 1) q.length (l.drop (k + 1)) = ((l.length : Int), (0 : Int))) (hu : Pure wr w1) : CkRel w rs gs l (k + 1) b cap init p q w1 :=
  ⟨⟨wi, ho.take.pure hu, hwi⟩, him, hgo, hfl, fun y hy => by
    have := hw y (by simp only [List.mem_cons] at hy ⊢; exact .inr hy)
    exact ⟨by omega, this.2⟩⟩
end Go.Proofs.YtofjodppljnlaaaGreatDoor
namespace Go.Proofs.YtofjodppljnlaaaGreatDoor
open Go.RowKit
set_option linter.unusedVariables false
set_option linter.unusedSimpArgs false
set_option maxRecDepth 100000 in
set_option maxHeartbeats 4000000 in
theorem schemaCheck_flat {w : World} {cb : Nat} {rs : List (Spec × Ex)} {gs : List Grp} {F : Nat → Prop} {A : Option Addr} {c : Nat} {l : List Tok} (h : SchR w cb rs gs) (hok : SchOk rs gs) (hr : tokR.row w F A l) (hb : l.length ≤ 1048576 * 4) (hf : (flatCheck l).2 ≠ 0) :
    Calls Tryz.prog 15 #[.pointer (some ⟨cb, 0, none⟩), .slice A l.length c] w fun e w' => e = .returned (.tuple #[.int .i64 (schemaCheck rs gs l).1, .int .i64 (schemaCheck rs gs l).2]) ∧ Pure w w' := by
  have HNO := As.mk (none_calls h hok.ne)
  have HFC := As.mk (Check_calls (c := c) hr hb)
  have hE : schemaCheck rs gs l = flatCheck l := by unfold schemaCheck; rw [if_neg hf]
  rw [hE]
  have t1 : ((flatCheck l).2 != 0) = true := by simpa using hf
  clear h hok hr hf hE
  generalize flatCheck l = fc at *
  obtain ⟨f1, f2⟩ := fc
  go_enter Tryz.func15, Tryz.ntmps15
  go_wp2_with (first | (go_at_call 64; refine HFC.out.mono ?_; rintro r w2 ⟨rfl, hu⟩; have HU2 := As.mk hu; clear hu) | (go_at_call 63; refine HNO.out.mono ?_; rintro r w1 ⟨rfl, hw⟩; replace hw := hw.symm; subst hw))
  exact bodyPost_ret (v := .tuple #[.int .i64 f1, .int .i64 f2]) (by simp [results, Tryz.results15, go_sem]) rfl ⟨rfl, HU2.out⟩
set_option maxRecDepth 100000 in
set_option maxHeartbeats 4000000 in
theorem schemaCheck_main {w : World} {cb : Nat} {rs : List (Spec × Ex)} {gs : List Grp} {F : Nat → Prop} {A : Option Addr} {c : Nat} {l : List Tok} (h : SchR w cb rs gs) (hok : SchOk rs gs) (hr : tokR.row w F A l) (hb : l.length ≤ 1048576 * 4) (hf : (flatCheck l).2 = 0) :
    Calls Tryz.prog 15 #[.pointer (some ⟨cb, 0, none⟩), .slice A l.length c] w fun e w' => e = .returned (.tuple #[.int .i64 (schemaCheck rs gs l).1, .int .i64 (schemaCheck rs gs l).2]) ∧ Pure w w' := by
  have HNO := As.mk (none_calls h hok.ne)
  have HFC := As.mk (Check_calls (c := c) hr hb)
  have HH := As.mk h
  have HOK := As.mk hok
  have HR := As.mk hr
  obtain ⟨AL, cL, AG, cG, p0, p1, hcb, hle, hrow, hgrow⟩ := h.cells
  have HG := As.mk hgrow
  have HROW := As.mk hrow
  obtain ⟨y, hy⟩ : ∃ y, rs[0]? = some y := ⟨_, List.getElem?_eq_getElem (List.length_pos_iff.2 hok.ne)⟩
  obtain ⟨x0, e0⟩ := y
  obtain ⟨b0, o0, A1, c1, rfl, _, hb0, d0, d1, d2, d3, d4, d5, d6, d7, d8, d9, hl1, hx1⟩ := rule_at hrow hy
  simp only [Nat.zero_mul, Nat.add_zero] at d0 d1 d2 d3 d4 d5 d6 d7 d8 d9
  have hlen : l.length ≤ 2048 := by
    rcases Nat.lt_or_ge 2048 l.length with h9 | h9
    · exfalso
      unfold flatCheck at hf
      rw [if_pos (by omega)] at hf
      simp at hf
    · exact h9
  have hE : schemaCheck rs gs l = ckGo rs gs 0 ((x0, e0), []) [] l := by
    unfold schemaCheck
    rw [if_pos hf]
    unfold ruleOf
    rw [show (0 : Int).toNat = 0 from rfl, hy]
    rfl
  have hF : fcGo 0 0 l = ((l.length : Int), (0 : Int)) := by
    have hu : flatCheck l = fcGo 0 0 l := by unfold flatCheck; rw [if_neg (by omega)]
    rw [hu] at hf
    have h1 := fcGo_at l 0 0 hf
    rw [Prod.ext_iff]
    exact ⟨by simpa using h1, hf⟩
  have HE := As.mk hE
  have HFL := As.mk hF
  have HM0 := As.mk (List.mem_of_getElem? hy)
  have HX1 := As.mk (And.intro hl1 (Rp.row_move (fun k (hk : True) hl => ⟨hl, hl, rfl⟩) hx1 : exR.row w (fun k => k < w.heap.size) A1 e0.l))
  have t1 : ((flatCheck l).2 != 0) = false := by simpa using hf
  have hpos : 0 < rs.length := List.length_pos_iff.2 hok.ne
  have hrl : rs.length ≤ 1000 := hok.len
  have hfz : (flatCheck l).2 = 0 := hf
  rw [hfz] at HFC
  clear h hok hr hf hE hF hrow hgrow hx1 hl1 hfz t1 hy
  go_enter Tryz.func15, Tryz.ntmps15
  go_wp2_with (first | (go_at_call 64; refine HFC.out.mono ?_; rintro r w2 ⟨rfl, hu⟩; have HU2 := As.mk hu; obtain ⟨oc, of⟩ := hu.olds; have hz2 := hu.size; clear hu) | (go_at_call 63; refine HNO.out.mono ?_; rintro r w1 ⟨rfl, hw⟩; replace hw := hw.symm; subst hw))
  go_loopg [9, 34] l.length (fun gg ov i wr => ∃ (k d b cap : Nat), k + gg = l.length ∧ i = .int .i64 k ∧ ov = .slice (some ⟨b, 0, none⟩) (d + 1) cap ∧ As (∃ rv top below, d = below.length ∧ CkRel w rs gs l k b cap rv top below wr))
  case atStart =>
    exact ⟨0, 0, w2.heap.size, 1, by omega, rfl, rfl, ⟨[((x0, e0), .slice none 0 0)], ((x0, e0), []), [], rfl, ⟨⟨[[]], Opn.start HU2.out HX1.out.1 (Rp.row_pure HX1.out.2 HU2.out), rfl⟩, rfl, HE.out.symm, HFL.out, fun p hp => by
      simp only [List.mem_singleton] at hp
      subst hp
      exact ⟨Nat.zero_le _, HM0.out⟩⟩⟩⟩
  case round =>
    obtain ⟨k, d, b, cap, hk, rfl, rfl, HC⟩ := hrel
    clear oc of d0 d1 d2 d3 d4 d5 d6 d7 d8 d9 hb0 HU2 hz2 HE HFL HM0 HX1 HNO HFC
    by_cases hlt : k < l.length
    · obtain ⟨x, hx⟩ : ∃ x, l[k]? = some x := ⟨_, List.getElem?_eq_getElem hlt⟩
      obtain ⟨rv, top, below, hd, hC⟩ := HC.out
      obtain ⟨init, v, wi, hrv, hil, hop, him, hwi⟩ := hC.split
      obtain rfl : d = init.length := hd.trans hil.symm
      obtain ⟨⟨x1, e1⟩, wd⟩ := top
      replace hop : Opn w b cap (init ++ [((x1, e1), v)]) (wi ++ [wd]) wr := hop
      have hup := hop.up
      have HUP := As.mk hup
      obtain ⟨bt, ot, rfl, hFb, hbl, q0, q1, q2, q3⟩ := tok_at (Rp.row_pure HR.out hup) hx
      obtain ⟨A2, c2, m3, m6, m7, m8, m9, m10, hl2, hx2⟩ := hop.lev (j := init.length) (x := x1) (e := e1) (v := v) (by simp)
      have hbb := hop.blt
      have hroom := hop.room
      rw [show (init ++ [((x1, e1), v)]).length = init.length + 1 by simp] at hroom
      obtain ⟨Aw, cw, rfl, hlw, hrw⟩ := Rp.own_slice hop.top
      have pc0 := (hup.cell (o := 0) hcb (fun h => h)).trans p0
      have pc1 := (hup.cell (o := 1) hcb (fun h => h)).trans p1
      have hcb2 := Nat.lt_of_lt_of_le hcb hup.size
      have hgo := hC.go
      have hfl := hC.flat
      rw [drop_cons hx] at hgo hfl
      have hwords := hC.words
      have hw1 : wd.length ≤ k ∧ (x1, e1) ∈ rs := hwords ((x1, e1), wd) List.mem_cons_self
      have HOP := As.mk hop
      have HIM := As.mk (And.intro him hwi)
      have HK := As.mk hk
      have HWD := As.mk hwords
      have hd33 : init.length ≤ 2048 := by
        have h9 := fcGo_depth _ _ _ (by rw [hfl])
        rw [List.length_cons, List.length_drop] at h9
        omega
      have HACC := As.mk (fun V (hu : Pure wr V) => acc_calls (c := c2) (d := cG) (cw := cw) (SchR.made HOK.out HG.out (HUP.out.trans hu (fun _ _ h => h)) hw1.2 (Rp.row_pure hx2 hu)) (Rp.row_pure hrw hu) (by have := hw1.1; omega))
      obtain ⟨g1, rfl⟩ : ∃ m, gk = m + 1 := ⟨gk - 1, by omega⟩
      obtain ⟨W, hW⟩ : ∃ W, W = wr.alloc (.cells #[.int .i64 x.k, .int .i64 x.t, .int .i64 x.n, .int .i64 x.m] 71) := ⟨_, rfl⟩
      have HPW := As.mk (show Pure wr W from hW ▸ Upd.alloc1 _ _ _)
      have hWb : W.heap[wr.heap.size]? = some (.cells #[.int .i64 x.k, .int .i64 x.t, .int .i64 x.n, .int .i64 x.m] 71) := hW ▸ heap_alloc_new wr _
      have HWB := As.mk hWb
      have HWS := As.mk (show W.heap.size = wr.heap.size + 1 by subst hW; simp)
      have HCEL : As (∀ V, Pure wr V → V.cell? ⟨b, init.length * 11 + 7, none⟩ = some (.int .i64 e1.k) ∧ V.cell? ⟨b, init.length * 11 + 8, none⟩ = some (.string e1.name) ∧ V.cell? ⟨b, init.length * 11 + 9, none⟩ = some (.slice A2 e1.l.length c2) ∧ V.cell? ⟨b, init.length * 11 + 10, none⟩ = some (.slice Aw wd.length cw) ∧ V.cell? ⟨cb, 1, none⟩ = some (.slice AG gs.length cG)) := ⟨fun V hu => ⟨(hu.cell hbb (fun h => h)).trans m7, (hu.cell hbb (fun h => h)).trans m8, (hu.cell hbb (fun h => h)).trans m9, (hu.cell hbb (fun h => h)).trans m10, (hu.cell hcb2 (fun h => h)).trans pc1⟩⟩
      clear hwords hx2 hrw hC hd hil hop him hwi hx HC hk hup hrv
      by_cases h2 : x.k = 2
      · have e2 : (x.k == 2) = true := by simp [h2]
        obtain ⟨hn0, hfl2⟩ := fc_close hfl h2
        have HFL2 := As.mk hfl2
        cases hacc : regAccepts e1 gs wd
        · have HV := As.mk (show ((k : Int), (9 : Int)) = schemaCheck rs gs l by rw [← hgo, ck_noclose h2 hacc])
          rw [hacc] at HACC
          clear hgo hfl hfl2 h2 hn0 hacc
          go_wp2
          rw [← hW]
          clear hW
          refine wp_region_held_drew (S := (fun V => V.cell? ⟨b, init.length * 11 + 7, none⟩ = some (.int .i64 e1.k) ∧ V.cell? ⟨b, init.length * 11 + 8, none⟩ = some (.string e1.name) ∧ V.cell? ⟨b, init.length * 11 + 9, none⟩ = some (.slice A2 e1.l.length c2) ∧ V.cell? ⟨b, init.length * 11 + 10, none⟩ = some (.slice Aw wd.length cw) ∧ V.cell? ⟨cb, 1, none⟩ = some (.slice AG gs.length cG))) (by kernel_rfl) ?_ (fun hHeld => ?_)
          · first | exact HCEL.out _ HPW.out.drew | exact HCEL.out _ HU3.out
          refine zH 0 ?_
          refine zH 1 ?_
          refine zH 2 ?_
          refine zH 3 ?_
          (try simp only [Act.put, sA, sB, sC])
          refine zH 4 ?_
          refine zH 5 ?_
          refine zH 6 ?_
          refine zH 7 ?_
          (try simp only [Act.put, sA, sB, sC])
          refine zH 8 ?_
          refine zH 9 ?_
          refine zH 10 ?_
          refine zH 11 ?_
          (try simp only [Act.put, sA, sB, sC])
          refine zH 12 ?_
          refine wpAnyH_ready (rs := [13]) (by kernel_rfl) (by simp) (AllReadyH.cons (o := { dst := (some 60), op := (Go.Op.call { callee := (Go.Callee.value (Go.Operand.func 66)), args := #[(Go.Operand.tmp 51), (Go.Operand.tmp 55), (Go.Operand.tmp 59)], argTypes := #[92, 86, 83] }), type := 4, pos := "schema.go:134", after := #[{ on := 4, ground := Go.Ground.data }, { on := 8, ground := Go.Ground.data }, { on := 12, ground := Go.Ground.data }], guard := none }) rfl (fun K hK => ?_) AllReadyH.nil)
          go_simp
          (go_at_call 66; refine (HACC.out _ HPW.out.drew).mono ?_; rintro r w3 ⟨rfl, hu⟩; have HU3 := As.mk (HPW.out.drew.trans hu (fun _ _ h => h)); clear hu)
          refine hK.out _ _ (by first | exact HCEL.out _ HPW.out.drew | exact HCEL.out _ HU3.out) (fun hHeld => ?_)
          clear hK K
          (try simp only [Act.put, sA, sB, sC])
          refine zH 14 ?_
          refine wpAnyH_done (by kernel_rfl) ?_ _
          go_wp2
          exact bodyPost_ret (v := .tuple #[.int .i64 (k : Int), .int .i64 9]) (by simp [results, Tryz.results15, go_sem]) rfl ⟨by rw [← HV.out], HUP.out.trans HU3.out (fun _ _ h => h)⟩
        · obtain ⟨p, q, rfl⟩ : ∃ p q, below = p :: q := by
            cases below with
            | nil => exact absurd rfl hn0
            | cons p q => exact ⟨p, q, rfl⟩
          have HV := As.mk (show ckGo rs gs (k + 1) p q (l.drop (k + 1)) = schemaCheck rs gs l by rw [← hgo, ck_close h2 hacc])
          have HIL2 := As.mk (show init.length = q.length + 1 by have := congrArg List.length HIM.out.1; simpa using this)
          rw [hacc] at HACC
          clear hgo hfl hfl2 h2 hn0 hacc
          go_wp2
          rw [← hW]
          clear hW
          refine wp_region_held_drew (S := (fun V => V.cell? ⟨b, init.length * 11 + 7, none⟩ = some (.int .i64 e1.k) ∧ V.cell? ⟨b, init.length * 11 + 8, none⟩ = some (.string e1.name) ∧ V.cell? ⟨b, init.length * 11 + 9, none⟩ = some (.slice A2 e1.l.length c2) ∧ V.cell? ⟨b, init.length * 11 + 10, none⟩ = some (.slice Aw wd.length cw) ∧ V.cell? ⟨cb, 1, none⟩ = some (.slice AG gs.length cG))) (by kernel_rfl) ?_ (fun hHeld => ?_)
          · first | exact HCEL.out _ HPW.out.drew | exact HCEL.out _ HU3.out
          refine zH 0 ?_
          (try simp only [Act.put, sA, sB, sC])
          refine zH 1 ?_
          refine zH 2 ?_
          refine zH 3 ?_
          refine zH 4 ?_
          (try simp only [Act.put, sA, sB, sC])
          refine zH 5 ?_
          refine zH 6 ?_
          refine zH 7 ?_
          refine zH 8 ?_
          (try simp only [Act.put, sA, sB, sC])
          refine zH 9 ?_
          refine zH 10 ?_
          refine zH 11 ?_
          refine zH 12 ?_
          (try simp only [Act.put, sA, sB, sC])
          refine wpAnyH_ready (rs := [13]) (by kernel_rfl) (by simp) (AllReadyH.cons (o := { dst := (some 60), op := (Go.Op.call { callee := (Go.Callee.value (Go.Operand.func 66)), args := #[(Go.Operand.tmp 51), (Go.Operand.tmp 55), (Go.Operand.tmp 59)], argTypes := #[92, 86, 83] }), type := 4, pos := "schema.go:134", after := #[{ on := 4, ground := Go.Ground.data }, { on := 8, ground := Go.Ground.data }, { on := 12, ground := Go.Ground.data }], guard := none }) rfl (fun K hK => ?_) AllReadyH.nil)
          go_simp
          (go_at_call 66; refine (HACC.out _ HPW.out.drew).mono ?_; rintro r w3 ⟨rfl, hu⟩; have HU3 := As.mk (HPW.out.drew.trans hu (fun _ _ h => h)); clear hu)
          refine hK.out _ _ (by first | exact HCEL.out _ HPW.out.drew | exact HCEL.out _ HU3.out) (fun hHeld => ?_)
          clear hK K
          (try simp only [Act.put, sA, sB, sC])
          refine zH 14 ?_
          refine wpAnyH_done (by kernel_rfl) ?_ _
          go_wp2
          go_roundg g1
          case measure => omega
          case rel => exact ⟨k + 1, q.length, b, cap, by have := HK.out; omega, by go_num, by rw [HIL2.out], ⟨init, p, q, rfl, CkRel.closed HWD.out HOP.out HIM.out.1 HIM.out.2 HV.out (by simpa using HFL2.out) HU3.out⟩⟩
      · have e2 : (x.k == 2) = false := by simp [h2]
        have HTOP := As.mk (Rp.own_drew (int_own_upd HOP.out.top HPW.out (fun _ _ h => h)))
        have HLEN := As.mk (show (wd.length + 1) * 8 ≤ 140737488355328 by have := hw1.1; omega)
        have HBB := As.mk (And.intro hbb (HOP.out.frozen (init.length * 11 + 10)))
        have HSK : As (∀ V, Upd (fun q => (Value.slice Aw wd.length cw).ownBlock = some q) W.drew V → V.cell? ⟨b, init.length * 11 + 10, none⟩ = some (.slice Aw wd.length cw) ∧ V.frozen? ⟨b, init.length * 11 + 10, none⟩ = false ∧ V.cell? ⟨wr.heap.size, 1, none⟩ = some (.int .i64 x.t)) := ⟨by
          intro V hu
          have hnb : ¬ (Value.slice Aw wd.length cw).ownBlock = some b := fun e => (Rp.own_block_lt HOP.out.top b e).1.2 rfl
          have hnt : ¬ (Value.slice Aw wd.length cw).ownBlock = some wr.heap.size := fun e => by have := (Rp.own_block_lt HOP.out.top _ e).2; omega
          have hbW : b < W.drew.heap.size := by have := HWS.out; have := HBB.out.1; show b < W.heap.size; omega
          have htW : wr.heap.size < W.drew.heap.size := by have := HWS.out; show wr.heap.size < W.heap.size; omega
          refine ⟨(hu.cell hbW hnb).trans (HCEL.out _ HPW.out.drew).2.2.2.1, (hu.frozen hbW hnb).trans ((HPW.out.drew.frozen HBB.out.1 (fun h => h)).trans HBB.out.2), (hu.cell htW hnt).trans ?_⟩
          show W.cell? _ = _
          unfold World.cell?; simp only [HWB.out]; rfl⟩
        clear hw1
        go_wp2
        rw [← hW]
        clear hW
        refine wp_region_T (P := Tryz.prog) (fun V => V.cell? ⟨b, init.length * 11 + 10, none⟩ = some (.slice Aw wd.length cw) ∧ V.frozen? ⟨b, init.length * 11 + 10, none⟩ = false ∧ V.cell? ⟨wr.heap.size, 1, none⟩ = some (.int .i64 x.t)) 11 (by kernel_rfl) ?_ (fun hHeld => ?_)
        · first | exact HSK.out _ (Upd.refl _ _) | exact HSK.out _ (Upd.alloc1 _ _ _) | exact HSK.out _ HU4.out
        refine zT 0 ?_
        refine zT 1 ?_
        (try simp only [Act.put, sA, sB, sC])
        refine zT 2 ?_
        refine zT 3 ?_
        refine zT 4 ?_
        refine zT 5 ?_
        (try simp only [Act.put, sA, sB, sC])
        refine zT 6 ?_
        refine oT 7 (fun K hK => ?_)
        go_simp
        refine hK.out _ _ (fun _ => by first | exact HSK.out _ (Upd.refl _ _) | exact HSK.out _ (Upd.alloc1 _ _ _) | exact HSK.out _ HU4.out) (fun hHeld => ?_)
        replace hHeld := hHeld (by decide)
        clear hK K
        (try simp only [Act.put, sA, sB, sC])
        refine oT 8 (fun K hK => ?_)
        refine Rp.step_append_keen intRS (W := W.drew) (Fp := fun _ => False) HTOP.out x.t [.int .i64 x.t] rfl (fun _ h => h.elim) (by rfl) _ _ 83 (.int .i64 0) 8 (by rfl) Tryz.underlying83 int_infoS rfl (by decide) (by decide) (by rfl) (n := W.heap.size) rfl (by rfl) HLEN.out ?_; intro v4 w4 ho4 hu4 hat4; obtain ⟨A4, c4, rfl, hl4, hr4⟩ := Rp.own_slice ho4; have HO4 := As.mk ho4; have HU4 := As.mk hu4; have HAT4 := As.mk hat4; obtain ⟨s1, s2, s3⟩ := HSK.out w4 hu4; clear ho4 hu4 hat4 hl4 hr4
        refine hK.out _ _ (fun _ => by first | exact HSK.out _ (Upd.refl _ _) | exact HSK.out _ (Upd.alloc1 _ _ _) | exact HSK.out _ HU4.out) (fun hHeld => ?_)
        replace hHeld := hHeld (by decide)
        clear hK K
        (try simp only [Act.put, sA, sB, sC])
        refine oT 9 (fun K hK => ?_)
        go_simp
        refine hK.out _ _ (fun _ => by first | exact HSK.out _ (Upd.refl _ _) | exact HSK.out _ (Upd.alloc1 _ _ _) | exact HSK.out _ HU4.out) (fun hHeld => ?_)
        replace hHeld := hHeld (by decide)
        clear hK K
        (try simp only [Act.put, sA, sB, sC])
        refine zT 10 ?_
        refine oT 11 (fun K hK => ?_)
        go_simp
        refine hK.out _ _ (fun h => absurd rfl h) (fun hHeld => ?_)
        clear hK K
        (try simp only [Act.put, sA, sB, sC])
        refine wpAnyT_done (by kernel_rfl) ?_ _
        obtain ⟨W5, hW5⟩ : ∃ W5, W5 = w4.setCell ⟨b, init.length * 11 + 10, none⟩ (.slice A4 (wd ++ [x.t]).length c4) := ⟨_, rfl⟩
        have HOP5 : As (Opn w b cap (init ++ [((x1, e1), .slice A4 (wd ++ [x.t]).length c4)]) (wi ++ [wd ++ [x.t]]) W5) := ⟨by
          rw [hW5]
          have hws := HWS.out
          have hsz : W.drew.heap.size = W.heap.size := rfl
          refine HOP.out.grow HO4.out (fun q hq => ?_) ((HPW.out.drew.mono (fun _ _ h => h.elim)).trans HU4.out (fun _ _ h => h)) ?_
          · rcases HAT4.out with e | ⟨q', hq', hle⟩
            · rw [e] at hq
              exact (Rp.own_block_lt HOP.out.top q hq).1
            · rw [hq'] at hq
              injection hq with hq
              have := HOP.out.ge
              have := HBB.out.1
              omega
          · rcases HAT4.out with e | ⟨q', hq', hle⟩
            · exact .inl e
            · exact .inr ⟨q', hq', by omega⟩⟩
        have HTK : As (∀ V, Pure W5 V → V.cell? ⟨wr.heap.size, 0, none⟩ = some (.int .i64 x.k) ∧ V.cell? ⟨wr.heap.size, 1, none⟩ = some (.int .i64 x.t) ∧ V.cell? ⟨wr.heap.size, 2, none⟩ = some (.int .i64 x.n) ∧ V.cell? ⟨wr.heap.size, 3, none⟩ = some (.int .i64 x.m)) := ⟨by
          intro V hu
          have hws := HWS.out
          have hnt : ¬ (Value.slice Aw wd.length cw).ownBlock = some wr.heap.size := fun e => by have := (Rp.own_block_lt HOP.out.top _ e).2; omega
          have hblk : W5.heap[wr.heap.size]? = some (.cells #[.int .i64 x.k, .int .i64 x.t, .int .i64 x.n, .int .i64 x.m] 71) := by
            rw [hW5]
            rw [Below.heap_setCell _ _ _ _ (by have := HBB.out.1; simp; omega), HU4.out.block _ (by show wr.heap.size < W.heap.size; omega) hnt]
            exact HWB.out
          have hb5 := (hu.block wr.heap.size (Array.getElem?_eq_some_iff.1 hblk).1 (fun h => h)).trans hblk
          refine ⟨?_, ?_, ?_, ?_⟩ <;> (unfold World.cell?; simp only [hb5]; rfl)⟩
        have HLT5 := As.mk (show wr.heap.size < W5.heap.size by
          have h1 := HU4.out.size
          have h2 := HWS.out
          have h3 : W.drew.heap.size = W.heap.size := rfl
          have h4 : W5.heap.size = w4.heap.size := by rw [hW5]; simp [World.setCell]
          omega)
        rw [List.length_append, List.length_singleton] at hW5
        try rw [← hW5]
        clear hW5
        obtain ⟨A3, c3, n3, n6, n7, n8, n9, n10, hl3, hx3⟩ := HOP5.out.lev (j := init.length) (x := x1) (e := e1) (v := .slice A4 (wd ++ [x.t]).length c4) (by simp)
        have HUP5 := As.mk HOP5.out.up
        have pd1 := (HOP5.out.up.cell (o := 1) hcb (fun h => h)).trans p1
        rw [List.length_append, List.length_singleton] at n10
        have hb5 := HOP5.out.blt
        have hcb5 := Nat.lt_of_lt_of_le hcb HOP5.out.up.size
        have HCEL5 : As (∀ V, Pure W5 V → (V.cell? ⟨b, init.length * 11 + 7, none⟩ = some (.int .i64 e1.k) ∧ V.cell? ⟨b, init.length * 11 + 8, none⟩ = some (.string e1.name) ∧ V.cell? ⟨b, init.length * 11 + 9, none⟩ = some (.slice A3 e1.l.length c3) ∧ V.cell? ⟨b, init.length * 11 + 10, none⟩ = some (.slice A4 (wd.length + 1) c4) ∧ V.cell? ⟨cb, 1, none⟩ = some (.slice AG gs.length cG)) ∧ V.cell? ⟨wr.heap.size, 0, none⟩ = some (.int .i64 x.k) ∧ V.cell? ⟨wr.heap.size, 1, none⟩ = some (.int .i64 x.t) ∧ V.cell? ⟨wr.heap.size, 2, none⟩ = some (.int .i64 x.n) ∧ V.cell? ⟨wr.heap.size, 3, none⟩ = some (.int .i64 x.m)) := ⟨fun V hu => ⟨⟨(hu.cell hb5 (fun h => h)).trans n7, (hu.cell hb5 (fun h => h)).trans n8, (hu.cell hb5 (fun h => h)).trans n9, (hu.cell hb5 (fun h => h)).trans n10, (hu.cell hcb5 (fun h => h)).trans pd1⟩, HTK.out V hu⟩⟩
        have HMAY := As.mk (fun V (hu : Pure W5 V) => may_calls (HH.out.pure (HUP5.out.trans hu (fun _ _ h => h))) HOK.out.ne HOK.out.len (Nat.lt_of_lt_of_le hb5 hu.size) ((hu.cell hb5 (fun h => h)).trans n3) ((hu.cell hb5 (fun h => h)).trans n6) x)
        have hrw5 : intRS.row W5 (fun k => w.heap.size ≤ k ∧ k ≠ b) A4 (wd ++ [x.t]) := by
          obtain ⟨A', c', hv', _, hr'⟩ := Rp.own_slice HOP5.out.top
          simp only [Value.slice.injEq] at hv'
          obtain ⟨rfl, _, _⟩ := hv'
          exact hr'
        have hm1 : (x1, e1) ∈ rs := (HWD.out ((x1, e1), wd) List.mem_cons_self).2
        have hwl : wd.length ≤ k := (HWD.out ((x1, e1), wd) List.mem_cons_self).1
        have HBEG := As.mk (fun V (hu : Pure W5 V) => beg_calls (c := c3) (d := cG) (cw := c4) (SchR.made HOK.out HG.out (HUP5.out.trans hu (fun _ _ h => h)) hm1 (Rp.row_pure hx3 hu)) (Rp.row_pure hrw5 hu) (by simp; omega))
        rw [List.length_append, List.length_singleton] at HBEG
        have hrows := hrw5
        clear hrw5 hx3 s1 s2 s3 m3 m6 m7 m8 m9 m10 n3 n6 n7 n8 n9 n10 pd1 hrows HTOP HBB HSK HCEL HO4 HU4 HAT4 HPW HWB HWS HACC
        cases hm : mayT rs x1 x
        · have HV := As.mk (show ((k : Int), (9 : Int)) = schemaCheck rs gs l by rw [← hgo, ck_bad h2 (by unfold stepOk; simp only [hm]; rfl)])
          rw [hm] at HMAY
          clear hgo hfl h2 hm
          go_wp2
          refine wp_region_held_drew (S := (fun V => (V.cell? ⟨b, init.length * 11 + 7, none⟩ = some (.int .i64 e1.k) ∧ V.cell? ⟨b, init.length * 11 + 8, none⟩ = some (.string e1.name) ∧ V.cell? ⟨b, init.length * 11 + 9, none⟩ = some (.slice A3 e1.l.length c3) ∧ V.cell? ⟨b, init.length * 11 + 10, none⟩ = some (.slice A4 (wd.length + 1) c4) ∧ V.cell? ⟨cb, 1, none⟩ = some (.slice AG gs.length cG)) ∧ V.cell? ⟨wr.heap.size, 0, none⟩ = some (.int .i64 x.k) ∧ V.cell? ⟨wr.heap.size, 1, none⟩ = some (.int .i64 x.t) ∧ V.cell? ⟨wr.heap.size, 2, none⟩ = some (.int .i64 x.n) ∧ V.cell? ⟨wr.heap.size, 3, none⟩ = some (.int .i64 x.m))) (by kernel_rfl) ?_ (fun hHeld => ?_)
          · first | exact HCEL5.out _ HU6.out | exact HCEL5.out _ ((Upd.refl _ _).drew)
          refine zH 0 ?_
          refine zH 1 ?_
          (try simp only [Act.put, sA, sB, sC])
          refine zH 2 ?_
          refine wpAnyH_ready (rs := [3]) (by kernel_rfl) (by simp) (AllReadyH.cons (o := { dst := (some 82), op := (Go.Op.call { callee := (Go.Callee.value (Go.Operand.func 67)), args := #[(Go.Operand.tmp 79), (Go.Operand.tmp 80), (Go.Operand.tmp 81)], argTypes := #[101, 24, 71] }), type := 4, pos := "schema.go:141", after := #[{ on := 0, ground := Go.Ground.data }, { on := 1, ground := Go.Ground.data }, { on := 2, ground := Go.Ground.data }], guard := none }) rfl (fun K hK => ?_) AllReadyH.nil)
          go_simp
          (go_at_call 67; refine (HMAY.out _ ((Upd.refl _ _).drew)).mono ?_; rintro r w6 ⟨rfl, hu⟩; have HU6 := As.mk (Upd.trans ((Upd.refl (fun _ => False) W5).drew) hu (fun _ _ h => h)); clear hu)
          refine hK.out _ _ (by first | exact HCEL5.out _ HU6.out | exact HCEL5.out _ ((Upd.refl _ _).drew)) (fun hHeld => ?_)
          clear hK K
          (try simp only [Act.put, sA, sB, sC])
          refine zH 4 ?_
          refine zH 5 ?_
          (try simp only [Act.put, sA, sB, sC])
          refine sH 6 ?_
          refine sH 7 ?_
          refine sH 8 ?_
          refine sH 9 ?_
          (try simp only [Act.put, sA, sB, sC])
          refine sH 10 ?_
          refine sH 11 ?_
          refine sH 12 ?_
          refine sH 13 ?_
          (try simp only [Act.put, sA, sB, sC])
          refine sH 14 ?_
          refine sH 15 ?_
          refine sH 16 ?_
          refine sH 17 ?_
          (try simp only [Act.put, sA, sB, sC])
          refine sH 18 ?_
          refine sH 19 ?_
          refine sH 20 ?_
          refine sH 21 ?_
          (try simp only [Act.put, sA, sB, sC])
          refine sH 22 ?_
          refine sH 23 ?_
          refine sH 24 ?_
          refine sH 25 ?_
          (try simp only [Act.put, sA, sB, sC])
          refine sH 26 ?_
          refine zH 27 ?_
          refine wpAnyH_done (by kernel_rfl) ?_ _
          go_wp2
          exact bodyPost_ret (v := .tuple #[.int .i64 (k : Int), .int .i64 9]) (by simp [results, Tryz.results15, go_sem]) rfl ⟨by rw [← HV.out], HUP5.out.trans HU6.out (fun _ _ h => h)⟩
        · have hst : stepOk rs gs ((x1, e1), wd) x = decide (wd.length + 1 ≤ regBegins e1 gs (wd ++ [x.t])) := by
            unfold stepOk
            simp only [hm]
            exact Bool.true_and _
          rw [hm] at HMAY
          cases hbg : decide (wd.length + 1 ≤ regBegins e1 gs (wd ++ [x.t]))
          · rw [hbg] at hst
            have HV := As.mk (show ((k : Int), (9 : Int)) = schemaCheck rs gs l by rw [← hgo, ck_bad h2 hst])
            clear hgo hfl h2 hm hst
            generalize regBegins e1 gs (wd ++ [x.t]) = bg at *
            have u1 : decide ((bg : Int) < (wd.length : Int) + 1) = true := by
              simp only [decide_eq_false_iff_not] at hbg
              rw [decide_eq_true_eq]; omega
            have u2 : decide (bg < wd.length + 1) = true := by
              simp only [decide_eq_false_iff_not] at hbg
              rw [decide_eq_true_eq]; omega
            clear hbg
            go_wp2
            refine wp_region_held_drew (S := (fun V => (V.cell? ⟨b, init.length * 11 + 7, none⟩ = some (.int .i64 e1.k) ∧ V.cell? ⟨b, init.length * 11 + 8, none⟩ = some (.string e1.name) ∧ V.cell? ⟨b, init.length * 11 + 9, none⟩ = some (.slice A3 e1.l.length c3) ∧ V.cell? ⟨b, init.length * 11 + 10, none⟩ = some (.slice A4 (wd.length + 1) c4) ∧ V.cell? ⟨cb, 1, none⟩ = some (.slice AG gs.length cG)) ∧ V.cell? ⟨wr.heap.size, 0, none⟩ = some (.int .i64 x.k) ∧ V.cell? ⟨wr.heap.size, 1, none⟩ = some (.int .i64 x.t) ∧ V.cell? ⟨wr.heap.size, 2, none⟩ = some (.int .i64 x.n) ∧ V.cell? ⟨wr.heap.size, 3, none⟩ = some (.int .i64 x.m))) (by kernel_rfl) ?_ (fun hHeld => ?_)
            · first | exact HCEL5.out _ HU7.out | exact HCEL5.out _ HU6.out | exact HCEL5.out _ ((Upd.refl _ _).drew)
            refine zH 0 ?_
            refine zH 1 ?_
            (try simp only [Act.put, sA, sB, sC])
            refine zH 2 ?_
            refine wpAnyH_ready (rs := [3]) (by kernel_rfl) (by simp) (AllReadyH.cons (o := { dst := (some 82), op := (Go.Op.call { callee := (Go.Callee.value (Go.Operand.func 67)), args := #[(Go.Operand.tmp 79), (Go.Operand.tmp 80), (Go.Operand.tmp 81)], argTypes := #[101, 24, 71] }), type := 4, pos := "schema.go:141", after := #[{ on := 0, ground := Go.Ground.data }, { on := 1, ground := Go.Ground.data }, { on := 2, ground := Go.Ground.data }], guard := none }) rfl (fun K hK => ?_) AllReadyH.nil)
            go_simp
            (first | (go_at_call 65; refine (HBEG.out _ HU6.out).mono ?_; rintro r w7 ⟨rfl, hu⟩; have HU7 := As.mk (HU6.out.trans hu (fun _ _ h => h)); clear hu) | (go_at_call 67; refine (HMAY.out _ ((Upd.refl _ _).drew)).mono ?_; rintro r w6 ⟨rfl, hu⟩; have HU6 := As.mk (Upd.trans ((Upd.refl (fun _ => False) W5).drew) hu (fun _ _ h => h)); clear hu))
            refine hK.out _ _ (by first | exact HCEL5.out _ HU7.out | exact HCEL5.out _ HU6.out | exact HCEL5.out _ ((Upd.refl _ _).drew)) (fun hHeld => ?_)
            clear hK K
            (try simp only [Act.put, sA, sB, sC])
            refine zH 4 ?_
            refine zH 5 ?_
            (try simp only [Act.put, sA, sB, sC])
            refine zH 6 ?_
            refine zH 7 ?_
            refine zH 8 ?_
            refine zH 9 ?_
            (try simp only [Act.put, sA, sB, sC])
            refine zH 10 ?_
            refine zH 11 ?_
            refine zH 12 ?_
            refine zH 13 ?_
            (try simp only [Act.put, sA, sB, sC])
            refine zH 14 ?_
            refine zH 15 ?_
            refine zH 16 ?_
            refine zH 17 ?_
            (try simp only [Act.put, sA, sB, sC])
            refine zH 18 ?_
            refine zH 19 ?_
            refine zH 21 ?_
            refine zH 22 ?_
            (try simp only [Act.put, sA, sB, sC])
            refine zH 23 ?_
            refine zH 24 ?_
            refine zH 25 ?_
            refine wpAnyH_ready (rs := [20]) (by kernel_rfl) (by simp) (AllReadyH.cons (o := { dst := (some 99), op := (Go.Op.call { callee := (Go.Callee.value (Go.Operand.tmp 85)), args := #[(Go.Operand.tmp 90), (Go.Operand.tmp 94), (Go.Operand.tmp 98)], argTypes := #[92, 86, 83] }), type := 3, pos := "schema.go:141", after := #[{ on := 6, ground := Go.Ground.data }, { on := 11, ground := Go.Ground.data }, { on := 15, ground := Go.Ground.data }, { on := 19, ground := Go.Ground.data }, { on := 5, ground := Go.Ground.chain }, { on := 5, ground := Go.Ground.guard }], guard := (some (5, false)) }) rfl (fun K hK => ?_) AllReadyH.nil)
            go_simp
            (first | (go_at_call 65; refine (HBEG.out _ HU6.out).mono ?_; rintro r w7 ⟨rfl, hu⟩; have HU7 := As.mk (HU6.out.trans hu (fun _ _ h => h)); clear hu) | (go_at_call 67; refine (HMAY.out _ ((Upd.refl _ _).drew)).mono ?_; rintro r w6 ⟨rfl, hu⟩; have HU6 := As.mk (Upd.trans ((Upd.refl (fun _ => False) W5).drew) hu (fun _ _ h => h)); clear hu))
            refine hK.out _ _ (by first | exact HCEL5.out _ HU7.out | exact HCEL5.out _ HU6.out | exact HCEL5.out _ ((Upd.refl _ _).drew)) (fun hHeld => ?_)
            clear hK K
            (try simp only [Act.put, sA, sB, sC])
            refine zH 26 ?_
            refine zH 27 ?_
            refine wpAnyH_done (by kernel_rfl) ?_ _
            go_wp2
            exact bodyPost_ret (v := .tuple #[.int .i64 (k : Int), .int .i64 9]) (by simp [results, Tryz.results15, go_sem]) rfl ⟨by rw [← HV.out], HUP5.out.trans HU7.out (fun _ _ h => h)⟩
          · rw [hbg] at hst
            have HST := As.mk hst
            generalize regBegins e1 gs (wd ++ [x.t]) = bg at *
            have u1 : decide ((bg : Int) < (wd.length : Int) + 1) = false := by
              simp only [decide_eq_true_eq] at hbg
              rw [decide_eq_false_iff_not]; omega
            have u2 : decide (bg < wd.length + 1) = false := by
              simp only [decide_eq_true_eq] at hbg
              rw [decide_eq_false_iff_not]; omega
            clear hbg hst
            by_cases h1 : x.k = 1
            · have e1' : (x.k == 1) = true := by simp [h1]
              obtain ⟨j, hj, y, ye, hy, hru⟩ := mayT_open h1 hm
              have HJ := As.mk hj
              clear hj
              have HV := As.mk (show ckGo rs gs (k + 1) ((y, ye), []) (((x1, e1), wd ++ [x.t]) :: below) (l.drop (k + 1)) = schemaCheck rs gs l by rw [← hgo, ck_open h1 HST.out, hru])
              have HF := As.mk (fc_open hfl h1)
              have HYM := As.mk (List.mem_of_getElem? hy)
              obtain ⟨by', oy', Ay, cy, hA, _, hby, g0, g1', g2, g3, g4, g5, g6, g7, g8, g9, hly, hxy⟩ := rule_at HROW.out hy
              simp only [Option.some.injEq, Addr.mk.injEq] at hA
              obtain ⟨rfl, rfl, _⟩ := hA
              have hjl : j < rs.length := (List.getElem?_eq_some_iff.1 hy).1
              clear hgo hfl h2 hm h1 hy hru
              go_wp2
              refine wp_region_held_drew (S := (fun V => (V.cell? ⟨b, init.length * 11 + 7, none⟩ = some (.int .i64 e1.k) ∧ V.cell? ⟨b, init.length * 11 + 8, none⟩ = some (.string e1.name) ∧ V.cell? ⟨b, init.length * 11 + 9, none⟩ = some (.slice A3 e1.l.length c3) ∧ V.cell? ⟨b, init.length * 11 + 10, none⟩ = some (.slice A4 (wd.length + 1) c4) ∧ V.cell? ⟨cb, 1, none⟩ = some (.slice AG gs.length cG)) ∧ V.cell? ⟨wr.heap.size, 0, none⟩ = some (.int .i64 x.k) ∧ V.cell? ⟨wr.heap.size, 1, none⟩ = some (.int .i64 x.t) ∧ V.cell? ⟨wr.heap.size, 2, none⟩ = some (.int .i64 x.n) ∧ V.cell? ⟨wr.heap.size, 3, none⟩ = some (.int .i64 x.m))) (by kernel_rfl) ?_ (fun hHeld => ?_)
              · first | exact HCEL5.out _ HU7.out | exact HCEL5.out _ HU6.out | exact HCEL5.out _ ((Upd.refl _ _).drew)
              refine zH 0 ?_
              refine zH 1 ?_
              (try simp only [Act.put, sA, sB, sC])
              refine zH 2 ?_
              refine wpAnyH_ready (rs := [3]) (by kernel_rfl) (by simp) (AllReadyH.cons (o := { dst := (some 82), op := (Go.Op.call { callee := (Go.Callee.value (Go.Operand.func 67)), args := #[(Go.Operand.tmp 79), (Go.Operand.tmp 80), (Go.Operand.tmp 81)], argTypes := #[101, 24, 71] }), type := 4, pos := "schema.go:141", after := #[{ on := 0, ground := Go.Ground.data }, { on := 1, ground := Go.Ground.data }, { on := 2, ground := Go.Ground.data }], guard := none }) rfl (fun K hK => ?_) AllReadyH.nil)
              go_simp
              (first | (go_at_call 65; refine (HBEG.out _ HU6.out).mono ?_; rintro r w7 ⟨rfl, hu⟩; have HU7 := As.mk (HU6.out.trans hu (fun _ _ h => h)); clear hu) | (go_at_call 67; refine (HMAY.out _ ((Upd.refl _ _).drew)).mono ?_; rintro r w6 ⟨rfl, hu⟩; have HU6 := As.mk (Upd.trans ((Upd.refl (fun _ => False) W5).drew) hu (fun _ _ h => h)); clear hu))
              refine hK.out _ _ (by first | exact HCEL5.out _ HU7.out | exact HCEL5.out _ HU6.out | exact HCEL5.out _ ((Upd.refl _ _).drew)) (fun hHeld => ?_)
              clear hK K
              (try simp only [Act.put, sA, sB, sC])
              refine zH 4 ?_
              refine zH 5 ?_
              (try simp only [Act.put, sA, sB, sC])
              refine zH 6 ?_
              refine zH 7 ?_
              refine zH 8 ?_
              refine zH 9 ?_
              (try simp only [Act.put, sA, sB, sC])
              refine zH 10 ?_
              refine zH 11 ?_
              refine zH 12 ?_
              refine zH 13 ?_
              (try simp only [Act.put, sA, sB, sC])
              refine zH 14 ?_
              refine zH 15 ?_
              refine zH 16 ?_
              refine zH 17 ?_
              (try simp only [Act.put, sA, sB, sC])
              refine zH 18 ?_
              refine zH 19 ?_
              refine zH 21 ?_
              refine zH 22 ?_
              (try simp only [Act.put, sA, sB, sC])
              refine zH 23 ?_
              refine zH 24 ?_
              refine zH 25 ?_
              refine wpAnyH_ready (rs := [20]) (by kernel_rfl) (by simp) (AllReadyH.cons (o := { dst := (some 99), op := (Go.Op.call { callee := (Go.Callee.value (Go.Operand.tmp 85)), args := #[(Go.Operand.tmp 90), (Go.Operand.tmp 94), (Go.Operand.tmp 98)], argTypes := #[92, 86, 83] }), type := 3, pos := "schema.go:141", after := #[{ on := 6, ground := Go.Ground.data }, { on := 11, ground := Go.Ground.data }, { on := 15, ground := Go.Ground.data }, { on := 19, ground := Go.Ground.data }, { on := 5, ground := Go.Ground.chain }, { on := 5, ground := Go.Ground.guard }], guard := (some (5, false)) }) rfl (fun K hK => ?_) AllReadyH.nil)
              go_simp
              (first | (go_at_call 65; refine (HBEG.out _ HU6.out).mono ?_; rintro r w7 ⟨rfl, hu⟩; have HU7 := As.mk (HU6.out.trans hu (fun _ _ h => h)); clear hu) | (go_at_call 67; refine (HMAY.out _ ((Upd.refl _ _).drew)).mono ?_; rintro r w6 ⟨rfl, hu⟩; have HU6 := As.mk (Upd.trans ((Upd.refl (fun _ => False) W5).drew) hu (fun _ _ h => h)); clear hu))
              refine hK.out _ _ (by first | exact HCEL5.out _ HU7.out | exact HCEL5.out _ HU6.out | exact HCEL5.out _ ((Upd.refl _ _).drew)) (fun hHeld => ?_)
              clear hK K
              (try simp only [Act.put, sA, sB, sC])
              refine zH 26 ?_
              refine zH 27 ?_
              refine wpAnyH_done (by kernel_rfl) ?_ _
              obtain ⟨q0, q1, q2, q3⟩ := HTK.out w7 HU7.out
              rw [HJ.out] at q1
              have HU7d := As.mk (show Pure W5 w7.drew from HU7.out.drew)
              have HOP7 := As.mk (HOP5.out.pure HU7d.out)
              have HRL := As.mk (show (init ++ [((x1, e1), (.slice A4 (wd ++ [x.t]).length c4 : Value))]).length + 1 = init.length + 1 + 1 by simp)
              have HSK7 : As (∀ V, Upd (fun q => (Value.slice (some ⟨b, 0, none⟩) (init.length + 1) cap).ownBlock = some q) w7.drew V → V.cell? ⟨cb, 0, none⟩ = some (.slice (some ⟨b0, o0, none⟩) rs.length cL) ∧ V.cell? ⟨wr.heap.size, 1, none⟩ = some (.int .i64 (j : Int)) ∧ V.cell? ⟨b0, o0 + j * 10, none⟩ = some (.string y.name) ∧ V.cell? ⟨b0, o0 + j * 10 + 1, none⟩ = some (.string y.expr) ∧ V.cell? ⟨b0, o0 + j * 10 + 2, none⟩ = some (.bool y.leaf) ∧ V.cell? ⟨b0, o0 + j * 10 + 3, none⟩ = some (.int .i64 y.marks) ∧ V.cell? ⟨b0, o0 + j * 10 + 4, none⟩ = some (.int .i64 y.least) ∧ V.cell? ⟨b0, o0 + j * 10 + 5, none⟩ = some (.int .i64 y.most) ∧ V.cell? ⟨b0, o0 + j * 10 + 6, none⟩ = some (.bool y.lines) ∧ V.cell? ⟨b0, o0 + j * 10 + 7, none⟩ = some (.int .i64 ye.k) ∧ V.cell? ⟨b0, o0 + j * 10 + 8, none⟩ = some (.string ye.name) ∧ V.cell? ⟨b0, o0 + j * 10 + 9, none⟩ = some (.slice Ay ye.l.length cy)) := ⟨by
                intro V hu
                have hsz : w7.drew.heap.size = w7.heap.size := rfl
                have hz1 := HU7.out.size
                have hz2 := HUP5.out.size
                have hge := HOP7.out.ge
                have hn1 : ∀ q, q < w.heap.size → ¬ (Value.slice (some ⟨b, 0, none⟩) (init.length + 1) cap).ownBlock = some q := fun q hq e => by
                  injection e with e
                  have e2 : b = q := e
                  omega
                have ho : ∀ q o, q < w.heap.size → V.cell? ⟨q, o, none⟩ = w.cell? ⟨q, o, none⟩ := fun q o hq => (hu.cell (by omega) (hn1 q hq)).trans ((HUP5.out.trans HU7d.out (fun _ _ h => h)).cell hq (fun h => h))
                have hnt : ¬ (Value.slice (some ⟨b, 0, none⟩) (init.length + 1) cap).ownBlock = some wr.heap.size := fun e => by
                  injection e with e
                  have e2 : b = wr.heap.size := e
                  omega
                have htW : wr.heap.size < w7.drew.heap.size := by
                  have := HLT5.out
                  omega
                refine ⟨(ho _ _ hcb).trans p0, (hu.cell htW hnt).trans q1, (ho _ _ hby).trans g0, (ho _ _ hby).trans g1', (ho _ _ hby).trans g2, (ho _ _ hby).trans g3, (ho _ _ hby).trans g4, (ho _ _ hby).trans g5, (ho _ _ hby).trans g6, (ho _ _ hby).trans g7, (ho _ _ hby).trans g8, (ho _ _ hby).trans g9⟩⟩
              have HOWN7 : As ((levR w.heap.size).own 99 w7.drew (fun q => q < w.heap.size ∨ q = b) (.slice (some ⟨b, 0, none⟩) (init.length + 1) cap) (init ++ [((x1, e1), (.slice A4 (wd ++ [x.t]).length c4 : Value))])) := ⟨by
                have h9 := HOP7.out.own
                rw [show (init ++ [((x1, e1), (.slice A4 (wd ++ [x.t]).length c4 : Value))]).length = init.length + 1 by simp] at h9
                exact h9⟩
              have HREP : As ((levR w.heap.size).rep w7.drew (fun q => q < w.heap.size) ((y, ye), (.slice none 0 0 : Value)) [.string y.name, .string y.expr, .bool y.leaf, .int .i64 y.marks, .int .i64 y.least, .int .i64 y.most, .bool y.lines, .int .i64 ye.k, .string ye.name, .slice Ay ye.l.length cy, .slice none 0 0]) := ⟨⟨_, rfl, rfl, rep_rule hly (Rp.row_move (fun q hq hl => ⟨⟨hl, hl⟩, Nat.lt_of_lt_of_le hl (HUP5.out.trans HU7d.out (fun _ _ h => h)).size, (HUP5.out.trans HU7d.out (fun _ _ h => h)).block q hl (fun h => h)⟩) hxy)⟩⟩
              have HFP7 : As (∀ q, q < w.heap.size → q < w7.drew.heap.size → some q ≠ (Value.slice (some ⟨b, 0, none⟩) (init.length + 1) cap).ownBlock) := ⟨fun q hq _ e => by
                injection e with e
                have e2 : q = b := e
                have := HOP7.out.ge
                omega⟩
              have HLEN7 : As (((init ++ [((x1, e1), (.slice A4 (wd ++ [x.t]).length c4 : Value))]).length + 1) * 144 ≤ 140737488355328) := ⟨by
                simp only [List.length_append, List.length_singleton]; omega⟩
              obtain ⟨s1, s2, sg⟩ := HSK7.out _ (Upd.refl _ _)
              clear g0 g1' g2 g3 g4 g5 g6 g7 g8 g9 hxy hly
              go_wp2
              refine wp_region_T (P := Tryz.prog) (fun V => V.cell? ⟨cb, 0, none⟩ = some (.slice (some ⟨b0, o0, none⟩) rs.length cL) ∧ V.cell? ⟨wr.heap.size, 1, none⟩ = some (.int .i64 (j : Int)) ∧ V.cell? ⟨b0, o0 + j * 10, none⟩ = some (.string y.name) ∧ V.cell? ⟨b0, o0 + j * 10 + 1, none⟩ = some (.string y.expr) ∧ V.cell? ⟨b0, o0 + j * 10 + 2, none⟩ = some (.bool y.leaf) ∧ V.cell? ⟨b0, o0 + j * 10 + 3, none⟩ = some (.int .i64 y.marks) ∧ V.cell? ⟨b0, o0 + j * 10 + 4, none⟩ = some (.int .i64 y.least) ∧ V.cell? ⟨b0, o0 + j * 10 + 5, none⟩ = some (.int .i64 y.most) ∧ V.cell? ⟨b0, o0 + j * 10 + 6, none⟩ = some (.bool y.lines) ∧ V.cell? ⟨b0, o0 + j * 10 + 7, none⟩ = some (.int .i64 ye.k) ∧ V.cell? ⟨b0, o0 + j * 10 + 8, none⟩ = some (.string ye.name) ∧ V.cell? ⟨b0, o0 + j * 10 + 9, none⟩ = some (.slice Ay ye.l.length cy)) 12 (by kernel_rfl) ?_ (fun hHeld => ?_)
              · first | exact HSK7.out _ (Upd.refl _ _) | exact HSK7.out _ (Upd.alloc1 _ _ _) | exact HSK7.out _ HU8.out
              refine zT 0 ?_
              refine zT 1 ?_
              (try simp only [Act.put, sA, sB, sC])
              refine zT 2 ?_
              refine zT 3 ?_
              refine zT 4 ?_
              refine zT 5 ?_
              (try simp only [Act.put, sA, sB, sC])
              refine zT 6 ?_
              refine zT 7 ?_
              refine zT 8 ?_
              refine zT 9 ?_
              (try simp only [Act.put, sA, sB, sC])
              refine oT 10 (fun K hK => ?_)
              go_simp
              refine hK.out _ _ (fun _ => by first | exact HSK7.out _ (Upd.refl _ _) | exact HSK7.out _ (Upd.alloc1 _ _ _) | exact HSK7.out _ HU8.out) (fun hHeld => ?_)
              replace hHeld := hHeld (by decide)
              clear hK K
              (try simp only [Act.put, sA, sB, sC])
              refine oT 11 (fun K hK => ?_)
              refine Rp.step_append_keen (levR w.heap.size) (W := w7.drew) (Fp := fun q => q < w.heap.size) HOWN7.out ((y, ye), (.slice none 0 0 : Value)) [.string y.name, .string y.expr, .bool y.leaf, .int .i64 y.marks, .int .i64 y.least, .int .i64 y.most, .bool y.lines, .int .i64 ye.k, .string ye.name, .slice Ay ye.l.length cy, .slice none 0 0] HREP.out HFP7.out (by rfl) _ _ 100 (.agg #[.string ⟨#[]⟩, .string ⟨#[]⟩, .bool false, .int .i64 0, .int .i64 0, .int .i64 0, .bool false, .int .i64 0, .string ⟨#[]⟩, .slice none 0 0, .slice none 0 0]) 144 (by rfl) Tryz.underlying100 lev_info rfl (by show 0 < 11; decide) (by decide) (by rfl) (n := w7.heap.size) rfl (by rfl) HLEN7.out ?_; intro v8 w8 ho8 hu8 hat8; obtain ⟨b8, cap8, hv8, hop8⟩ := Opn.push HOP7.out ho8 hu8 hat8; rw [HRL.out] at hv8; subst hv8; have HOP8 := As.mk hop8; have HU8 := As.mk hu8; clear ho8 hu8 hat8 hop8
              refine hK.out _ _ (fun _ => by first | exact HSK7.out _ (Upd.refl _ _) | exact HSK7.out _ (Upd.alloc1 _ _ _) | exact HSK7.out _ HU8.out) (fun hHeld => ?_)
              replace hHeld := hHeld (by decide)
              clear hK K
              (try simp only [Act.put, sA, sB, sC])
              refine oT 12 (fun K hK => ?_)
              go_simp
              refine hK.out _ _ (fun h => absurd rfl h) (fun hHeld => ?_)
              clear hK K
              (try simp only [Act.put, sA, sB, sC])
              refine wpAnyT_done (by kernel_rfl) ?_ _
              try go_wp2
              go_roundg g1
              case measure => omega
              case rel => exact ⟨k + 1, init.length + 1, b8, cap8, by have := HK.out; omega, by go_num, rfl, ⟨_, _, _, by have := congrArg List.length HIM.out.1; simpa using this, CkRel.opened HWD.out HOP8.out HIM.out.1 HIM.out.2 HYM.out HV.out HF.out.2⟩⟩
            · have e1' : (x.k == 1) = false := by simp [h1]
              have HV := As.mk (show ckGo rs gs (k + 1) ((x1, e1), wd ++ [x.t]) below (l.drop (k + 1)) = schemaCheck rs gs l by rw [← hgo, ck_leaf h2 h1 HST.out])
              have HF := As.mk (fc_else hfl h1 h2)
              clear hgo hfl h2 hm h1
              go_wp2
              refine wp_region_held_drew (S := (fun V => (V.cell? ⟨b, init.length * 11 + 7, none⟩ = some (.int .i64 e1.k) ∧ V.cell? ⟨b, init.length * 11 + 8, none⟩ = some (.string e1.name) ∧ V.cell? ⟨b, init.length * 11 + 9, none⟩ = some (.slice A3 e1.l.length c3) ∧ V.cell? ⟨b, init.length * 11 + 10, none⟩ = some (.slice A4 (wd.length + 1) c4) ∧ V.cell? ⟨cb, 1, none⟩ = some (.slice AG gs.length cG)) ∧ V.cell? ⟨wr.heap.size, 0, none⟩ = some (.int .i64 x.k) ∧ V.cell? ⟨wr.heap.size, 1, none⟩ = some (.int .i64 x.t) ∧ V.cell? ⟨wr.heap.size, 2, none⟩ = some (.int .i64 x.n) ∧ V.cell? ⟨wr.heap.size, 3, none⟩ = some (.int .i64 x.m))) (by kernel_rfl) ?_ (fun hHeld => ?_)
              · first | exact HCEL5.out _ HU7.out | exact HCEL5.out _ HU6.out | exact HCEL5.out _ ((Upd.refl _ _).drew)
              refine zH 0 ?_
              (try simp only [Act.put, sA, sB, sC])
              refine zH 1 ?_
              refine zH 2 ?_
              refine wpAnyH_ready (rs := [3]) (by kernel_rfl) (by simp) (AllReadyH.cons (o := { dst := (some 82), op := (Go.Op.call { callee := (Go.Callee.value (Go.Operand.func 67)), args := #[(Go.Operand.tmp 79), (Go.Operand.tmp 80), (Go.Operand.tmp 81)], argTypes := #[101, 24, 71] }), type := 4, pos := "schema.go:141", after := #[{ on := 0, ground := Go.Ground.data }, { on := 1, ground := Go.Ground.data }, { on := 2, ground := Go.Ground.data }], guard := none }) rfl (fun K hK => ?_) AllReadyH.nil)
              go_simp
              (first | (go_at_call 65; refine (HBEG.out _ HU6.out).mono ?_; rintro r w7 ⟨rfl, hu⟩; have HU7 := As.mk (HU6.out.trans hu (fun _ _ h => h)); clear hu) | (go_at_call 67; refine (HMAY.out _ ((Upd.refl _ _).drew)).mono ?_; rintro r w6 ⟨rfl, hu⟩; have HU6 := As.mk (Upd.trans ((Upd.refl (fun _ => False) W5).drew) hu (fun _ _ h => h)); clear hu))
              refine hK.out _ _ (by first | exact HCEL5.out _ HU7.out | exact HCEL5.out _ HU6.out | exact HCEL5.out _ ((Upd.refl _ _).drew)) (fun hHeld => ?_)
              clear hK K
              (try simp only [Act.put, sA, sB, sC])
              refine zH 4 ?_
              (try simp only [Act.put, sA, sB, sC])
              refine zH 5 ?_
              refine zH 6 ?_
              refine zH 7 ?_
              refine zH 8 ?_
              (try simp only [Act.put, sA, sB, sC])
              refine zH 9 ?_
              refine zH 10 ?_
              refine zH 11 ?_
              refine zH 12 ?_
              (try simp only [Act.put, sA, sB, sC])
              refine zH 13 ?_
              refine zH 14 ?_
              refine zH 15 ?_
              refine zH 16 ?_
              (try simp only [Act.put, sA, sB, sC])
              refine zH 17 ?_
              refine zH 18 ?_
              refine zH 19 ?_
              refine zH 21 ?_
              (try simp only [Act.put, sA, sB, sC])
              refine zH 22 ?_
              refine zH 23 ?_
              refine zH 24 ?_
              refine zH 25 ?_
              (try simp only [Act.put, sA, sB, sC])
              refine wpAnyH_ready (rs := [20]) (by kernel_rfl) (by simp) (AllReadyH.cons (o := { dst := (some 99), op := (Go.Op.call { callee := (Go.Callee.value (Go.Operand.tmp 85)), args := #[(Go.Operand.tmp 90), (Go.Operand.tmp 94), (Go.Operand.tmp 98)], argTypes := #[92, 86, 83] }), type := 3, pos := "schema.go:141", after := #[{ on := 6, ground := Go.Ground.data }, { on := 11, ground := Go.Ground.data }, { on := 15, ground := Go.Ground.data }, { on := 19, ground := Go.Ground.data }, { on := 5, ground := Go.Ground.chain }, { on := 5, ground := Go.Ground.guard }], guard := (some (5, false)) }) rfl (fun K hK => ?_) AllReadyH.nil)
              go_simp
              (first | (go_at_call 65; refine (HBEG.out _ HU6.out).mono ?_; rintro r w7 ⟨rfl, hu⟩; have HU7 := As.mk (HU6.out.trans hu (fun _ _ h => h)); clear hu) | (go_at_call 67; refine (HMAY.out _ ((Upd.refl _ _).drew)).mono ?_; rintro r w6 ⟨rfl, hu⟩; have HU6 := As.mk (Upd.trans ((Upd.refl (fun _ => False) W5).drew) hu (fun _ _ h => h)); clear hu))
              refine hK.out _ _ (by first | exact HCEL5.out _ HU7.out | exact HCEL5.out _ HU6.out | exact HCEL5.out _ ((Upd.refl _ _).drew)) (fun hHeld => ?_)
              clear hK K
              (try simp only [Act.put, sA, sB, sC])
              refine zH 26 ?_
              refine zH 27 ?_
              refine wpAnyH_done (by kernel_rfl) ?_ _
              obtain ⟨q0, q1, q2, q3⟩ := HTK.out w7 HU7.out
              go_wp2
              go_roundg g1
              case measure => omega
              case rel => exact ⟨k + 1, init.length, b, cap, by have := HK.out; omega, by go_num, rfl, ⟨_, _, below, by have := congrArg List.length HIM.out.1; simpa using this, CkRel.leaf HWD.out (HOP5.out.pure HU7.out) HIM.out.1 HIM.out.2 HV.out HF.out⟩⟩
    · obtain rfl : k = l.length := by omega
      obtain ⟨rv, top, below, hd, hC⟩ := HC.out
      obtain ⟨init, v, wi, hrv, hil, hop, him, hwi⟩ := hC.split
      obtain ⟨⟨x1, e1⟩, wd⟩ := top
      replace hop : Opn w b cap (init ++ [((x1, e1), v)]) (wi ++ [wd]) wr := hop
      have hup := hop.up
      have HUP := As.mk hup
      have hfl := hC.flat
      have hgo := hC.go
      rw [List.drop_length] at hfl hgo
      have hb0 : below.length = 0 := by
        unfold fcGo at hfl
        by_cases h0 : below.length = 0
        · exact h0
        · rw [if_neg h0] at hfl
          simp at hfl
      obtain rfl : below = [] := List.eq_nil_of_length_eq_zero hb0
      obtain rfl : init = [] := List.eq_nil_of_length_eq_zero (by rw [hil]; rfl)
      obtain rfl : d = 0 := hd
      obtain ⟨A2, c2, m3, m6, m7, m8, m9, m10, hl2, hx2⟩ := hop.lev (j := 0) (x := x1) (e := e1) (v := v) rfl
      simp only [Nat.zero_mul, Nat.zero_add] at m3 m6 m7 m8 m9 m10
      have hbb := hop.blt
      obtain ⟨Aw, cw, rfl, hlw, hrw⟩ := Rp.own_slice hop.top
      have pc1 := (hup.cell (o := 1) hcb (fun h => h)).trans p1
      have hcb2 := Nat.lt_of_lt_of_le hcb hup.size
      have hw1 : wd.length ≤ l.length ∧ (x1, e1) ∈ rs := hC.words ((x1, e1), wd) List.mem_cons_self
      have HACC := As.mk (fun V (hu : Pure wr V) => acc_calls (c := c2) (d := cG) (cw := cw) (SchR.made HOK.out HG.out (HUP.out.trans hu (fun _ _ h => h)) hw1.2 (Rp.row_pure hx2 hu)) (Rp.row_pure hrw hu) (by have := hw1.1; omega))
      have HCEL : As (∀ V, Pure wr V → V.cell? ⟨b, 7, none⟩ = some (.int .i64 e1.k) ∧ V.cell? ⟨b, 8, none⟩ = some (.string e1.name) ∧ V.cell? ⟨b, 9, none⟩ = some (.slice A2 e1.l.length c2) ∧ V.cell? ⟨b, 10, none⟩ = some (.slice Aw wd.length cw) ∧ V.cell? ⟨cb, 1, none⟩ = some (.slice AG gs.length cG)) := ⟨fun V hu => ⟨(hu.cell hbb (fun h => h)).trans m7, (hu.cell hbb (fun h => h)).trans m8, (hu.cell hbb (fun h => h)).trans m9, (hu.cell hbb (fun h => h)).trans m10, (hu.cell hcb2 (fun h => h)).trans pc1⟩⟩
      rw [ck_end] at hgo
      have HGO := As.mk hgo
      clear hx2 hrw hC hop HC hup hfl hgo hb0 hw1
      try clear hd
      try clear hil
      try clear him hwi hrv
      try clear hk
      cases hacc : regAccepts e1 gs wd
      · have HV := As.mk (show ((l.length : Int), (9 : Int)) = schemaCheck rs gs l by rw [← HGO.out, if_neg (by simp only [hacc]; exact Bool.false_ne_true)])
        rw [hacc] at HACC
        clear hacc HGO
        go_wp2
        refine wp_region_held_drew (S := (fun V => V.cell? ⟨b, 7, none⟩ = some (.int .i64 e1.k) ∧ V.cell? ⟨b, 8, none⟩ = some (.string e1.name) ∧ V.cell? ⟨b, 9, none⟩ = some (.slice A2 e1.l.length c2) ∧ V.cell? ⟨b, 10, none⟩ = some (.slice Aw wd.length cw) ∧ V.cell? ⟨cb, 1, none⟩ = some (.slice AG gs.length cG))) (by kernel_rfl) ?_ (fun hHeld => ?_)
        · first | exact HCEL.out _ (Upd.refl _ _).drew | exact HCEL.out _ HU3.out
        refine zH 0 ?_
        (try simp only [Act.put, sA, sB, sC])
        refine zH 1 ?_
        refine zH 2 ?_
        refine zH 3 ?_
        refine zH 4 ?_
        (try simp only [Act.put, sA, sB, sC])
        refine zH 5 ?_
        refine zH 6 ?_
        refine zH 7 ?_
        refine zH 8 ?_
        (try simp only [Act.put, sA, sB, sC])
        refine zH 9 ?_
        refine zH 10 ?_
        refine zH 11 ?_
        refine zH 12 ?_
        (try simp only [Act.put, sA, sB, sC])
        refine wpAnyH_ready (rs := [13]) (by kernel_rfl) (by simp) (AllReadyH.cons (o := { dst := (some 137), op := (Go.Op.call { callee := (Go.Callee.value (Go.Operand.func 66)), args := #[(Go.Operand.tmp 128), (Go.Operand.tmp 132), (Go.Operand.tmp 136)], argTypes := #[92, 86, 83] }), type := 4, pos := "schema.go:148", after := #[{ on := 4, ground := Go.Ground.data }, { on := 8, ground := Go.Ground.data }, { on := 12, ground := Go.Ground.data }], guard := none }) rfl (fun K hK => ?_) AllReadyH.nil)
        go_simp
        (go_at_call 66; refine (HACC.out _ (Upd.refl _ _).drew).mono ?_; rintro r w3 ⟨rfl, hu⟩; have HU3 := As.mk (Upd.trans ((Upd.refl (fun _ => False) wr).drew) hu (fun _ _ h => h)); clear hu)
        refine hK.out _ _ (by first | exact HCEL.out _ (Upd.refl _ _).drew | exact HCEL.out _ HU3.out) (fun hHeld => ?_)
        clear hK K
        (try simp only [Act.put, sA, sB, sC])
        refine zH 14 ?_
        refine wpAnyH_done (by kernel_rfl) ?_ _
        go_wp2
        exact bodyPost_ret (v := .tuple #[.int .i64 (l.length : Int), .int .i64 9]) (by simp [results, Tryz.results15, go_sem]) rfl ⟨by rw [← HV.out], HUP.out.trans HU3.out (fun _ _ h => h)⟩
      · have HV := As.mk (show ((l.length : Int), (0 : Int)) = schemaCheck rs gs l by rw [← HGO.out, if_pos (by simp only [hacc])])
        rw [hacc] at HACC
        clear hacc HGO
        go_wp2
        refine wp_region_held_drew (S := (fun V => V.cell? ⟨b, 7, none⟩ = some (.int .i64 e1.k) ∧ V.cell? ⟨b, 8, none⟩ = some (.string e1.name) ∧ V.cell? ⟨b, 9, none⟩ = some (.slice A2 e1.l.length c2) ∧ V.cell? ⟨b, 10, none⟩ = some (.slice Aw wd.length cw) ∧ V.cell? ⟨cb, 1, none⟩ = some (.slice AG gs.length cG))) (by kernel_rfl) ?_ (fun hHeld => ?_)
        · first | exact HCEL.out _ (Upd.refl _ _).drew | exact HCEL.out _ HU3.out
        refine zH 0 ?_
        refine zH 1 ?_
        (try simp only [Act.put, sA, sB, sC])
        refine zH 2 ?_
        refine zH 3 ?_
        refine zH 4 ?_
        refine zH 5 ?_
        (try simp only [Act.put, sA, sB, sC])
        refine zH 6 ?_
        refine zH 7 ?_
        refine zH 8 ?_
        refine zH 9 ?_
        (try simp only [Act.put, sA, sB, sC])
        refine zH 10 ?_
        refine zH 11 ?_
        refine zH 12 ?_
        refine wpAnyH_ready (rs := [13]) (by kernel_rfl) (by simp) (AllReadyH.cons (o := { dst := (some 137), op := (Go.Op.call { callee := (Go.Callee.value (Go.Operand.func 66)), args := #[(Go.Operand.tmp 128), (Go.Operand.tmp 132), (Go.Operand.tmp 136)], argTypes := #[92, 86, 83] }), type := 4, pos := "schema.go:148", after := #[{ on := 4, ground := Go.Ground.data }, { on := 8, ground := Go.Ground.data }, { on := 12, ground := Go.Ground.data }], guard := none }) rfl (fun K hK => ?_) AllReadyH.nil)
        go_simp
        (go_at_call 66; refine (HACC.out _ (Upd.refl _ _).drew).mono ?_; rintro r w3 ⟨rfl, hu⟩; have HU3 := As.mk (Upd.trans ((Upd.refl (fun _ => False) wr).drew) hu (fun _ _ h => h)); clear hu)
        refine hK.out _ _ (by first | exact HCEL.out _ (Upd.refl _ _).drew | exact HCEL.out _ HU3.out) (fun hHeld => ?_)
        clear hK K
        (try simp only [Act.put, sA, sB, sC])
        refine zH 14 ?_
        refine wpAnyH_done (by kernel_rfl) ?_ _
        go_wp2
        exact bodyPost_ret (v := .tuple #[.int .i64 (l.length : Int), .int .i64 0]) (by simp [results, Tryz.results15, go_sem]) rfl ⟨by rw [← HV.out], HUP.out.trans HU3.out (fun _ _ h => h)⟩
theorem SchemaCheck_calls {w : World} {cb : Nat} {rs : List (Spec × Ex)} {gs : List Grp} {F : Nat → Prop} {A : Option Addr} {c : Nat} {l : List Tok} (h : SchR w cb rs gs) (hok : SchOk rs gs) (hr : tokR.row w F A l) (hb : l.length ≤ 1048576 * 4) :
    Calls Tryz.prog 15 #[.pointer (some ⟨cb, 0, none⟩), .slice A l.length c] w fun e w' => e = .returned (.tuple #[.int .i64 (schemaCheck rs gs l).1, .int .i64 (schemaCheck rs gs l).2]) ∧ Pure w w' := by
  by_cases hf : (flatCheck l).2 = 0
  · exact schemaCheck_main h hok hr hb hf
  · exact schemaCheck_flat h hok hr hb hf
end Go.Proofs.YtofjodppljnlaaaGreatDoor
namespace Go.Proofs.YtofjodppljnlaaaGreatDoor
open Go.RowKit
set_option linter.unusedVariables false
set_option linter.unusedSimpArgs false
theorem toks_reps (w : World) (F : Nat → Prop) : ∀ l : List Tok, Reps (tokR.rep w F) 4 l (l.flatMap Tok.cs)
  | [] => Reps.nil _ _
  | x :: r => by
    rw [List.flatMap_cons]
    exact Reps.append (xs := [x]) (Reps.single (R := tokR.rep w F) (show tokR.rep w F x x.cs from rfl) rfl) (toks_reps w F r)
theorem row_toks {w : World} {F : Nat → Prop} {b : Nat} {l : List Tok} {e : TypeId} {fr : Nat × Nat} (hb : w.heap[b]? = some (.cells (l.flatMap Tok.cs).toArray e fr)) (hF : F b) : tokR.row w F (some ⟨b, 0, none⟩) l :=
  Rp.row_of_block hb hF (toks_reps w F l)
theorem house_len : houseRules.length = 8 := by kernel_rfl
theorem house_ok : SchOk houseRules houseGroups := by
  refine ⟨fun h => ?_, ?_, fun p hp => ?_, ?_, fun x hx => ?_⟩
  · have := house_len
    rw [h] at this
    cases this
  · rw [house_len]; decide
  · have h : houseRules.all (fun p => decide (p.2.wt ≤ 1048576 * 4)) = true := by kernel_rfl
    simpa using List.all_eq_true.1 h p hp
  · have h : decide (houseGroups.length ≤ 1048576) = true := by kernel_rfl
    exact of_decide_eq_true h
  · have h : houseGroups.all (fun x => decide (x.types.length ≤ 1048576)) = true := by kernel_rfl
    simpa using List.all_eq_true.1 h x hx
abbrev houseCheck (l : List Tok) : Int × Int := schemaCheck houseRules houseGroups l
theorem house_check {w : World} {cb : Nat} {F : Nat → Prop} {A : Option Addr} {c : Nat} {l : List Tok} (h : SchR w cb houseRules houseGroups) (hr : tokR.row w F A l) (hb : l.length ≤ 1048576 * 4) :
    Calls Tryz.prog 15 #[.pointer (some ⟨cb, 0, none⟩), .slice A l.length c] w fun e w' => e = .returned (.tuple #[.int .i64 (houseCheck l).1, .int .i64 (houseCheck l).2]) ∧ Pure w w' := SchemaCheck_calls h house_ok hr hb
abbrev awakeDoc : List Tok := [⟨1, 1, 0, 0⟩, ⟨2, 0, 0, 0⟩]
theorem awake_nil : houseCheck [] = (0, 9) := by kernel_rfl
end Go.Proofs.YtofjodppljnlaaaGreatDoor
namespace Go.Proofs.YtofjodppljnlaaaGreatDoor
open Go.RowKit
set_option linter.unusedVariables false
set_option linter.unusedSimpArgs false
/-- A word leads to a place. -/
inductive Path (ts fs : List (List Int)) (p : Part) : List Int → Int → Prop
  | nil : Path ts fs p [] (-1)
  | snoc (w : List Int) (x y t : Int) : Path ts fs p w x → y ∈ nextsOf fs p x → t ∈ ts.getD y.toNat [] → Path ts fs p (w ++ [t]) y
theorem Path.nil_inv {ts fs : List (List Int)} {p : Part} {y : Int} (h : Path ts fs p [] y) : y = -1 := by
  generalize hw : ([] : List Int) = w at h
  cases h with
  | nil => rfl
  | snoc w x y t _ _ _ => simp at hw
theorem Path.snoc_inv {ts fs : List (List Int)} {p : Part} {w : List Int} {t y : Int} (h : Path ts fs p (w ++ [t]) y) : ∃ x, Path ts fs p w x ∧ y ∈ nextsOf fs p x ∧ t ∈ ts.getD y.toNat [] := by
  generalize hw : w ++ [t] = w' at h
  cases h with
  | nil => simp at hw
  | snoc w1 x y t1 h1 h2 h3 =>
    obtain ⟨rfl, rfl⟩ : w = w1 ∧ t = t1 := by
      have := List.append_inj' hw rfl
      exact ⟨this.1, by simpa using this.2⟩
    exact ⟨x, h1, h2, h3⟩
def foldS (ts fs : List (List Int)) (p : Part) (S : Int → Bool) (word : List Int) : Int → Bool := word.foldl (fun S t => stepS ts fs p S t) S
theorem stepS_iff {ts fs : List (List Int)} {p : Part} {S : Int → Bool} (hI : InS ts.length S) (t y : Int) : stepS ts fs p S t y = true ↔ ∃ x, S x = true ∧ y ∈ nextsOf fs p x ∧ t ∈ ts.getD y.toNat [] := by
  unfold stepS addS
  rw [List.any_eq_true]
  constructor
  · rintro ⟨i, hi, h⟩
    rw [Bool.and_eq_true, List.any_eq_true] at h
    obtain ⟨h1, a, ha, h2⟩ := h
    simp at h2
    obtain ⟨rfl, h3⟩ := h2
    exact ⟨_, h1, ha, by simpa [List.getD] using h3⟩
  · rintro ⟨x, h1, h2, h3⟩
    have := hI x h1
    refine ⟨(x + 1).toNat, List.mem_range.2 (by omega), ?_⟩
    have e : (((x + 1).toNat : Nat) : Int) - 1 = x := by omega
    rw [e, Bool.and_eq_true, List.any_eq_true]
    exact ⟨h1, y, h2, by simp [h3]; simpa [List.getD] using h3⟩
theorem foldS_in {ts fs : List (List Int)} {p : Part} (hM : MOk ts fs p) : ∀ (word : List Int) (S : Int → Bool), InS ts.length S → InS ts.length (foldS ts fs p S word) := by
  intro word
  induction word with
  | nil => intro S h; exact h
  | cons t r ih => intro S h; exact ih _ (stepS_in hM S t)
theorem foldS_snoc (ts fs : List (List Int)) (p : Part) (S : Int → Bool) (w : List Int) (t : Int) : foldS ts fs p S (w ++ [t]) = stepS ts fs p (foldS ts fs p S w) t := by
  unfold foldS
  rw [List.foldl_append]
  rfl
theorem rev_ind {P : List Int → Prop} (h0 : P []) (h1 : ∀ w t, P w → P (w ++ [t])) : ∀ w, P w := by
  intro w
  suffices ∀ q : List Int, P q.reverse by simpa using this w.reverse
  intro q
  induction q with
  | nil => exact h0
  | cons t q ih => rw [List.reverse_cons]; exact h1 _ _ ih
theorem foldS_iff {ts fs : List (List Int)} {p : Part} (hM : MOk ts fs p) : ∀ (w : List Int) (y : Int), foldS ts fs p startS w y = true ↔ Path ts fs p w y := by
  refine rev_ind (fun y => ?_) (fun w t ih y => ?_)
  · constructor
    · intro h
      have : y = -1 := by simpa [foldS, startS] using h
      subst this
      exact .nil
    · intro h
      rw [h.nil_inv]
      rfl
  · rw [foldS_snoc, stepS_iff (foldS_in hM w _ (startS_in _))]
    constructor
    · rintro ⟨x, h1, h2, h3⟩
      exact .snoc w x y t ((ih x).1 h1) h2 h3
    · intro h
      obtain ⟨x, h1, h2, h3⟩ := h.snoc_inv
      exact ⟨x, (ih x).2 h1, h2, h3⟩
theorem emptyS_iff {T : Nat} {S : Int → Bool} (hI : InS T S) : emptyS T S = true ↔ ∀ x, S x = false := by
  unfold emptyS
  rw [Bool.not_eq_true', List.any_eq_false]
  constructor
  · intro h x
    cases hx : S x
    · rfl
    · have h1 := hI x hx
      have := h (x + 1).toNat (List.mem_range.2 (by omega))
      have e : (((x + 1).toNat : Nat) : Int) - 1 = x := by omega
      rw [e] at this
      exact absurd hx this
  · intro h i _
    rw [h]
    simp
/-- A word may go on. -/
def Live (ts fs : List (List Int)) (p : Part) (w : List Int) : Prop := ∃ x, Path ts fs p w x
theorem Live.nil (ts fs : List (List Int)) (p : Part) : Live ts fs p [] := ⟨-1, .nil⟩
theorem Live.init {ts fs : List (List Int)} {p : Part} {w : List Int} {t : Int} (h : Live ts fs p (w ++ [t])) : Live ts fs p w := by
  obtain ⟨y, h⟩ := h
  obtain ⟨x, h, _⟩ := h.snoc_inv
  exact ⟨x, h⟩
theorem Live.app {ts fs : List (List Int)} {p : Part} {w : List Int} : ∀ v, Live ts fs p (w ++ v) → Live ts fs p w := by
  refine rev_ind (fun h => by simpa using h) (fun v t ih h => ?_)
  rw [← List.append_assoc] at h
  exact ih h.init
theorem Live.take {ts fs : List (List Int)} {p : Part} {w : List Int} {k n : Nat} (h : Live ts fs p (w.take n)) (hk : k ≤ n) : Live ts fs p (w.take k) := by
  have : w.take n = w.take k ++ (w.take n).drop k := by
    conv => lhs; rw [← List.take_append_drop k (w.take n)]
    rw [List.take_take, Nat.min_eq_left hk]
  rw [this] at h
  exact Live.app _ h
theorem runS_go {ts fs : List (List Int)} {p : Part} (hM : MOk ts fs p) : ∀ (r w : List Int), Live ts fs p w →
    runS ts fs p (foldS ts fs p startS w) r = (foldS ts fs p startS (w ++ r.take (runS ts fs p (foldS ts fs p startS w) r).2), (runS ts fs p (foldS ts fs p startS w) r).2) ∧
    (runS ts fs p (foldS ts fs p startS w) r).2 ≤ r.length ∧ Live ts fs p (w ++ r.take (runS ts fs p (foldS ts fs p startS w) r).2) ∧ ((runS ts fs p (foldS ts fs p startS w) r).2 < r.length → ¬ Live ts fs p (w ++ r.take ((runS ts fs p (foldS ts fs p startS w) r).2 + 1))) := by
  intro r
  induction r with
  | nil =>
    intro w hw
    refine ⟨?_, Nat.le_refl _, by simpa [runS] using hw, fun h => absurd h (Nat.lt_irrefl _)⟩
    simp [runS]
  | cons t r ih =>
    intro w hw
    have e : stepS ts fs p (foldS ts fs p startS w) t = foldS ts fs p startS (w ++ [t]) := (foldS_snoc ..).symm
    cases hq : emptyS ts.length (stepS ts fs p (foldS ts fs p startS w) t)
    · have hl : Live ts fs p (w ++ [t]) := by
        rw [← Bool.not_eq_true, emptyS_iff (stepS_in hM _ t)] at hq
        simp only [Classical.not_forall, Bool.not_eq_false] at hq
        obtain ⟨x, hx⟩ := hq
        rw [e] at hx
        exact ⟨x, (foldS_iff hM _ _).1 hx⟩
      have e2 : runS ts fs p (foldS ts fs p startS w) (t :: r) = ((runS ts fs p (foldS ts fs p startS (w ++ [t])) r).1, (runS ts fs p (foldS ts fs p startS (w ++ [t])) r).2 + 1) := by
        rw [runS, if_neg (by rw [hq]; simp), e]
      obtain ⟨h1, h2, h3, h4⟩ := ih (w ++ [t]) hl
      rw [e2]
      simp only [List.append_assoc, List.cons_append, List.nil_append] at h1 h3 h4
      refine ⟨?_, by simp only [List.length_cons]; omega, by simpa using h3, fun h => by simpa using h4 (by simp at h; exact h)⟩
      simp only [List.take_succ_cons, Prod.mk.injEq, and_true]
      rw [h1]
    · have e2 : runS ts fs p (foldS ts fs p startS w) (t :: r) = (foldS ts fs p startS w, 0) := by
        rw [runS, if_pos hq]
      rw [e2]
      refine ⟨by simp, Nat.zero_le _, by simpa using hw, fun _ h => ?_⟩
      obtain ⟨x, hx⟩ := h
      have hx' : Path ts fs p (w ++ [t]) x := by simpa using hx
      have := (foldS_iff hM _ _).2 hx'
      rw [← e, (emptyS_iff (stepS_in hM _ t)).1 hq x] at this
      cases this
/-- What a run is. -/
theorem run_spec {g : List Grp} {e : Ex} (h : regCheck e g = 0) (w : List Int) :
    regRun e g w = (foldS (mcT g e) (mcF g e) (mcP g e) startS (w.take (regRun e g w).2), (regRun e g w).2) ∧ (regRun e g w).2 ≤ w.length ∧ Live (mcT g e) (mcF g e) (mcP g e) (w.take (regRun e g w).2) ∧
      ((regRun e g w).2 < w.length → ¬ Live (mcT g e) (mcF g e) (mcP g e) (w.take ((regRun e g w).2 + 1))) := by
  have := runS_go (mc_ok h) w [] (Live.nil _ _ _)
  simpa [regRun, foldS] using this
abbrev LiveE (e : Ex) (g : List Grp) (w : List Int) : Prop := Live (mcT g e) (mcF g e) (mcP g e) w
/-- A word of the language. -/
def AccE (e : Ex) (g : List Grp) (w : List Int) : Prop := ∃ x, Path (mcT g e) (mcF g e) (mcP g e) w x ∧ endS (mcP g e) x = true
theorem run_eq {g : List Grp} {e : Ex} (h : regCheck e g = 0) (w : List Int) (n : Nat) (hn : n ≤ w.length) (h1 : LiveE e g (w.take n)) (h2 : n < w.length → ¬ LiveE e g (w.take (n + 1))) : (regRun e g w).2 = n := by
  obtain ⟨_, a, b, c⟩ := run_spec h w
  rcases Nat.lt_trichotomy (regRun e g w).2 n with hl | hl | hl
  · exact absurd (Live.take h1 (by omega : (regRun e g w).2 + 1 ≤ n)) (c (by omega))
  · exact hl
  · exact absurd (Live.take b (by omega : n + 1 ≤ (regRun e g w).2)) (h2 (by omega))
theorem run_full {g : List Grp} {e : Ex} (h : regCheck e g = 0) (w : List Int) : (regRun e g w).2 = w.length ↔ LiveE e g w := by
  constructor
  · intro hl
    have := (run_spec h w).2.2.1
    rw [hl, List.take_length] at this
    exact this
  · intro hl
    exact run_eq h w _ (Nat.le_refl _) (by rw [List.take_length]; exact hl) (fun h => absurd h (Nat.lt_irrefl _))
theorem accepts_iff {g : List Grp} {e : Ex} (w : List Int) : regAccepts e g w = true ↔ regCheck e g = 0 ∧ AccE e g w := by
  unfold regAccepts
  rw [Bool.and_eq_true, Bool.and_eq_true, decide_eq_true_eq, decide_eq_true_eq]
  constructor
  · rintro ⟨h, h1, h2⟩
    refine ⟨h, ?_⟩
    have hM := mc_ok h
    have hS := (run_spec h w).1
    rw [h1, List.take_length] at hS
    rw [hS] at h2
    unfold endsS at h2
    rw [Bool.or_eq_true, Bool.and_eq_true, List.any_eq_true] at h2
    rcases h2 with ⟨h3, h4⟩ | ⟨a, h3, h4⟩
    · exact ⟨-1, (foldS_iff hM _ _).1 h3, by simp [endS, h4]⟩
    · have := hM.last a h3
      exact ⟨a, (foldS_iff hM _ _).1 h4, by simp [endS, h3]; right; omega⟩
  · rintro ⟨h, x, h1, h2⟩
    have hM := mc_ok h
    have hl := (run_full h w).2 ⟨x, h1⟩
    have hS := (run_spec h w).1
    rw [hl, List.take_length] at hS
    refine ⟨h, hl, ?_⟩
    rw [hS]
    exact endsS_true ((foldS_iff hM _ _).2 h1) h2
theorem begins_eq {g : List Grp} {e : Ex} (h : regCheck e g = 0) (w : List Int) : regBegins e g w = (regRun e g w).2 := by unfold regBegins; rw [if_pos h]
end Go.Proofs.YtofjodppljnlaaaGreatDoor
namespace Go.Proofs.YtofjodppljnlaaaGreatDoor
open Go.RowKit
set_option linter.unusedVariables false
set_option linter.unusedSimpArgs false
end Go.Proofs.YtofjodppljnlaaaGreatDoor
namespace Go.Proofs.YtofjodppljnlaaaGreatDoor
open Go.RowKit
set_option linter.unusedVariables false
set_option linter.unusedSimpArgs false
def kdGo (i : Int) : Nat → Nat → List Tok → List Int
  | _, _, [] => []
  | k, d, x :: r =>
    if x.k = 2 then (if d = 0 ∧ 0 ≤ i then [] else kdGo i (k + 1) (d - 1) r)
    else (if d = 0 ∧ 0 ≤ x.k ∧ x.k ≤ 3 then [(k : Int)] else []) ++ kdGo i (k + 1) (if x.k = 1 then d + 1 else d) r
/-- The places of what stands in i. -/
def kidsL (l : List Tok) (i : Int) : List Int := kdGo i (i + 1).toNat 0 (l.drop (i + 1).toNat)
end Go.Proofs.YtofjodppljnlaaaGreatDoor
namespace Go.Proofs.YtofjodppljnlaaaGreatDoor
open Go.RowKit
set_option linter.unusedVariables false
set_option linter.unusedSimpArgs false
theorem Rp.own_empty0 {α : Type} (d : Rp α) {e : Nat} {w : World} {F : Nat → Prop} {b : Nat} (hb : w.heap[b]? = some (.cells #[] e (0, 0))) (hF : F b) : d.own e w F (.slice (some ⟨b, 0, none⟩) 0 0) [] :=
  ⟨[], ⟨by simp, .inr ⟨b, 0, #[], rfl, Nat.zero_le _, hb, Nat.le_refl _, Nat.zero_le _, by simp, by simp⟩⟩, fun k hk => by simp [Value.ownBlock] at hk; subst hk; exact hF, Reps.nil _ _⟩
theorem tok_own_to {e : Nat} {w : World} {F G : Nat → Prop} {v : Value} {xs : List Tok} (h : tokR.own e w F v xs) (hG : ∀ k, v.ownBlock = some k → G k) : tokR.own e w G v xs := by
  obtain ⟨inner, ho, hF, hr⟩ := h
  exact ⟨inner, ho, hG, hr⟩
theorem hat_ge {w : World} {v v1 : Value} {B : Nat} (h : v1.ownBlock = v.ownBlock ∨ ∃ b, v1.ownBlock = some b ∧ w.heap.size ≤ b) (h0 : ∀ q, v.ownBlock = some q → B ≤ q) (hB : B ≤ w.heap.size) : ∀ q, v1.ownBlock = some q → B ≤ q := by
  intro q hq
  rcases h with h | ⟨b, hb, hle⟩
  · rw [h] at hq
    exact h0 q hq
  · rw [hb] at hq
    injection hq with hq
    omega
end Go.Proofs.YtofjodppljnlaaaGreatDoor
namespace Go.Proofs.YtofjodppljnlaaaGreatDoor
open Go.RowKit
set_option linter.unusedVariables false
set_option linter.unusedSimpArgs false
theorem one_path {ty : List Int} {nn : Bool} : ∀ (w : List Int) (x : Int), Path [ty] [[0]] ⟨nn, [0], [0]⟩ w x ↔ (w = [] ∧ x = -1) ∨ (w ≠ [] ∧ x = 0 ∧ ∀ t ∈ w, t ∈ ty) := by
  refine rev_ind (fun x => ?_) (fun w t ih x => ?_)
  · constructor
    · exact fun h => .inl ⟨rfl, h.nil_inv⟩
    · rintro (⟨_, rfl⟩ | ⟨h, _⟩)
      · exact .nil
      · exact absurd rfl h
  · constructor
    · intro h
      obtain ⟨y, h1, h2, h3⟩ := h.snoc_inv
      have hx : x = 0 := by
        rcases (ih y).1 h1 with ⟨_, rfl⟩ | ⟨_, rfl, _⟩
        · simpa [nextsOf] using h2
        · simpa [nextsOf] using h2
      subst hx
      refine .inr ⟨by simp, rfl, fun u hu => ?_⟩
      rcases List.mem_append.1 hu with hu | hu
      · rcases (ih y).1 h1 with ⟨rfl, _⟩ | ⟨_, _, h4⟩
        · cases hu
        · exact h4 u hu
      · rw [List.mem_singleton.1 hu]
        simpa using h3
    · rintro (⟨h, _⟩ | ⟨_, rfl, h⟩)
      · simp at h
      · have ht : t ∈ ty := h t (by simp)
        by_cases hw : w = []
        · subst hw
          exact .snoc [] (-1) 0 t .nil (by simp [nextsOf]) (by simpa using ht)
        · exact .snoc w 0 0 t ((ih 0).2 (.inr ⟨hw, rfl, fun u hu => h u (by simp [hu])⟩)) (by simp [nextsOf]) (by simpa using ht)
theorem none_path {p : Part} (hp : p.first = []) : ∀ (w : List Int) (x : Int), Path [] [] p w x ↔ (w = [] ∧ x = -1) := by
  refine rev_ind (fun x => ?_) (fun w t ih x => ?_)
  · constructor
    · exact fun h => ⟨rfl, h.nil_inv⟩
    · rintro ⟨_, rfl⟩
      exact .nil
  · constructor
    · intro h
      obtain ⟨y, h1, h2, h3⟩ := h.snoc_inv
      simp at h3
    · rintro ⟨h, _⟩
      simp at h
def tyOf (g : List Grp) (e : Ex) : List Int := (mcT g e).headD []
def nnOf (g : List Grp) (e : Ex) : Bool := (mcP g e).none
structure Sig (g : List Grp) (e : Ex) : Prop where
  live : ∀ w : List Int, w.length ≤ regBegins e g w ↔ ∀ t ∈ w, t ∈ tyOf g e
  acc : ∀ w : List Int, regAccepts e g w = true ↔ (w = [] → nnOf g e = true) ∧ ∀ t ∈ w, t ∈ tyOf g e
theorem begins_iff {g : List Grp} {e : Ex} (hc : regCheck e g = 0) (w : List Int) : w.length ≤ regBegins e g w ↔ LiveE e g w := by
  rw [begins_eq hc, ← run_full hc]
  have := (run_spec hc w).2.1
  omega
theorem sig_one {g : List Grp} {e : Ex} (hc : regCheck e g = 0) {ty : List Int} {nn : Bool} (h1 : mcT g e = [ty]) (h2 : mcF g e = [[0]]) (h3 : mcP g e = ⟨nn, [0], [0]⟩) : Sig g e := by
  have hty : tyOf g e = ty := by unfold tyOf; rw [h1]; rfl
  have hnn : nnOf g e = nn := by unfold nnOf; rw [h3]
  have hp : ∀ w x, Path (mcT g e) (mcF g e) (mcP g e) w x ↔ (w = [] ∧ x = -1) ∨ (w ≠ [] ∧ x = 0 ∧ ∀ t ∈ w, t ∈ ty) := by
    rw [h1, h2, h3]
    exact one_path
  refine ⟨fun w => ?_, fun w => ?_⟩
  · rw [begins_iff hc, hty]
    constructor
    · rintro ⟨x, hx⟩ t ht
      rcases (hp w x).1 hx with ⟨rfl, _⟩ | ⟨_, _, h⟩
      · cases ht
      · exact h t ht
    · intro h
      by_cases hw : w = []
      · exact ⟨-1, (hp w _).2 (.inl ⟨hw, rfl⟩)⟩
      · exact ⟨0, (hp w _).2 (.inr ⟨hw, rfl, h⟩)⟩
  · rw [accepts_iff, hty, hnn]
    constructor
    · rintro ⟨_, x, hx, he⟩
      rcases (hp w x).1 hx with ⟨rfl, rfl⟩ | ⟨hw, rfl, h⟩
      · refine ⟨fun _ => ?_, fun t ht => by cases ht⟩
        rw [h3] at he
        simpa [endS] using he
      · exact ⟨fun e => absurd e hw, h⟩
    · rintro ⟨ha, h⟩
      refine ⟨hc, ?_⟩
      by_cases hw : w = []
      · exact ⟨-1, (hp w _).2 (.inl ⟨hw, rfl⟩), by rw [h3]; simp [endS, ha hw]⟩
      · exact ⟨0, (hp w _).2 (.inr ⟨hw, rfl, h⟩), by rw [h3]; simp [endS]⟩
theorem sig_none {g : List Grp} {e : Ex} (hc : regCheck e g = 0) (h1 : mcT g e = []) (h2 : mcF g e = []) (h3 : (mcP g e).first = []) (h4 : (mcP g e).none = true) : Sig g e := by
  have hty : tyOf g e = [] := by unfold tyOf; rw [h1]; rfl
  have hp : ∀ w x, Path (mcT g e) (mcF g e) (mcP g e) w x ↔ (w = [] ∧ x = -1) := by
    rw [h1, h2]
    exact none_path h3
  refine ⟨fun w => ?_, fun w => ?_⟩
  · rw [begins_iff hc, hty]
    constructor
    · rintro ⟨x, hx⟩ t ht
      rw [((hp w x).1 hx).1] at ht
      cases ht
    · intro h
      have hw : w = [] := List.eq_nil_iff_forall_not_mem.2 (fun t ht => by have := h t ht; cases this)
      exact ⟨-1, (hp w _).2 ⟨hw, rfl⟩⟩
  · rw [accepts_iff, hty]
    constructor
    · rintro ⟨_, x, hx, he⟩
      obtain ⟨rfl, _⟩ := (hp w x).1 hx
      exact ⟨fun _ => h4, fun t ht => by cases ht⟩
    · rintro ⟨ha, h⟩
      have hw : w = [] := List.eq_nil_iff_forall_not_mem.2 (fun t ht => by have := h t ht; cases this)
      exact ⟨hc, -1, (hp w _).2 ⟨hw, rfl⟩, by simp [endS, h4]⟩
theorem house_check_all : ((List.range 9).all fun i => decide (regCheck (ruleOf houseRules i).2 houseGroups = 0)) = true := by kernel_rfl
theorem house_rule (t : Int) : ∃ i : Nat, i < 9 ∧ ruleOf houseRules t = ruleOf houseRules (i : Int) := by
  by_cases h : t.toNat < 9
  · refine ⟨t.toNat, h, ?_⟩
    unfold ruleOf
    rfl
  · refine ⟨8, by omega, ?_⟩
    unfold ruleOf
    rw [List.getElem?_eq_none (by rw [house_len]; omega), List.getElem?_eq_none (by rw [house_len]; decide)]
theorem sig_nat (i : Nat) (hi : i < 9) : Sig houseGroups (ruleOf houseRules (i : Int)).2 := by
  have hc : regCheck (ruleOf houseRules (i : Int)).2 houseGroups = 0 := by simpa using List.all_eq_true.1 house_check_all i (List.mem_range.2 hi)
  have h : i = 0 ∨ i = 1 ∨ i = 2 ∨ i = 3 ∨ i = 4 ∨ i = 5 ∨ i = 6 ∨ i = 7 ∨ i = 8 := by omega
  rcases h with rfl | rfl | rfl | rfl | rfl | rfl | rfl | rfl | rfl
  · exact sig_one hc (ty := [1, 2, 3, 4, 5, 7]) (nn := false) (by kernel_rfl) (by kernel_rfl) (by kernel_rfl)
  · exact sig_one hc (ty := [0]) (nn := true) (by kernel_rfl) (by kernel_rfl) (by kernel_rfl)
  · exact sig_one hc (ty := [0]) (nn := true) (by kernel_rfl) (by kernel_rfl) (by kernel_rfl)
  · exact sig_one hc (ty := [1, 2, 3, 4, 5, 7]) (nn := false) (by kernel_rfl) (by kernel_rfl) (by kernel_rfl)
  · exact sig_one hc (ty := [0]) (nn := true) (by kernel_rfl) (by kernel_rfl) (by kernel_rfl)
  · exact sig_one hc (ty := [6]) (nn := false) (by kernel_rfl) (by kernel_rfl) (by kernel_rfl)
  · exact sig_one hc (ty := [1, 2, 3, 4, 5, 7]) (nn := false) (by kernel_rfl) (by kernel_rfl) (by kernel_rfl)
  · exact sig_none hc (by kernel_rfl) (by kernel_rfl) (by kernel_rfl) (by kernel_rfl)
  · exact sig_none hc (by kernel_rfl) (by kernel_rfl) (by kernel_rfl) (by kernel_rfl)
theorem house_sig (t : Int) : Sig houseGroups (ruleOf houseRules t).2 := by
  obtain ⟨i, hi, h⟩ := house_rule t
  rw [h]
  exact sig_nat i hi
end Go.Proofs.YtofjodppljnlaaaGreatDoor
namespace Go.Proofs.YtofjodppljnlaaaGreatDoor
open Go.RowKit
set_option linter.unusedVariables false
set_option linter.unusedSimpArgs false
section
variable (rs : List (Spec × Ex)) (gs : List Grp)
/-- The levels behind some tokens. -/
def ckRun : Lev → List Lev → List Tok → Option (Lev × List Lev)
  | top, below, [] => some (top, below)
  | top, below, x :: r =>
    if x.k = 2 then (match below with | [] => none | p :: q => if regAccepts top.1.2 gs top.2 = true then ckRun p q r else none)
    else if stepOk rs gs top x = true then
      (if x.k = 1 then ckRun (ruleOf rs x.t, []) ((top.1, top.2 ++ [x.t]) :: below) r else ckRun (top.1, top.2 ++ [x.t]) below r)
    else none
end
section
variable {rs : List (Spec × Ex)} {gs : List Grp}
theorem ckRun_cons (top : Lev) (below : List Lev) (x : Tok) (r : List Tok) : ckRun rs gs top below (x :: r) =
    if x.k = 2 then (match below with | [] => none | p :: q => if regAccepts top.1.2 gs top.2 = true then ckRun rs gs p q r else none)
    else if stepOk rs gs top x = true then
      (if x.k = 1 then ckRun rs gs (ruleOf rs x.t, []) ((top.1, top.2 ++ [x.t]) :: below) r else ckRun rs gs (top.1, top.2 ++ [x.t]) below r)
    else none := by
  rw [ckRun.eq_def]
theorem ckRun_app : ∀ (a b : List Tok) (top : Lev) (below : List Lev), ckRun rs gs top below (a ++ b) = (ckRun rs gs top below a).bind (fun s => ckRun rs gs s.1 s.2 b) := by
  intro a b
  induction a with
  | nil => intro top below; rfl
  | cons x r ih =>
    intro top below
    rw [List.cons_append, ckRun_cons, ckRun_cons]
    split
    · cases below with
      | nil => rfl
      | cons p q =>
        simp only
        split
        · exact ih _ _
        · rfl
    · split
      · split
        · exact ih _ _
        · exact ih _ _
      · rfl
end
abbrev hRun (top : Lev) (below : List Lev) (l : List Tok) : Option (Lev × List Lev) := ckRun houseRules houseGroups top below l
abbrev hAcc (t : Lev) : Bool := regAccepts t.1.2 houseGroups t.2
abbrev hTop : Lev := (ruleOf houseRules 0, [])
abbrev tyR (r : Spec × Ex) : List Int := tyOf houseGroups r.2
/-- A level of the house whose word may be so far. -/
def Wd (a : Lev) : Prop := (∃ t, a.1 = ruleOf houseRules t) ∧ ∀ t ∈ a.2, t ∈ tyR a.1
theorem Wd.sig {a : Lev} (h : Wd a) : Sig houseGroups a.1.2 := by
  obtain ⟨⟨t, ht⟩, _⟩ := h
  rw [ht]
  exact house_sig t
theorem wd_new (t : Int) : Wd (ruleOf houseRules t, []) := ⟨⟨t, rfl⟩, fun t ht => by cases ht⟩
theorem stepOk_iff {a : Lev} (h : Wd a) (x : Tok) : stepOk houseRules houseGroups a x = true ↔ mayT houseRules a.1.1 x = true ∧ x.t ∈ tyR a.1 := by
  unfold stepOk
  rw [Bool.and_eq_true, decide_eq_true_eq]
  have := h.sig.live (a.2 ++ [x.t])
  rw [List.length_append, List.length_singleton] at this
  rw [this]
  constructor
  · exact fun ⟨h1, h2⟩ => ⟨h1, h2 x.t (by simp)⟩
  · exact fun ⟨h1, h2⟩ => ⟨h1, fun t ht => by
      rcases List.mem_append.1 ht with ht | ht
      · exact h.2 t ht
      · rw [List.mem_singleton.1 ht]; exact h2⟩
theorem Wd.snoc {a : Lev} (h : Wd a) {t : Int} (ht : t ∈ tyR a.1) : Wd (a.1, a.2 ++ [t]) := ⟨h.1, fun u hu => by
  rcases List.mem_append.1 hu with hu | hu
  · exact h.2 u hu
  · rw [List.mem_singleton.1 hu]; exact ht⟩
theorem acc_snoc {a : Lev} (h : Wd a) (hn : a.2 ≠ []) : hAcc a = true := (h.sig.acc a.2).2 ⟨fun e => absurd e hn, h.2⟩
/-- Two stacks of the same rules, alike but for the words. -/
inductive Rl : Lev → List Lev → Lev → List Lev → Prop
  | bot {a b : Lev} : a.1 = b.1 → Wd a → Wd b → Rl a [] b []
  | up {a b p p' : Lev} {q q' : List Lev} : a.1 = b.1 → Wd a → Wd b → hAcc a = hAcc b → Rl p q p' q' → Rl a (p :: q) b (p' :: q')
theorem Rl.snoc {a b : Lev} {q q' : List Lev} (h : Rl a q b q') {t : Int} (ht : t ∈ tyR a.1) : Rl (a.1, a.2 ++ [t]) q (b.1, b.2 ++ [t]) q' := by
  cases h with
  | bot h1 h2 h3 => exact .bot h1 (h2.snoc ht) (h3.snoc (by rw [← h1]; exact ht))
  | up h1 h2 h3 _ h5 => exact .up h1 (h2.snoc ht) (h3.snoc (by rw [← h1]; exact ht)) (by rw [acc_snoc (h2.snoc ht) (by simp), acc_snoc (h3.snoc (by rw [← h1]; exact ht)) (by simp)]) h5
theorem Rl.wd {a b : Lev} {q q' : List Lev} (h : Rl a q b q') : a.1 = b.1 ∧ Wd a ∧ Wd b := by
  cases h with
  | bot h1 h2 h3 => exact ⟨h1, h2, h3⟩
  | up h1 h2 h3 _ _ => exact ⟨h1, h2, h3⟩
/-- Stacks that are alike run alike. -/
theorem run_rl : ∀ (l : List Tok) {a b t : Lev} {q q' z : List Lev}, Rl a q b q' → hRun a q l = some (t, z) → ∃ t' z', hRun b q' l = some (t', z') ∧ Rl t z t' z' := by
  intro l
  induction l with
  | nil =>
    intro a b t q q' z h hr
    simp only [hRun, ckRun, Option.some.injEq, Prod.mk.injEq] at hr
    obtain ⟨rfl, rfl⟩ := hr
    exact ⟨b, q', rfl, h⟩
  | cons x r ih =>
    intro a b t q q' z h hr
    unfold hRun at hr ⊢
    rw [ckRun_cons] at hr ⊢
    obtain ⟨h1, h2, h3⟩ := h.wd
    by_cases hk : x.k = 2
    · rw [if_pos hk] at hr ⊢
      cases h with
      | bot => cases hr
      | up _ _ _ h4 h5 =>
        simp only at hr ⊢
        split at hr
        · rename_i ha
          have hb : regAccepts b.1.2 houseGroups b.2 = true := h4.symm.trans ha
          rw [if_pos hb]
          exact ih h5 hr
        · cases hr
    · rw [if_neg hk] at hr ⊢
      split at hr
      · rename_i hs
        have hs2 := (stepOk_iff h2 x).1 hs
        rw [if_pos ((stepOk_iff h3 x).2 (by rw [← h1]; exact hs2))]
        split at hr
        · rename_i hk1
          rw [if_pos hk1]
          exact ih (.up rfl (wd_new _) (wd_new _) rfl (h.snoc hs2.2)) hr
        · rename_i hk1
          rw [if_neg hk1]
          exact ih (h.snoc hs2.2) hr
      · cases hr
end Go.Proofs.YtofjodppljnlaaaGreatDoor
namespace Go.Proofs.YtofjodppljnlaaaGreatDoor
open Go.RowKit
set_option linter.unusedVariables false
set_option linter.unusedSimpArgs false
structure StepD where
  k : Int
  fr : Int
  tt : Int
  gf : Int
  gt : Int
  ins : Int
  sl : List Tok
  mark : Int
def StepD.val (s : StepD) (A : Option Addr) (c : Nat) : Value := .agg #[.int .i64 s.k, .int .i64 s.fr, .int .i64 s.tt, .int .i64 s.gf, .int .i64 s.gt, .int .i64 s.ins, .slice A s.sl.length c, .int .i64 s.mark]
/-- One that puts tokens between two places. -/
def repl (a b : Int) (l : List Tok) : StepD := ⟨0, a, b, 0, 0, 0, l, 0⟩
def markOne (m : Int) : Prop := m = 1 ∨ m = 2 ∨ m = 4
instance (m : Int) : Decidable (markOne m) := by unfold markOne; infer_instance
/-- What a step of its kind must be. -/
def StepD.kindOk (s : StepD) : Prop :=
  (s.k = 1 ∧ s.fr ≤ s.gf ∧ s.gf < s.gt ∧ s.gt ≤ s.tt ∧ 0 ≤ s.ins ∧ s.ins ≤ s.sl.length ∧ s.mark = 0) ∨
  (s.k = 0 ∧ s.mark = 0 ∧ s.gf = 0 ∧ s.gt = 0 ∧ s.ins = 0) ∨
  ((s.k = 2 ∨ s.k = 3) ∧ s.fr < s.tt ∧ markOne s.mark ∧ s.sl = [] ∧ s.gf = 0 ∧ s.gt = 0 ∧ s.ins = 0)
instance (s : StepD) : Decidable s.kindOk := by unfold StepD.kindOk; infer_instance
def StepD.ok (s : StepD) : Prop := 0 ≤ s.fr ∧ s.fr ≤ s.tt ∧ s.tt ≤ 2048 ∧ s.kindOk ∧ ∀ x ∈ s.sl, rightB x = true
instance (s : StepD) : Decidable s.ok := by unfold StepD.ok; infer_instance
def stepCheck (s : StepD) : Int := if s.sl.length > 2048 then 2 else if s.ok then 0 else 1
/-- A mark put to a set, or taken from it. -/
def turnM (k m set : Int) : Int :=
  if k = 3 then (if (m = 1 ∧ (set = 1 ∨ set = 3)) ∨ (m = 2 ∧ (set = 2 ∨ set = 3)) ∨ (m = 4 ∧ set = 4) then set - m else set)
  else if set = 4 ∨ m = 4 then 4 else if (m = 1 ∧ (set = 1 ∨ set = 3)) ∨ (m = 2 ∧ (set = 2 ∨ set = 3)) then set else set + m
def turnT (k m : Int) (x : Tok) : Tok := if x.k = 0 then ⟨x.k, x.t, x.n, turnM k m x.m⟩ else x
def stepDo (l : List Tok) (s : StepD) : List Tok :=
  if s.k = 0 then l.take s.fr.toNat ++ s.sl ++ l.drop s.tt.toNat
  else if s.k = 1 then l.take s.fr.toNat ++ s.sl.take s.ins.toNat ++ (l.take s.gt.toNat).drop s.gf.toNat ++ s.sl.drop s.ins.toNat ++ l.drop s.tt.toNat
  else l.take s.fr.toNat ++ ((l.take s.tt.toNat).drop s.fr.toNat).map (turnT s.k s.mark) ++ l.drop s.tt.toNat
def stepErr (l : List Tok) (s : StepD) : Int :=
  if (flatCheck l).2 ≠ 0 then (flatCheck l).2
  else if stepCheck s ≠ 0 then stepCheck s
  else if s.tt > l.length then 1
  else if (flatCheck (stepDo l s)).2 = 3 then 4 else (flatCheck (stepDo l s)).2
/-- A step at a document that stays valid. -/
def remapErr (l : List Tok) (s : StepD) : Int := if stepErr l s ≠ 0 then stepErr l s else (houseCheck (stepDo l s)).2
theorem step_err_zero {l : List Tok} {s : StepD} : stepErr l s = 0 ↔ (flatCheck l).2 = 0 ∧ stepCheck s = 0 ∧ s.tt ≤ l.length ∧ (flatCheck (stepDo l s)).2 = 0 := by
  unfold stepErr
  constructor
  · intro h
    split at h
    · omega
    · split at h
      · omega
      · split at h
        · omega
        · split at h
          · omega
          · omega
  · rintro ⟨h1, h2, h3, h4⟩
    rw [if_neg (by omega), if_neg (by omega), if_neg (by omega), if_neg (by omega)]
    exact h4
theorem step_check_zero {s : StepD} : stepCheck s = 0 ↔ s.sl.length ≤ 2048 ∧ s.ok := by
  unfold stepCheck
  constructor
  · intro h
    split at h
    · omega
    · split at h
      · rename_i h1 h2
        exact ⟨by omega, h2⟩
      · omega
  · rintro ⟨h1, h2⟩
    rw [if_neg (by omega), if_pos h2]
theorem repl_ok {a b : Int} {l : List Tok} : (repl a b l).ok ↔ 0 ≤ a ∧ a ≤ b ∧ b ≤ 2048 ∧ ∀ x ∈ l, rightB x = true := by
  unfold StepD.ok StepD.kindOk repl
  constructor
  · rintro ⟨h1, h2, h3, _, h5⟩
    exact ⟨h1, h2, h3, h5⟩
  · rintro ⟨h1, h2, h3, h5⟩
    exact ⟨h1, h2, h3, .inr (.inl ⟨rfl, rfl, rfl, rfl, rfl⟩), h5⟩
end Go.Proofs.YtofjodppljnlaaaGreatDoor
namespace Go.Proofs.YtofjodppljnlaaaGreatDoor
open Go.RowKit
set_option linter.unusedVariables false
set_option linter.unusedSimpArgs false
end Go.Proofs.YtofjodppljnlaaaGreatDoor
namespace Go.Proofs.YtofjodppljnlaaaGreatDoor
open Go.RowKit
set_option linter.unusedVariables false
set_option linter.unusedSimpArgs false
end Go.Proofs.YtofjodppljnlaaaGreatDoor
namespace Go.Proofs.YtofjodppljnlaaaGreatDoor
open Go.RowKit
set_option linter.unusedVariables false
set_option linter.unusedSimpArgs false
end Go.Proofs.YtofjodppljnlaaaGreatDoor
namespace Go.Proofs.YtofjodppljnlaaaGreatDoor
open Go.RowKit
set_option linter.unusedVariables false
set_option linter.unusedSimpArgs false
/-- Is a mark in a set? -/
def bitP (set m : Int) : Prop := (m = 1 ∧ (set = 1 ∨ set = 3)) ∨ (m = 2 ∧ (set = 2 ∨ set = 3)) ∨ (m = 4 ∧ set = 4)
instance (set m : Int) : Decidable (bitP set m) := by unfold bitP; infer_instance
end Go.Proofs.YtofjodppljnlaaaGreatDoor
namespace Go.Proofs.YtofjodppljnlaaaGreatDoor
open Go.RowKit
set_option linter.unusedVariables false
set_option linter.unusedSimpArgs false
def placeV (m : Int) : Int := if m = 1 then 0 else if m = 2 then 1 else if m = 4 then 2 else 3
set_option maxRecDepth 100000 in
set_option maxHeartbeats 4000000 in
theorem place_calls (m : Int) (w : World) : Calls Tryz.prog 174 #[.int .i64 m] w fun r w' => r = .returned (.int .i64 (placeV m)) ∧ w' = w := by
  by_cases h1 : m = 1
  · subst h1
    go_enter Tryz.func174, Tryz.ntmps174
    go_wp2
    refine wp_loop_rounds 1 ?_
    rw [rounds_succ]
    go_wp2
    go_ret
    exact ⟨rfl, rfl⟩
  · by_cases h2 : m = 2
    · subst h2
      go_enter Tryz.func174, Tryz.ntmps174
      go_wp2
      refine wp_loop_rounds 2 ?_
      rw [rounds_succ]
      go_wp2
      rw [rounds_succ]
      go_wp2
      go_ret
      exact ⟨rfl, rfl⟩
    · by_cases h4 : m = 4
      · subst h4
        go_enter Tryz.func174, Tryz.ntmps174
        go_wp2
        refine wp_loop_rounds 3 ?_
        rw [rounds_succ]
        go_wp2
        rw [rounds_succ]
        go_wp2
        rw [rounds_succ]
        go_wp2
        go_ret
        exact ⟨rfl, rfl⟩
      · have hv : placeV m = 3 := by unfold placeV; rw [if_neg h1, if_neg h2, if_neg h4]
        rw [hv]
        have e1 : (m == 1) = false := by simpa using h1
        have e2 : (m == 2) = false := by simpa using h2
        have e4 : (m == 4) = false := by simpa using h4
        clear h1 h2 h4 hv
        go_enter Tryz.func174, Tryz.ntmps174
        go_wp2
        refine wp_loop_rounds 4 ?_
        rw [rounds_succ]
        go_wp2
        rw [rounds_succ]
        go_wp2
        rw [rounds_succ]
        go_wp2
        rw [rounds_succ]
        go_wp2
        go_ret
        exact ⟨rfl, rfl⟩
def mayV (set m : Int) : Int := if ¬ markOne m then 1 else if ¬ (0 ≤ set ∧ set ≤ 4) then 4 else 0
theorem place_three (m : Int) : (placeV m == 3) = !decide (markOne m) := by
  by_cases h : markOne m
  · rcases h with rfl | rfl | rfl <;> decide
  · have h1 : m ≠ 1 ∧ m ≠ 2 ∧ m ≠ 4 := by unfold markOne at h; omega
    simp [placeV, h1, h]
set_option maxRecDepth 100000 in
set_option maxHeartbeats 4000000 in
theorem mmay_calls (set m : Int) (w : World) : Calls Tryz.prog 140 #[.int .i64 set, .int .i64 m] w fun r w' => r = .returned (.int .i64 (mayV set m)) ∧ w' = w := by
  have hp := place_three m
  by_cases h1 : markOne m
  · have hd : decide (markOne m) = true := by simpa using h1
    rw [hd] at hp
    by_cases h2 : 0 ≤ set ∧ set ≤ 4
    · have hb : markB set = true := decide_eq_true (show MarkP set from h2)
      have hv : mayV set m = 0 := by unfold mayV; rw [if_neg (by simpa using h1), if_neg (by simpa using h2)]
      rw [hv]
      have HR := As.mk (markRight_calls set)
      rw [hb] at HR
      have HP := As.mk (place_calls m)
      generalize placeV m = pv at *
      clear h1 h2 hd hb hv
      go_enter Tryz.func140, Tryz.ntmps140
      go_wp2_with (first | (go_at_call 174; refine (HP.out _).mono ?_; rintro e w' ⟨rfl, rfl⟩) | (go_at_call 148; refine (HR.out _).mono ?_; rintro e w' ⟨rfl, rfl⟩))
      go_ret
      exact ⟨rfl, rfl⟩
    · have hb : markB set = false := decide_eq_false (show ¬ MarkP set from h2)
      have hv : mayV set m = 4 := by unfold mayV; rw [if_neg (by simpa using h1), if_pos h2]
      rw [hv]
      have HR := As.mk (markRight_calls set)
      rw [hb] at HR
      have HP := As.mk (place_calls m)
      generalize placeV m = pv at *
      clear h1 h2 hd hb hv
      go_enter Tryz.func140, Tryz.ntmps140
      go_wp2_with (first | (go_at_call 174; refine (HP.out _).mono ?_; rintro e w' ⟨rfl, rfl⟩) | (go_at_call 148; refine (HR.out _).mono ?_; rintro e w' ⟨rfl, rfl⟩))
      go_ret
      exact ⟨rfl, rfl⟩
  · have hd : decide (markOne m) = false := by simpa using h1
    rw [hd] at hp
    have hv : mayV set m = 1 := by unfold mayV; rw [if_pos h1]
    rw [hv]
    have HP := As.mk (place_calls m)
    generalize placeV m = pv at *
    clear h1 hd hv
    go_enter Tryz.func140, Tryz.ntmps140
    go_wp2_with (go_at_call 174; refine (HP.out _).mono ?_; rintro e w' ⟨rfl, rfl⟩)
    go_ret
    exact ⟨rfl, rfl⟩
def hasP (set m : Int) : Prop := markOne m ∧ (0 ≤ set ∧ set ≤ 4) ∧ bitP set m
instance (set m : Int) : Decidable (hasP set m) := by unfold hasP; infer_instance
theorem may_zero {set m : Int} : mayV set m = 0 ↔ markOne m ∧ 0 ≤ set ∧ set ≤ 4 := by
  unfold mayV
  constructor
  · intro h
    split at h
    · omega
    · rename_i h1
      split at h
      · omega
      · rename_i h2
        exact ⟨by simpa using h1, by omega⟩
  · rintro ⟨h1, h2⟩
    rw [if_neg (by simpa using h1), if_neg (by simpa using h2)]
theorem five {set : Int} (h : 0 ≤ set ∧ set ≤ 4) : set = 0 ∨ set = 1 ∨ set = 2 ∨ set = 3 ∨ set = 4 := by omega
set_option maxRecDepth 100000 in
set_option maxHeartbeats 4000000 in
theorem Has_calls (set m : Int) (w : World) : Calls Tryz.prog 90 #[.int .i64 set, .int .i64 m] w fun r w' => r = .returned (.bool (decide (hasP set m))) ∧ w' = w := by
  have HM := As.mk (mmay_calls set m)
  by_cases h : mayV set m = 0
  · rw [h] at HM
    obtain ⟨h1, h2⟩ := may_zero.1 h
    clear h
    rcases h1 with rfl | rfl | rfl <;> rcases five h2 with rfl | rfl | rfl | rfl | rfl
    all_goals
      clear h2
      go_enter Tryz.func90, Tryz.ntmps90
      go_wp2_with (go_at_call 140; refine (HM.out _).mono ?_; rintro e w' ⟨rfl, rfl⟩)
      go_ret
      exact ⟨by first | rfl | (congr 2; decide), rfl⟩
  · have hv : decide (hasP set m) = false := by
      rw [decide_eq_false_iff_not]
      exact fun h9 => h (may_zero.2 ⟨h9.1, h9.2.1⟩)
    rw [hv]
    have e : (mayV set m == 0) = false := by simpa using h
    generalize mayV set m = mv at *
    clear h hv
    go_enter Tryz.func90, Tryz.ntmps90
    go_wp2_with (go_at_call 140; refine (HM.out _).mono ?_; rintro e w' ⟨rfl, rfl⟩)
    go_ret
    exact ⟨rfl, rfl⟩
end Go.Proofs.YtofjodppljnlaaaGreatDoor
namespace Go.Proofs.YtofjodppljnlaaaGreatDoor
open Go.RowKit
set_option linter.unusedVariables false
set_option linter.unusedSimpArgs false
def listL (set : Int) (k : Nat) : List Int := (([1, 2, 4] : List Int).take k).filter (fun m => decide (hasP set m))
theorem listL_len (set : Int) (k : Nat) : (listL set k).length ≤ 3 := by
  unfold listL
  refine Nat.le_trans (List.length_filter_le _ _) ?_
  rw [List.length_take]
  simp
  omega
theorem list_one (set : Int) : ((listL set 3).length = 1) ↔ markOne set := by
  by_cases h : 0 ≤ set ∧ set ≤ 4
  · rcases five h with rfl | rfl | rfl | rfl | rfl <;> decide
  · have h1 : ∀ m, decide (hasP set m) = false := fun m => decide_eq_false (fun h2 => h h2.2.1)
    have h2 : listL set 3 = [] := by
      unfold listL
      rw [List.filter_eq_nil_iff]
      intro a _
      rw [h1]
      simp
    rw [h2]
    unfold markOne
    constructor
    · intro h3; cases h3
    · intro h3; omega
set_option maxRecDepth 100000 in
set_option maxHeartbeats 4000000 in
theorem List_calls (set : Int) (w : World) : Calls Tryz.prog 152 #[.int .i64 set] w fun r w' => (∃ A c, r = .returned (.slice A (listL set 3).length c)) ∧ Pure w w' := by
  have HM := As.mk (fun m w => Has_calls set m w)
  go_enter Tryz.func152, Tryz.ntmps152
  go_wp2
  go_loopg [3, 4] 3 (fun gg v kv wr => ∃ k : Nat, k + gg = 3 ∧ kv = .int .i64 k ∧ As (intRS.own 3 wr (fun q => w.heap.size ≤ q) v (listL set k) ∧ Pure w wr))
  case atStart => exact ⟨0, by omega, rfl, ⟨Rp.own_nil _ _ _ _, Upd.refl _ _⟩⟩
  case round =>
    obtain ⟨k, hk, rfl, HS⟩ := hrel
    have hcase : k = 3 ∨ ∃ m : Int, (k = 0 ∧ m = 1 ∨ k = 1 ∧ m = 2 ∨ k = 2 ∧ m = 4) := by
      rcases (by omega : k = 0 ∨ k = 1 ∨ k = 2 ∨ k = 3) with h | h | h | h
      · exact .inr ⟨1, .inl ⟨h, rfl⟩⟩
      · exact .inr ⟨2, .inr (.inl ⟨h, rfl⟩)⟩
      · exact .inr ⟨4, .inr (.inr ⟨h, rfl⟩)⟩
      · exact .inl h
    rcases hcase with rfl | ⟨m, hm⟩
    · obtain ⟨A, c, rfl, _, _⟩ := Rp.own_slice HS.out.1
      go_wp2
      go_ret
      exact ⟨⟨_, _, rfl⟩, HS.out.2⟩
    · obtain ⟨ho, hp⟩ := HS.out
      have HO := As.mk ho
      have HP := As.mk hp
      have hll := listL_len set k
      obtain ⟨g1, rfl⟩ : ∃ m, gk = m + 1 := ⟨gk - 1, by omega⟩
      have HMM := As.mk (HM.out m)
      have HLS := As.mk (show listL set (k + 1) = listL set k ++ (if decide (hasP set m) = true then [m] else []) by
        unfold listL
        rcases hm with ⟨rfl, rfl⟩ | ⟨rfl, rfl⟩ | ⟨rfl, rfl⟩
        all_goals
          rw [List.take_add_one, List.filter_append]
          congr 1
          simp [List.filter_cons])
      clear ho hp HS
      cases hb : decide (hasP set m)
      · rw [hb] at HMM HLS
        have HLS2 := As.mk (show listL set (k + 1) = listL set k by rw [HLS.out]; simp)
        clear hb HLS
        rcases hm with ⟨rfl, rfl⟩ | ⟨rfl, rfl⟩ | ⟨rfl, rfl⟩
        · go_wp2_with (go_at_call 90; refine (HMM.out _).mono ?_; rintro e w' ⟨rfl, rfl⟩)
          go_roundg g1
          case measure => omega
          case rel => exact ⟨1, by omega, by first | rfl | go_num, ⟨by rw [HLS2.out]; exact HO.out, HP.out⟩⟩
        · go_wp2_with (go_at_call 90; refine (HMM.out _).mono ?_; rintro e w' ⟨rfl, rfl⟩)
          go_roundg g1
          case measure => omega
          case rel => exact ⟨2, by omega, by first | rfl | go_num, ⟨by rw [HLS2.out]; exact HO.out, HP.out⟩⟩
        · go_wp2_with (go_at_call 90; refine (HMM.out _).mono ?_; rintro e w' ⟨rfl, rfl⟩)
          go_roundg g1
          case measure => omega
          case rel => exact ⟨3, by omega, by first | rfl | go_num, ⟨by rw [HLS2.out]; exact HO.out, HP.out⟩⟩
      · rw [hb] at HMM HLS
        have HLS2 := As.mk (show listL set (k + 1) = listL set k ++ [m] by rw [HLS.out]; simp)
        clear hb HLS
        rcases hm with ⟨rfl, rfl⟩ | ⟨rfl, rfl⟩ | ⟨rfl, rfl⟩
        · go_wp2_with (first | (go_at_call 90; refine (HMM.out _).mono ?_; rintro e w' ⟨rfl, rfl⟩) | (at_builtin; refine Rp.own_append intRS HO.out (1 : Int) [.int .i64 1] rfl (Fp := fun _ => False) (G := fun q => w.heap.size ≤ q) (fun _ h => h.elim) (fun _ h _ => h) (fun q hq => by have := HP.out.size; omega) rfl _ _ 83 _ 8 rfl Tryz.underlying83 int_infoS rfl (by decide) (by decide) rfl (by simp [Act.eval]) (by omega) ?_; intro v1 w1 ho1 hu1; have HO1 := As.mk ho1; have HU1 := As.mk (Upd.trans HP.out hu1 (fun q hq h => by have := Rp.own_block_lt HO.out q h; omega)); clear ho1 hu1))
          go_roundg g1
          case measure => omega
          case rel => exact ⟨1, by omega, by first | rfl | go_num, ⟨by rw [HLS2.out]; exact HO1.out, HU1.out⟩⟩
        · go_wp2_with (first | (go_at_call 90; refine (HMM.out _).mono ?_; rintro e w' ⟨rfl, rfl⟩) | (at_builtin; refine Rp.own_append intRS HO.out (2 : Int) [.int .i64 2] rfl (Fp := fun _ => False) (G := fun q => w.heap.size ≤ q) (fun _ h => h.elim) (fun _ h _ => h) (fun q hq => by have := HP.out.size; omega) rfl _ _ 83 _ 8 rfl Tryz.underlying83 int_infoS rfl (by decide) (by decide) rfl (by simp [Act.eval]) (by omega) ?_; intro v1 w1 ho1 hu1; have HO1 := As.mk ho1; have HU1 := As.mk (Upd.trans HP.out hu1 (fun q hq h => by have := Rp.own_block_lt HO.out q h; omega)); clear ho1 hu1))
          go_roundg g1
          case measure => omega
          case rel => exact ⟨2, by omega, by first | rfl | go_num, ⟨by rw [HLS2.out]; exact HO1.out, HU1.out⟩⟩
        · go_wp2_with (first | (go_at_call 90; refine (HMM.out _).mono ?_; rintro e w' ⟨rfl, rfl⟩) | (at_builtin; refine Rp.own_append intRS HO.out (4 : Int) [.int .i64 4] rfl (Fp := fun _ => False) (G := fun q => w.heap.size ≤ q) (fun _ h => h.elim) (fun _ h _ => h) (fun q hq => by have := HP.out.size; omega) rfl _ _ 83 _ 8 rfl Tryz.underlying83 int_infoS rfl (by decide) (by decide) rfl (by simp [Act.eval]) (by omega) ?_; intro v1 w1 ho1 hu1; have HO1 := As.mk ho1; have HU1 := As.mk (Upd.trans HP.out hu1 (fun q hq h => by have := Rp.own_block_lt HO.out q h; omega)); clear ho1 hu1))
          go_roundg g1
          case measure => omega
          case rel => exact ⟨3, by omega, by first | rfl | go_num, ⟨by rw [HLS2.out]; exact HO1.out, HU1.out⟩⟩
end Go.Proofs.YtofjodppljnlaaaGreatDoor
namespace Go.Proofs.YtofjodppljnlaaaGreatDoor
open Go Go.RowKit
set_option linter.unusedVariables false
set_option linter.unusedSimpArgs false
section
variable {P : Program}
theorem run_copy_rowN (w : World) (dT sT ty elem : TypeId) (g o dLen dCap : Nat) (a : Addr) (sLen sCap sz : Nat) (cur : Array Value) (t : TypeId) (cs : List Value)
    (hu : P.underlying dT = some (.slice elem)) (hs : (P.info? elem).map (·.size) = some sz)
    (hg : w.heap[g]? = some (.cells cur t (0, 0))) (hn : cs.length = Nat.min sLen dLen * sz)
    (hsrc : ∀ j v, cs[j]? = some v → w.cell? (a.add j) = some v) (hfit : o + cs.length ≤ cur.size) (h1 : ∀ v ∈ cs, v.oneCell' = true) :
    (Builtin.copy_ #[dT, sT] ty #[.slice (some ⟨g, o, none⟩) dLen dCap, .slice (some a) sLen sCap]).run P w =
      .ok (goInt (Nat.min sLen dLen)) (w.setRow g (cur.toList.take o ++ cs ++ cur.toList.drop (o + cs.length)).toArray) := by
  have hl := run_loadCells_list (P := P) w a cs hsrc
  have hst := run_storeCells_at P g o t cs 0 cur w hg (by simpa using hfit) h1
  cases hq : P.info? elem with
  | none => simp [hq] at hs
  | some i =>
    have hi : i.size = sz := by simpa [hq] using hs
    simp [Builtin.copy_, run_underlying hu, Builtin.lenOf, Builtin.firstCells, sizeOf, typeInfo, hq, hi, ← hn, hl, hst]
theorem run_copy_zero (w : World) (dT sT ty elem : TypeId) (d a : Option Addr) (dLen dCap sLen sCap sz : Nat) (hu : P.underlying dT = some (.slice elem)) (hs : (P.info? elem).map (·.size) = some sz) (hn : Nat.min sLen dLen = 0) :
    (Builtin.copy_ #[dT, sT] ty #[.slice d dLen dCap, .slice a sLen sCap]).run P w = .ok (goInt 0) w := by
  cases hq : P.info? elem with
  | none => simp [hq] at hs
  | some i =>
    have hi : i.size = sz := by simpa [hq] using hs
    cases a with
    | none => cases d <;> simp [Builtin.copy_, run_underlying hu, Builtin.lenOf, Builtin.firstCells, sizeOf, typeInfo, hq, hi, hn, storeCells]
    | some a =>
      have hl := run_loadCells_list (P := P) w a [] (fun j v h => by cases h)
      simp at hl
      cases d <;> simp [Builtin.copy_, run_underlying hu, Builtin.lenOf, Builtin.firstCells, sizeOf, typeInfo, hq, hi, hn, hl, storeCells]
end
end Go.Proofs.YtofjodppljnlaaaGreatDoor
namespace Go.Proofs.YtofjodppljnlaaaGreatDoor
open Go.RowKit
set_option linter.unusedVariables false
set_option linter.unusedSimpArgs false
theorem tok_size : (Tryz.prog.info? 71).map (·.size) = some 4 := by kernel_rfl
/-- Tokens, cell by cell. -/
def flatT (l : List Tok) : List Value := l.flatMap Tok.cs
theorem flatT_len (l : List Tok) : (flatT l).length = l.length * 4 := by
  unfold flatT
  induction l with
  | nil => rfl
  | cons x r ih => rw [List.flatMap_cons, List.length_append, ih]; simp [Tok.cs]; omega
theorem flatT_app (a b : List Tok) : flatT (a ++ b) = flatT a ++ flatT b := by unfold flatT; rw [List.flatMap_append]
theorem flatT_one : ∀ l : List Tok, ∀ v ∈ flatT l, v.oneCell' = true := by
  intro l v hv
  unfold flatT at hv
  obtain ⟨x, _, h⟩ := List.mem_flatMap.1 hv
  simp [Tok.cs] at h
  rcases h with rfl | rfl | rfl | rfl <;> rfl
theorem flatT_at : ∀ (l : List Tok) (j : Nat) (x : Tok), l[j]? = some x → ((flatT l).drop (j * 4)).take 4 = x.cs := by
  intro l
  induction l with
  | nil => intro j x h; cases h
  | cons y r ih =>
    intro j x h
    cases j with
    | zero =>
      simp only [List.getElem?_cons_zero, Option.some.injEq] at h
      subst h
      rfl
    | succ j =>
      rw [List.getElem?_cons_succ] at h
      rw [show (j + 1) * 4 = 4 + j * 4 by omega, ← List.drop_drop]
      exact ih j x h
theorem reps_flatT (w : World) (F : Nat → Prop) (l : List Tok) : Reps (tokR.rep w F) 4 l (flatT l) := ⟨flatT_len l, fun j x hx => flatT_at l j x hx⟩
/-- The cells of a row of tokens. -/
theorem row_flat {w : World} {F : Nat → Prop} {A : Option Addr} {l : List Tok} (h : tokR.row w F A l) (hne : l ≠ []) : ∃ ad, A = some ad ∧ ∀ j v, (flatT l)[j]? = some v → w.cell? (ad.add j) = some v := by
  rcases h with h | ⟨b, o, rfl, _, _, hc⟩
  · exact absurd h hne
  · refine ⟨⟨b, o, none⟩, rfl, fun j v hv => ?_⟩
    have hadd : (⟨b, o, none⟩ : Addr).add j = ⟨b, o + j, none⟩ := by unfold Addr.add; split <;> simp_all
    have hj : j < (flatT l).length := (List.getElem?_eq_some_iff.1 hv).1
    rw [flatT_len] at hj
    have hq : j / 4 < l.length := by omega
    obtain ⟨x, hx⟩ : ∃ x, l[j / 4]? = some x := ⟨_, List.getElem?_eq_getElem hq⟩
    obtain ⟨cs, hr, hcs⟩ := hc _ _ hx
    have hr' : cs = x.cs := hr
    subst hr'
    have h4 := flatT_at l _ x hx
    have h5 : (x.cs)[j % 4]? = some v := by
      rw [← h4, List.getElem?_take, if_pos (by omega), List.getElem?_drop, show j / 4 * 4 + j % 4 = j by omega]
      exact hv
    rw [hadd, ← hcs _ _ h5]
    congr 2
    show o + j = o + j / 4 * 4 + j % 4
    omega
/-- A row of lists of tokens. -/
abbrev toksR : Rp (List Tok) := Rp.slice tokR
theorem toks_at {w : World} {F : Nat → Prop} {A : Option Addr} {ls : List (List Tok)} (h : toksR.row w F A ls) {j : Nat} {x : List Tok} (hx : ls[j]? = some x) :
    ∃ b o B c, A = some ⟨b, o, none⟩ ∧ F b ∧ b < w.heap.size ∧ x.length ≤ c ∧ tokR.row w F B x ∧ w.cell? ⟨b, o + j, none⟩ = some (.slice B x.length c) := by
  obtain ⟨b, o, cs, hA, hF, hb, ⟨B, c, hcs, hlc, hrow⟩, hc⟩ := Rp.row_at h hx
  subst hcs
  have := hc 0 _ rfl
  rw [show toksR.sz = 1 from rfl, Nat.mul_one] at this
  exact ⟨b, o, B, c, hA, hF, hb, hlc, hrow, this⟩
def sumL (ls : List (List Tok)) : Nat := (ls.map (·.length)).sum
theorem sumL_take {ls : List (List Tok)} {k : Nat} {x : List Tok} (hx : ls[k]? = some x) : sumL (ls.take (k + 1)) = sumL (ls.take k) + x.length := by
  unfold sumL
  rw [List.take_add_one, hx]
  simp
theorem sumL_le (ls : List (List Tok)) (k : Nat) : sumL (ls.take k) ≤ sumL ls := by
  unfold sumL
  rw [List.map_take]
  conv => rhs; rw [← List.take_append_drop k (ls.map (·.length)), List.sum_append]
  omega
theorem flatten_take {ls : List (List Tok)} {k : Nat} {x : List Tok} (hx : ls[k]? = some x) : (ls.take (k + 1)).flatten = (ls.take k).flatten ++ x := by
  rw [List.take_add_one, hx]
  simp
theorem flatten_len (ls : List (List Tok)) : ls.flatten.length = sumL ls := by
  unfold sumL
  rw [List.length_flatten]
/-- Where the rounds stand: the row of the call's own, block g, holds what has come. -/
def TkRel (w wr : World) (g : Nat) (ls : List (List Tok)) (k : Nat) : Prop :=
  Pure w wr ∧ w.heap.size ≤ g ∧ g < wr.heap.size ∧ ∃ cur : List Value, wr.heap[g]? = some (.cells cur.toArray 71 (0, 0)) ∧ cur.length = sumL ls * 4 ∧ cur.take (sumL (ls.take k) * 4) = flatT (ls.take k).flatten
theorem TkRel.step {w wr w1 : World} {g : Nat} {ls : List (List Tok)} {k : Nat} {x : List Tok} {cur : List Value} (hx : ls[k]? = some x) (hp : Pure w wr) (hg : w.heap.size ≤ g) (hgl : g < wr.heap.size) (hl : cur.length = sumL ls * 4) (ht : cur.take (sumL (ls.take k) * 4) = flatT (ls.take k).flatten)
    (h1 : w1.heap[g]? = some (.cells (splice cur (sumL (ls.take k) * 4) (flatT x)).toArray 71 (0, 0))) (hu : Upd (fun q => q = g) wr w1) : TkRel w w1 g ls (k + 1) := by
  have hs := sumL_take hx
  have hle := sumL_le ls (k + 1)
  have hfl := flatT_len x
  refine ⟨Upd.trans hp hu (fun q hq h => by omega), hg, Nat.lt_of_lt_of_le hgl hu.size, _, h1, ?_, ?_⟩
  · rw [length_splice _ _ _ (by rw [hl, hfl]; omega), hl]
  · unfold splice
    rw [hs, flatten_take hx, flatT_app, ← ht, ← List.append_assoc]
    rw [List.take_append_of_le_length (by simp only [List.length_append, List.length_take, hfl, hl]; omega)]
    rw [List.take_of_length_le (by simp only [List.length_append, List.length_take, hfl, hl]; omega)]
set_option maxRecDepth 100000 in
set_option maxHeartbeats 4000000 in
theorem tokens_calls {w : World} {F : Nat → Prop} {A : Option Addr} {c : Nat} {ls : List (List Tok)} (hr : toksR.row w F A ls) (hlc : ls.length ≤ c) (hl : ls.length ≤ 1000) (hb : sumL ls ≤ 1048576 * 8) :
    Calls Tryz.prog 153 #[.slice A ls.length c] w fun r w' => (∃ B, r = .returned (.slice (some B) ls.flatten.length ls.flatten.length) ∧ tokR.row w' (fun k => w.heap.size ≤ k) (some B) ls.flatten) ∧ Pure w w' := by
  obtain ⟨i0, hi, hzz⟩ := Option.map_eq_some_iff.1 tok_info
  simp only [Prod.mk.injEq] at hzz
  obtain ⟨hz0, hz1, hz2⟩ := hzz
  have HR := As.mk hr
  clear hr
  go_enter Tryz.func153, Tryz.ntmps153
  go_wp2
  go_loopg [3, 12] ls.length (fun gg nv kv wr => ∃ k : Nat, k + gg = ls.length ∧ kv = .int .i64 k ∧ nv = .int .i64 (sumL (ls.take k) : Nat) ∧ As (Pure w wr))
  case atStart => exact ⟨0, by omega, rfl, by simp [sumL], ⟨Upd.refl _ _⟩⟩
  case round =>
    obtain ⟨k, hk, rfl, rfl, HP⟩ := hrel
    by_cases hlt : k < ls.length
    · obtain ⟨x, hx⟩ : ∃ x, ls[k]? = some x := ⟨_, List.getElem?_eq_getElem hlt⟩
      obtain ⟨b, o, B, cx, rfl, hF, hbl, hcx, hrow, hcell⟩ := toks_at (Rp.row_pure HR.out HP.out) hx
      have hs := sumL_take hx
      have hle := sumL_le ls (k + 1)
      obtain ⟨g1, rfl⟩ : ∃ m, gk = m + 1 := ⟨gk - 1, by omega⟩
      have hw1 : IntKind.i64.wrap ((sumL (ls.take k) : Nat) + (x.length : Int)) = (sumL (ls.take k) : Nat) + (x.length : Int) := IntWalk.i64_in _ (by omega)
      have HS := As.mk hs
      clear hx hrow hs
      go_wp2
      go_roundg g1
      case measure => omega
      case rel => exact ⟨k + 1, by omega, by go_num, by rw [HS.out]; go_num, HP⟩
    · obtain rfl : k = ls.length := by omega
      obtain ⟨wo, rfl⟩ : ∃ wo : World, wo = wr := ⟨_, rfl⟩
      have htl : ls.take ls.length = ls := List.take_length
      rw [htl]
      obtain ⟨N, hN⟩ : ∃ N, sumL ls = N := ⟨_, rfl⟩
      rw [hN]
      have hNb : N ≤ 1048576 * 8 := by omega
      have hmk := run_make (P := Tryz.prog) wo 22 71 i0 _ Tryz.underlying22 hi hz0 .i64 .i64 (N : Int) N (by omega) (Int.le_refl _) (by rw [hz2]; push_cast; omega) (by omega)
      simp only [Int.toNat_natCast] at hmk
      obtain ⟨C, hC⟩ : ∃ C, madeCells (Value.agg #[.int .i64 0, .int .i64 0, .int .i64 0, .int .i64 0]).cells (N * i0.size) = C := ⟨_, rfl⟩
      rw [hC] at hmk
      have hCs : C.size = N * 4 := by rw [← hC, size_madeCells, hz1]
      obtain ⟨cur0, rfl⟩ : ∃ cur0 : List Value, C = cur0.toArray := ⟨C.toList, by simp⟩
      have hcl : cur0.length = N * 4 := by simpa using hCs
      have H0 := As.mk (show TkRel w (wo.alloc (.cells cur0.toArray 71)) wo.heap.size ls 0 from ⟨HP.out.alloc _, HP.out.size, by simp, cur0, heap_alloc_new wo _, by rw [hcl, hN], by simp [sumL, flatT]⟩)
      have HN := As.mk hN
      have HCL := As.mk hcl
      clear htl hN hC hCs hcl hz0 hz1 hz2 hi
      go_wp2
      go_loopg [7, 25] ls.length (fun gg av kv wx => ∃ k : Nat, k + gg = ls.length ∧ kv = .int .i64 k ∧ av = .int .i64 (sumL (ls.take k) : Nat) ∧ As (TkRel w wx wo.heap.size ls k))
      case atStart => exact ⟨0, by omega, rfl, by simp [sumL], H0⟩
      case round =>
        obtain ⟨k, hk, rfl, rfl, HT⟩ := hrel
        obtain ⟨hp, hg1, hg2, cur, hblk, hcl, htk⟩ := HT.out
        by_cases hlt : k < ls.length
        · obtain ⟨x, hx⟩ : ∃ x, ls[k]? = some x := ⟨_, List.getElem?_eq_getElem hlt⟩
          obtain ⟨b, o, B, cx, rfl, hF, hbl, hcx, hrow, hcell⟩ := toks_at (Rp.row_pure HR.out hp) hx
          have hs := sumL_take hx
          have hle := sumL_le ls (k + 1)
          obtain ⟨g1, rfl⟩ : ∃ m, gk = m + 1 := ⟨gk - 1, by omega⟩
          obtain ⟨S0, hS0⟩ : ∃ S0, sumL (ls.take k) = S0 := ⟨_, rfl⟩
          have hSN : S0 + x.length ≤ N := by have := HN.out; omega
          have HSX := As.mk (show sumL (ls.take (k + 1)) = S0 + x.length by omega)
          have hfl := flatT_len x
          have HST := As.mk (fun (W1 : World) (h1 : W1.heap[wo.heap.size]? = some (.cells (splice cur (S0 * 4) (flatT x)).toArray 71 (0, 0))) (hu : Upd (fun q => q = wo.heap.size) wr W1) => TkRel.step hx hp hg1 hg2 hcl htk (by rw [hS0]; exact h1) hu)
          by_cases hroom : S0 < N
          · skip
            have hw1 : IntKind.i64.wrap ((S0 : Int) + (x.length : Int)) = (S0 : Int) + (x.length : Int) := IntWalk.i64_in _ (by omega)
            have hle0 : ¬ (N : Int) < (S0 : Int) := by omega
            rw [hS0]
            have HX0 := As.mk (And.intro hp (And.intro hg1 hg2))
            by_cases h0 : x.length = 0
            · have hx0 : x = [] := List.eq_nil_of_length_eq_zero h0
              subst hx0
              have hcopy := run_copy_zero (P := Tryz.prog) wr 22 22 3 71 (some ⟨wo.heap.size, S0 * 4, none⟩) B (N - S0) (N - S0) 0 cx 4 Tryz.underlying22 tok_size (by simp [Nat.min_def])
              have HG := As.mk (HST.out wr (by rw [hblk]; simp [splice, flatT]) (Upd.refl _ _))
              have hw2 : IntKind.i64.wrap ((S0 : Int) + 0) = (S0 : Int) := IntWalk.i64_in _ (by omega)
              simp only [List.length_nil, Nat.add_zero] at HSX
              clear hx hs hfl hp hblk hcl htk hS0 hrow hw1 hg1
              go_wp2
              go_roundg g1
              case measure => omega
              case rel => exact ⟨k + 1, by omega, by go_num, by first | (rw [HSX.out]; done) | (rw [HSX.out, Int.natCast_add]), HG⟩
            · obtain ⟨ad, rfl, hcells⟩ := row_flat hrow (by intro e; rw [e] at h0; exact h0 rfl)
              have hmin : Nat.min x.length (N - S0) = x.length := Nat.min_eq_left (by omega)
              have hcopy := run_copy_rowN (P := Tryz.prog) wr 22 22 3 71 wo.heap.size (S0 * 4) (N - S0) (N - S0) ad x.length cx 4 cur.toArray 71 (flatT x) Tryz.underlying22 tok_size hblk (by rw [hmin]; exact hfl) hcells (by rw [hfl, List.size_toArray, hcl]; have := HN.out; omega) (flatT_one x)
              rw [hmin] at hcopy
              obtain ⟨W1, hW1⟩ : ∃ W1, wr.setRow wo.heap.size (cur.toArray.toList.take (S0 * 4) ++ flatT x ++ cur.toArray.toList.drop (S0 * 4 + (flatT x).length)).toArray = W1 := ⟨_, rfl⟩
              have hb1 : W1.heap[wo.heap.size]? = some (.cells (splice cur (S0 * 4) (flatT x)).toArray 71 (0, 0)) := by
                rw [← hW1]
                have h9 := setRow_heap wr wo.heap.size cur.toArray (cur.toArray.toList.take (S0 * 4) ++ flatT x ++ cur.toArray.toList.drop (S0 * 4 + (flatT x).length)).toArray 71 (0, 0) hblk
                rw [h9]
                simp [splice]
              have hu1 : Upd (fun q => q = wo.heap.size) wr W1 := by
                rw [← hW1]
                exact ⟨rfl, rfl, rfl, by simp [World.setRow], fun q hq hn => setRow_other wr wo.heap.size q _ (fun e => hn e)⟩
              rw [hW1] at hcopy
              have HG := As.mk (HST.out W1 hb1 hu1)
              clear hx hs hfl hp hblk hcl htk hS0 hrow hcells hmin hW1 hb1 hu1 h0 hg1
              go_wp2
              go_roundg g1
              case measure => omega
              case rel => exact ⟨k + 1, by omega, by go_num, by first | (rw [HSX.out]; done) | (rw [HSX.out, Int.natCast_add]), HG⟩
          · have hS1 : S0 = N := by omega
            have hx0 : x.length = 0 := by omega
            have hxn : x = [] := List.eq_nil_of_length_eq_zero hx0
            subst hxn
            have hcopy := run_copy_zero (P := Tryz.prog) wr 22 22 3 71 (some ⟨wo.heap.size, 0, none⟩) B 0 0 0 cx 4 Tryz.underlying22 tok_size (by simp [Nat.min_def])
            have HG := As.mk (HST.out wr (by rw [hblk]; simp [splice, flatT]) (Upd.refl _ _))
            have hw2 : IntKind.i64.wrap ((N : Int) + 0) = (N : Int) := IntWalk.i64_in _ (by omega)
            simp only [List.length_nil, Nat.add_zero] at HSX
            rw [hS0]
            subst hS1
            clear hx hs hfl hp hblk hcl htk hS0 hrow hg1 hroom
            go_wp2
            go_roundg g1
            case measure => omega
            case rel => exact ⟨k + 1, by omega, by go_num, by first | (rw [HSX.out]) | (rw [HSX.out]; go_num), HG⟩
        · obtain rfl : k = ls.length := by omega
          have htl : ls.take ls.length = ls := List.take_length
          rw [htl] at htk
          have hN := HN.out
          have hfin : flatT ls.flatten = cur := by
            rw [← htk, List.take_of_length_le (by omega)]
          have hrow : tokR.row wr (fun q => w.heap.size ≤ q) (some ⟨wo.heap.size, 0, none⟩) ls.flatten := Rp.row_of_block hblk hg1 (by rw [List.toList_toArray, ← hfin]; exact reps_flatT _ _ _)
          have HRW := As.mk hrow
          have HP2 := As.mk hp
          have HLN := As.mk (show ls.flatten.length = N by rw [flatten_len, hN])
          rw [htl]
          clear htl htk hN hfin hrow hp hblk hcl hg1 hg2 HT
          go_wp2
          go_ret
          exact ⟨⟨_, by rw [HLN.out]; rfl, HRW.out⟩, HP2.out⟩
end Go.Proofs.YtofjodppljnlaaaGreatDoor
namespace Go.Proofs.YtofjodppljnlaaaGreatDoor
open Go.RowKit
set_option linter.unusedVariables false
set_option linter.unusedSimpArgs false
theorem row_take {w : World} {F : Nat → Prop} {A : Option Addr} {l : List Tok} (h : tokR.row w F A l) (n : Nat) : tokR.row w F A (l.take n) := by
  rcases h with rfl | ⟨b, o, hA, hF, hb, hc⟩
  · exact .inl (by simp)
  · refine .inr ⟨b, o, hA, hF, hb, fun j x hx => hc j x ?_⟩
    rw [List.getElem?_take] at hx
    split at hx
    · exact hx
    · cases hx
theorem row_drop {w : World} {F : Nat → Prop} {b o : Nat} {l : List Tok} (h : tokR.row w F (some ⟨b, o, none⟩) l) (n : Nat) : tokR.row w F (some ⟨b, o + n * 4, none⟩) (l.drop n) := by
  rcases h with rfl | ⟨b', o', hA, hF, hb, hc⟩
  · exact .inl (by simp)
  · simp only [Option.some.injEq, Addr.mk.injEq, and_true] at hA
    obtain ⟨rfl, rfl⟩ := hA
    refine .inr ⟨b, o + n * 4, rfl, hF, hb, fun j x hx => ?_⟩
    rw [List.getElem?_drop] at hx
    obtain ⟨cs, h1, h2⟩ := hc _ _ hx
    refine ⟨cs, h1, fun i u hu => ?_⟩
    have := h2 i u hu
    rw [show tokR.sz = 4 from rfl] at this ⊢
    rw [show o + n * 4 + j * 4 + i = o + (n + j) * 4 + i by omega]
    exact this
/-- A slice value of tokens, wherever it lies. -/
def TokS (w : World) (F : Nat → Prop) (v : Value) (l : List Tok) : Prop := ∃ A c, v = .slice A l.length c ∧ l.length ≤ c ∧ tokR.row w F A l
/-- The slices' box is a row of lists. -/
theorem toks_box {w : World} {F : Nat → Prop} {vs : List Value} {ls : List (List Tok)} {b : Nat} {e : TypeId} {fr : Nat × Nat} (hb : w.heap[b]? = some (.cells vs.toArray e fr)) (hF : F b) (hl : vs.length = ls.length) (h : ∀ (j : Nat) (v : Value) (x : List Tok), vs[j]? = some v → ls[j]? = some x → TokS w F v x) : toksR.row w F (some ⟨b, 0, none⟩) ls := by
  refine Rp.row_of_block hb hF ⟨by rw [List.toList_toArray, hl]; show ls.length = ls.length * 1; omega, fun j x hx => ?_⟩
  have hj : j < vs.length := by rw [hl]; exact (List.getElem?_eq_some_iff.1 hx).1
  obtain ⟨A, c, hv, hlc, hr⟩ := h j vs[j] x (List.getElem?_eq_getElem hj) hx
  refine ⟨A, c, ?_, hlc, hr⟩
  rw [List.toList_toArray, show toksR.sz = 1 from rfl, Nat.mul_one, ← hv]
  rw [List.drop_eq_getElem_cons hj]
  rfl
theorem TokS.pure {w w1 : World} {F : Nat → Prop} {v : Value} {l : List Tok} (h : TokS w F v l) (hu : Pure w w1) : TokS w1 F v l := by
  obtain ⟨A, c, h1, h2, h3⟩ := h
  exact ⟨A, c, h1, h2, Rp.row_pure h3 hu⟩
theorem TokS.fp {w : World} {F : Nat → Prop} {v : Value} {l : List Tok} (h : TokS w F v l) : TokS w (fun _ => True) v l := by
  obtain ⟨A, c, h1, h2, h3⟩ := h
  exact ⟨A, c, h1, h2, Rp.row_fp h3 (fun _ _ => trivial)⟩
theorem TokS.take {w : World} {F : Nat → Prop} {A : Option Addr} {c n m : Nat} {l : List Tok} (h : tokR.row w F A l) (hn : n ≤ l.length) (hc : l.length ≤ c) (hm : n = m) : TokS w F (.slice A m c) (l.take n) := by
  subst hm
  exact ⟨A, c, by rw [List.length_take, Nat.min_eq_left hn], by rw [List.length_take]; omega, row_take h n⟩
theorem TokS.drop {w : World} {F : Nat → Prop} {b o : Nat} {c n m c' : Nat} {l : List Tok} (h : tokR.row w F (some ⟨b, o, none⟩) l) (hn : n ≤ l.length) (hc : l.length ≤ c) (hm : l.length - n = m) (hc' : c - n = c') : TokS w F (.slice (some ⟨b, o + n * 4, none⟩) m c') (l.drop n) := by
  subst hm hc'
  exact ⟨_, c - n, by rw [List.length_drop], by rw [List.length_drop]; omega, row_drop h n⟩
theorem TokS.end {w : World} {F : Nat → Prop} {A : Option Addr} {n : Nat} {l : List Tok} (hn : l.length ≤ n) : TokS w F (.slice A 0 0) (l.drop n) := by
  rw [List.drop_eq_nil_of_le hn]
  exact ⟨A, 0, rfl, Nat.le_refl _, .inl rfl⟩
theorem TokS.whole {w : World} {F : Nat → Prop} {A : Option Addr} {c n : Nat} {l : List Tok} (h : tokR.row w F A l) (hc : l.length ≤ c) (hn : l.length = n) : TokS w F (.slice A n c) l := by
  subst hn
  exact ⟨A, c, rfl, hc, h⟩
theorem TokS.cut {w : World} {F : Nat → Prop} {b o : Nat} {c n m c' : Nat} {l : List Tok} (h : tokR.row w F (some ⟨b, o, none⟩) l) (hn : n ≤ l.length) (hc : l.length ≤ c) (hm : l.length - n = m) (hc' : c - n = c') : TokS w F (.slice (if c = n then some ⟨b, o, none⟩ else some ⟨b, o + n * 4, none⟩) m c') (l.drop n) := by
  split
  · rename_i e
    subst hm hc'
    rw [show l.length - n = 0 by omega, show c - n = 0 by omega]
    exact TokS.end (by omega)
  · exact TokS.drop h hn hc hm hc'
theorem tokens3 {w : World} {F0 F1 F2 : Nat → Prop} {x0 x1 x2 : List Tok} (hb : x0.length + x1.length + x2.length ≤ 1048576) (W : World) (hu : Pure w W) {v0 v1 v2 : Value} {blk : Nat} {e : TypeId} {fr : Nat × Nat} (hblk : W.heap[blk]? = some (.cells #[v0, v1, v2] e fr)) (h0 : TokS w F0 v0 x0) (h1 : TokS w F1 v1 x1) (h2 : TokS w F2 v2 x2) :
    Calls Tryz.prog 153 #[.slice (some ⟨blk, 0, none⟩) 3 3] W fun r w' => (∃ B, r = .returned (.slice (some B) (x0 ++ (x1 ++ x2)).length (x0 ++ (x1 ++ x2)).length) ∧ tokR.row w' (fun k => W.heap.size ≤ k) (some B) (x0 ++ (x1 ++ x2))) ∧ Pure W w' := by
  have hr : toksR.row W (fun _ => True) (some ⟨blk, 0, none⟩) [x0, x1, x2] := toks_box (vs := [v0, v1, v2]) hblk trivial rfl (fun j v x hv hx => by
    match j, hv, hx with
    | 0, hv, hx => simp at hv hx; subst hv hx; exact (h0.pure hu).fp
    | 1, hv, hx => simp at hv hx; subst hv hx; exact (h1.pure hu).fp
    | 2, hv, hx => simp at hv hx; subst hv hx; exact (h2.pure hu).fp
    | j + 3, hv, hx => simp at hv)
  have h := tokens_calls (c := 3) hr (Nat.le_refl _) (by simp) (by simp [sumL]; omega)
  have e : ([x0, x1, x2] : List (List Tok)).flatten = x0 ++ (x1 ++ x2) := by simp
  rw [e] at h
  exact h
end Go.Proofs.YtofjodppljnlaaaGreatDoor
namespace Go.Proofs.YtofjodppljnlaaaGreatDoor
open Go.RowKit
set_option linter.unusedVariables false
set_option linter.unusedSimpArgs false
/-- A fresh row of tokens is answered. -/
def Fresh (w : World) (l : List Tok) (r : Ending) (w' : World) : Prop := (∃ B, r = .returned (.slice (some B) l.length l.length) ∧ tokR.row w' (fun k => w.heap.size ≤ k) (some B) l) ∧ Pure w w'
theorem Fresh.of {w W : World} {l : List Tok} {r : Ending} {w' : World} (hu : Pure w W) {B : Addr} {n : Nat} (hr : r = .returned (.slice (some B) n n)) (hn : l.length = n) (hrow : tokR.row w' (fun k => W.heap.size ≤ k) (some B) l) (hp : Pure W w') : Fresh w l r w' := by
  subst hn
  exact ⟨⟨B, hr, Rp.row_fp hrow (fun k h => Nat.le_trans hu.size h)⟩, hu.trans hp (fun _ _ h => h)⟩
set_option maxRecDepth 100000 in
set_option maxHeartbeats 4000000 in
theorem do_repl_some {w : World} {F G : Nat → Prop} {b o : Nat} {A B : Option Addr} {c cb : Nat} {l sl : List Tok} {p q : Nat} (hr : tokR.row w F (some ⟨b, o, none⟩) l) (hlc : l.length ≤ c) (hs : tokR.row w G B sl) (hsc : sl.length ≤ cb) (hb : l.length + sl.length ≤ 100000) (hp : p ≤ q) (hq : q ≤ l.length) :
    Calls Tryz.prog 116 #[.slice (some ⟨b, o, none⟩) l.length c, (repl p q sl).val B cb] w (Fresh w (l.take p ++ (sl ++ l.drop q))) := by
  have hbox := Upd.alloc1 (fun _ => False) w (.cells #[.int .i64 0, .int .i64 (p : Nat), .int .i64 (q : Nat), .int .i64 0, .int .i64 0, .int .i64 0, .slice B sl.length cb, .int .i64 0] 46)
  have hblk := heap_alloc_new w (.cells #[.int .i64 0, .int .i64 (p : Nat), .int .i64 (q : Nat), .int .i64 0, .int .i64 0, .int .i64 0, .slice B sl.length cb, .int .i64 0] 46)
  have h1 := TokS.take (m := p) hr (by omega) hlc rfl
  have h2 := TokS.whole hs hsc rfl
  have h3 := TokS.cut (m := l.length - q) (c' := c - q) hr hq hlc rfl rfl
  have HT := As.mk (fun (W : World) (hu : Pure w W) (blk : Nat) (e : TypeId) (fr : Nat × Nat) hblk => tokens3 (x0 := l.take p) (x1 := sl) (x2 := l.drop q) (by rw [List.length_take, List.length_drop]; omega) W hu (blk := blk) (e := e) (fr := fr) hblk h1 h2 h3)
  have HB := As.mk hbox
  have HBK := As.mk (fun (cs : Array Value) (T : TypeId) => (by
    have h := heap_alloc_new (w.alloc (.cells #[.int .i64 0, .int .i64 (p : Nat), .int .i64 (q : Nat), .int .i64 0, .int .i64 0, .int .i64 0, .slice B sl.length cb, .int .i64 0] 46)) (.cells cs T)
    rw [World.size_alloc] at h
    exact h : (((w.alloc (.cells #[.int .i64 0, .int .i64 (p : Nat), .int .i64 (q : Nat), .int .i64 0, .int .i64 0, .int .i64 0, .slice B sl.length cb, .int .i64 0] 46)).alloc (.cells cs T)).drew).heap[w.heap.size + 1]? = some (.cells cs T (0, 0))))
  have q0 : ∀ v, Pure (w.alloc (.cells #[.int .i64 0, .int .i64 (p : Nat), .int .i64 (q : Nat), .int .i64 0, .int .i64 0, .int .i64 0, .slice B sl.length cb, .int .i64 0] 46)) v → v.cell? ⟨w.heap.size, 1, none⟩ = some (.int .i64 (p : Nat)) ∧ v.cell? ⟨w.heap.size, 2, none⟩ = some (.int .i64 (q : Nat)) ∧ v.cell? ⟨w.heap.size, 6, none⟩ = some (.slice B sl.length cb) := fun v hu => by
    have := (hu.block w.heap.size (by simp) (fun h => h)).trans hblk
    refine ⟨?_, ?_, ?_⟩ <;> (unfold World.cell?; simp only [this]; rfl)
  have HQ := As.mk q0
  have i1 : (0 : Int) ≤ ((p : Nat) : Int) := by omega
  have i2 : ((p : Nat) : Int) ≤ ((c : Nat) : Int) := by omega
  have i3 : (0 : Int) ≤ ((q : Nat) : Int) := by omega
  have i4 : ((q : Nat) : Int) ≤ ((l.length : Nat) : Int) := by omega
  have i5 : ((q : Nat) : Int) ≤ ((c : Nat) : Int) := by omega
  have i6 : ((l.length : Nat) : Int) ≤ ((c : Nat) : Int) := by omega
  clear hr hs h1 h2 h3 hbox hblk q0
  unfold StepD.val repl
  go_enter Tryz.func116, Tryz.ntmps116
  go_wp2
  refine wp_region_T (P := Tryz.prog) (fun v => v.cell? ⟨w.heap.size, 1, none⟩ = some (.int .i64 (p : Nat)) ∧ v.cell? ⟨w.heap.size, 2, none⟩ = some (.int .i64 (q : Nat)) ∧ v.cell? ⟨w.heap.size, 6, none⟩ = some (.slice B sl.length cb)) 12 (by kernel_rfl) ?_ (fun hHeld => ?_)
  · first | exact HQ.out _ ((Upd.refl _ _).drew) | exact HQ.out _ (((Upd.refl _ _).alloc _).drew) | exact HQ.out _ ((((Upd.refl _ _).alloc _).drew).trans hu3 (fun _ _ h => h))
  refine zT 0 ?_
  refine zT 1 ?_
  refine zT 2 ?_
  refine zT 3 ?_
  (try simp only [Act.put, sA, sB, sC])
  refine zT 4 ?_
  refine zT 5 ?_
  refine zT 6 ?_
  refine zT 7 ?_
  (try simp only [Act.put, sA, sB, sC])
  refine zT 8 ?_
  refine zT 9 ?_
  refine oT 10 (fun K hK => ?_)
  go_simp
  refine hK.out _ _ (fun _ => by first | exact HQ.out _ ((Upd.refl _ _).drew) | exact HQ.out _ (((Upd.refl _ _).alloc _).drew) | exact HQ.out _ ((((Upd.refl _ _).alloc _).drew).trans hu3 (fun _ _ h => h))) (fun hHeld => ?_)
  replace hHeld := hHeld (by decide)
  clear hK K
  (try simp only [Act.put, sA, sB, sC])
  refine oT 11 (fun K hK => ?_)
  go_simp
  (go_at_call 153; with_reducible refine (HT.out _ ((HB.out.alloc _).drew) _ _ _ (HBK.out _ _)).mono ?_; rintro e w3 ⟨⟨B3, rfl, hrow3⟩, hu3⟩)
  refine hK.out _ _ (fun _ => by first | exact HQ.out _ ((Upd.refl _ _).drew) | exact HQ.out _ (((Upd.refl _ _).alloc _).drew) | exact HQ.out _ ((((Upd.refl _ _).alloc _).drew).trans hu3 (fun _ _ h => h))) (fun hHeld => ?_)
  replace hHeld := hHeld (by decide)
  clear hK K
  (try simp only [Act.put, sA, sB, sC])
  refine oT 12 (fun K hK => ?_)
  go_simp
  refine hK.out _ _ (fun h => absurd rfl h) (fun hHeld => ?_)
  clear hK K
  (try simp only [Act.put, sA, sB, sC])
  refine wpAnyT_done (by kernel_rfl) ?_ _
  go_wp2
  all_goals go_ret
  all_goals exact Fresh.of ((HB.out.alloc _).drew) rfl (by first | (simp; done) | (simp; omega)) hrow3 hu3
end Go.Proofs.YtofjodppljnlaaaGreatDoor
namespace Go.Proofs.YtofjodppljnlaaaGreatDoor
open Go.RowKit
set_option linter.unusedVariables false
set_option linter.unusedSimpArgs false
/-- A row of tokens that the call made is answered. -/
def Told9 (w : World) (l : List Tok) (r : Ending) (w' : World) : Prop := (∃ A c, r = .returned (.slice A l.length c) ∧ l.length ≤ c ∧ tokR.row w' (fun k => w.heap.size ≤ k) A l) ∧ Pure w w'
theorem Told9.of {w W : World} {l : List Tok} {r : Ending} {w' : World} (hu : Pure w W) {A : Option Addr} {n c : Nat} (hr : r = .returned (.slice A n c)) (hn : l.length = n) (hc : l.length ≤ c) (hrow : tokR.row w' (fun k => W.heap.size ≤ k) A l) (hp : Pure W w') : Told9 w l r w' := by
  subst hn
  exact ⟨⟨A, c, hr, hc, Rp.row_fp hrow (fun k h => Nat.le_trans hu.size h)⟩, hu.trans hp (fun _ _ h => h)⟩
set_option maxRecDepth 100000 in
set_option maxHeartbeats 4000000 in
theorem join9_calls {w : World} {F : Nat → Prop} {A : Option Addr} {c : Nat} {ls : List (List Tok)} (hr : toksR.row w F A ls) (hlc : ls.length ≤ c) (hl : ls.length ≤ 1000) (hb : sumL ls ≤ 1048576 * 8) :
    Calls Tryz.prog 204 #[.slice A ls.length c] w (Told9 w ls.flatten) := by
  have HR := As.mk hr
  have HF := As.mk (fun k => show (ls.take k).flatten.length ≤ 1048576 * 8 from by rw [flatten_len]; exact Nat.le_trans (sumL_le ls k) hb)
  have H0 := As.mk (show tokR.own 71 w (fun q => w.heap.size ≤ q) (.slice none 0 0) (ls.take 0).flatten from by rw [List.take_zero]; exact Rp.own_nil _ _ _ _)
  clear hr hb
  go_enter Tryz.func204, Tryz.ntmps204
  go_wp2
  go_loopg [3, 4] ls.length (fun gg v i wr => ∃ k : Nat, k + gg = ls.length ∧ i = .int .i64 k ∧ As (tokR.own 71 wr (fun q => w.heap.size ≤ q) v (ls.take k).flatten) ∧ As (Pure w wr))
  case atStart => exact ⟨0, by omega, rfl, H0, ⟨Upd.refl _ _⟩⟩
  case round =>
    clear H0
    obtain ⟨k, hk, rfl, HO, HP⟩ := hrel
    by_cases hlt : k < ls.length
    · obtain ⟨x, hx⟩ : ∃ x, ls[k]? = some x := ⟨_, List.getElem?_eq_getElem hlt⟩
      obtain ⟨b, o, B, cx, rfl, hF, hbl, hcx, hrow, hcell⟩ := toks_at (Rp.row_pure HR.out HP.out) hx
      obtain ⟨g1, rfl⟩ : ∃ m, gk = m + 1 := ⟨gk - 1, by omega⟩
      have HT := As.mk (flatten_take hx)
      have HXR := As.mk hrow
      have HK := As.mk hk
      have hL := HF.out k
      have hLx : x.length ≤ 1048576 * 8 := by have := HF.out (k + 1); rw [HT.out, List.length_append] at this; omega
      have HL := As.mk (And.intro hL hLx)
      clear hx hrow hk hL hLx
      go_wp2_with (at_builtin; refine Rp.append_row tokR (c := cx) HO.out (Rp.row'_of HXR.out (fun _ _ h => h)) (Fz := fun _ => False) (fun _ h => h.elim) rfl _ _ 22 (.agg #[.int .i64 0, .int .i64 0, .int .i64 0, .int .i64 0]) 32 rfl Tryz.underlying22 tok_info rfl (by decide) (by decide) rfl (by rfl) (by have := HL.out; omega) ?_; intro v4 w4 ho4 hu4 hat4; rw [← HT.out] at ho4; have HV4 := As.mk (hat_ge (B := w.heap.size) hat4 (fun q hq => (Rp.own_block_lt HO.out q hq).1) HP.out.size); have HO4 := As.mk (tok_own_to (G := fun q => w.heap.size ≤ q) ho4 HV4.out); have HP4 := As.mk (HP.out.trans hu4 (fun q hq h => by have := (Rp.own_block_lt HO.out q h).1; omega)); clear ho4 hu4 hat4)
      go_roundg g1
      case measure => omega
      case rel => exact ⟨k + 1, by have := HK.out; omega, by go_num, HO4, HP4⟩
    · obtain rfl : k = ls.length := by omega
      rw [List.take_length] at HO
      go_wp2
      go_ret
      obtain ⟨A1, c1, rfl, hle, hrow⟩ := Rp.own_slice HO.out
      exact ⟨⟨A1, c1, rfl, hle, hrow⟩, HP.out⟩
theorem tokens39 {w : World} {F0 F1 F2 : Nat → Prop} {x0 x1 x2 : List Tok} (hb : x0.length + x1.length + x2.length ≤ 1048576) (W : World) (hu : Pure w W) {v0 v1 v2 : Value} {blk : Nat} {e : TypeId} {fr : Nat × Nat} (hblk : W.heap[blk]? = some (.cells #[v0, v1, v2] e fr)) (h0 : TokS w F0 v0 x0) (h1 : TokS w F1 v1 x1) (h2 : TokS w F2 v2 x2) :
    Calls Tryz.prog 204 #[.slice (some ⟨blk, 0, none⟩) 3 3] W fun r w' => (∃ A c, r = .returned (.slice A (x0 ++ (x1 ++ x2)).length c) ∧ (x0 ++ (x1 ++ x2)).length ≤ c ∧ tokR.row w' (fun k => W.heap.size ≤ k) A (x0 ++ (x1 ++ x2))) ∧ Pure W w' := by
  have hr : toksR.row W (fun _ => True) (some ⟨blk, 0, none⟩) [x0, x1, x2] := toks_box (vs := [v0, v1, v2]) hblk trivial rfl (fun j v x hv hx => by
    match j, hv, hx with
    | 0, hv, hx => simp at hv hx; subst hv hx; exact (h0.pure hu).fp
    | 1, hv, hx => simp at hv hx; subst hv hx; exact (h1.pure hu).fp
    | 2, hv, hx => simp at hv hx; subst hv hx; exact (h2.pure hu).fp
    | j + 3, hv, hx => simp at hv)
  have h := join9_calls (c := 3) hr (Nat.le_refl _) (by simp) (by simp [sumL]; omega)
  have e : ([x0, x1, x2] : List (List Tok)).flatten = x0 ++ (x1 ++ x2) := by simp
  rw [e] at h
  exact h
set_option maxRecDepth 100000 in
set_option maxHeartbeats 4000000 in
theorem do_repl_some9 {w : World} {F G : Nat → Prop} {b o : Nat} {A B : Option Addr} {c cb : Nat} {l sl : List Tok} {p q : Nat} (hr : tokR.row w F (some ⟨b, o, none⟩) l) (hlc : l.length ≤ c) (hs : tokR.row w G B sl) (hsc : sl.length ≤ cb) (hb : l.length + sl.length ≤ 100000) (hp : p ≤ q) (hq : q ≤ l.length) :
    Calls Tryz.prog 177 #[.slice (some ⟨b, o, none⟩) l.length c, (repl p q sl).val B cb] w (Told9 w (l.take p ++ (sl ++ l.drop q))) := by
  have hbox := Upd.alloc1 (fun _ => False) w (.cells #[.int .i64 0, .int .i64 (p : Nat), .int .i64 (q : Nat), .int .i64 0, .int .i64 0, .int .i64 0, .slice B sl.length cb, .int .i64 0] 46)
  have hblk := heap_alloc_new w (.cells #[.int .i64 0, .int .i64 (p : Nat), .int .i64 (q : Nat), .int .i64 0, .int .i64 0, .int .i64 0, .slice B sl.length cb, .int .i64 0] 46)
  have h1 := TokS.take (m := p) hr (by omega) hlc rfl
  have h2 := TokS.whole hs hsc rfl
  have h3 := TokS.cut (m := l.length - q) (c' := c - q) hr hq hlc rfl rfl
  have HT := As.mk (fun (W : World) (hu : Pure w W) (blk : Nat) (e : TypeId) (fr : Nat × Nat) hblk => tokens39 (x0 := l.take p) (x1 := sl) (x2 := l.drop q) (by rw [List.length_take, List.length_drop]; omega) W hu (blk := blk) (e := e) (fr := fr) hblk h1 h2 h3)
  have HB := As.mk hbox
  have HBK := As.mk (fun (cs : Array Value) (T : TypeId) => (by
    have h := heap_alloc_new (w.alloc (.cells #[.int .i64 0, .int .i64 (p : Nat), .int .i64 (q : Nat), .int .i64 0, .int .i64 0, .int .i64 0, .slice B sl.length cb, .int .i64 0] 46)) (.cells cs T)
    rw [World.size_alloc] at h
    exact h : (((w.alloc (.cells #[.int .i64 0, .int .i64 (p : Nat), .int .i64 (q : Nat), .int .i64 0, .int .i64 0, .int .i64 0, .slice B sl.length cb, .int .i64 0] 46)).alloc (.cells cs T)).drew).heap[w.heap.size + 1]? = some (.cells cs T (0, 0))))
  have q0 : ∀ v, Pure (w.alloc (.cells #[.int .i64 0, .int .i64 (p : Nat), .int .i64 (q : Nat), .int .i64 0, .int .i64 0, .int .i64 0, .slice B sl.length cb, .int .i64 0] 46)) v → v.cell? ⟨w.heap.size, 1, none⟩ = some (.int .i64 (p : Nat)) ∧ v.cell? ⟨w.heap.size, 2, none⟩ = some (.int .i64 (q : Nat)) ∧ v.cell? ⟨w.heap.size, 6, none⟩ = some (.slice B sl.length cb) := fun v hu => by
    have := (hu.block w.heap.size (by simp) (fun h => h)).trans hblk
    refine ⟨?_, ?_, ?_⟩ <;> (unfold World.cell?; simp only [this]; rfl)
  have HQ := As.mk q0
  have i1 : (0 : Int) ≤ ((p : Nat) : Int) := by omega
  have i2 : ((p : Nat) : Int) ≤ ((c : Nat) : Int) := by omega
  have i3 : (0 : Int) ≤ ((q : Nat) : Int) := by omega
  have i4 : ((q : Nat) : Int) ≤ ((l.length : Nat) : Int) := by omega
  have i5 : ((q : Nat) : Int) ≤ ((c : Nat) : Int) := by omega
  have i6 : ((l.length : Nat) : Int) ≤ ((c : Nat) : Int) := by omega
  clear hr hs h1 h2 h3 hbox hblk q0
  unfold StepD.val repl
  go_enter Tryz.func177, Tryz.ntmps177
  go_wp2
  refine wp_region_T (P := Tryz.prog) (fun v => v.cell? ⟨w.heap.size, 1, none⟩ = some (.int .i64 (p : Nat)) ∧ v.cell? ⟨w.heap.size, 2, none⟩ = some (.int .i64 (q : Nat)) ∧ v.cell? ⟨w.heap.size, 6, none⟩ = some (.slice B sl.length cb)) 12 (by kernel_rfl) ?_ (fun hHeld => ?_)
  · first | exact HQ.out _ ((Upd.refl _ _).drew) | exact HQ.out _ (((Upd.refl _ _).alloc _).drew) | exact HQ.out _ ((((Upd.refl _ _).alloc _).drew).trans hu3 (fun _ _ h => h))
  refine zT 0 ?_
  (try simp only [Act.put, sA, sB, sC])
  refine zT 1 ?_
  (try simp only [Act.put, sA, sB, sC])
  refine zT 2 ?_
  (try simp only [Act.put, sA, sB, sC])
  refine zT 3 ?_
  (try simp only [Act.put, sA, sB, sC])
  refine zT 4 ?_
  (try simp only [Act.put, sA, sB, sC])
  refine zT 5 ?_
  (try simp only [Act.put, sA, sB, sC])
  refine zT 6 ?_
  (try simp only [Act.put, sA, sB, sC])
  refine zT 7 ?_
  (try simp only [Act.put, sA, sB, sC])
  refine zT 8 ?_
  (try simp only [Act.put, sA, sB, sC])
  refine zT 9 ?_
  (try simp only [Act.put, sA, sB, sC])
  refine oT 10 (fun K hK => ?_)
  go_simp
  refine hK.out _ _ (fun _ => by first | exact HQ.out _ ((Upd.refl _ _).drew) | exact HQ.out _ (((Upd.refl _ _).alloc _).drew) | exact HQ.out _ ((((Upd.refl _ _).alloc _).drew).trans hu3 (fun _ _ h => h))) (fun hHeld => ?_)
  replace hHeld := hHeld (by decide)
  clear hK K
  (try simp only [Act.put, sA, sB, sC])
  refine oT 11 (fun K hK => ?_)
  go_simp
  (go_at_call 204; with_reducible refine (HT.out _ ((HB.out.alloc _).drew) _ _ _ (HBK.out _ _)).mono ?_; rintro e w3 ⟨⟨B3, c3, rfl, hle3, hrow3⟩, hu3⟩)
  refine hK.out _ _ (fun _ => by first | exact HQ.out _ ((Upd.refl _ _).drew) | exact HQ.out _ (((Upd.refl _ _).alloc _).drew) | exact HQ.out _ ((((Upd.refl _ _).alloc _).drew).trans hu3 (fun _ _ h => h))) (fun hHeld => ?_)
  replace hHeld := hHeld (by decide)
  clear hK K
  (try simp only [Act.put, sA, sB, sC])
  refine oT 12 (fun K hK => ?_)
  go_simp
  refine hK.out _ _ (fun h => absurd rfl h) (fun hHeld => ?_)
  clear hK K
  (try simp only [Act.put, sA, sB, sC])
  refine wpAnyT_done (by kernel_rfl) ?_ _
  go_wp2
  all_goals go_ret
  all_goals exact Told9.of ((HB.out.alloc _).drew) rfl (by first | (simp; done) | (simp; omega)) hle3 hrow3 hu3
end Go.Proofs.YtofjodppljnlaaaGreatDoor
namespace Go.Proofs.YtofjodppljnlaaaGreatDoor
open Go.RowKit
set_option linter.unusedVariables false
set_option linter.unusedSimpArgs false
set_option maxRecDepth 100000 in
set_option maxHeartbeats 4000000 in
theorem markRight3_calls (s : Int) (w : World) : Calls Tryz.prog 141 #[.int .i64 s] w fun e w' => e = .returned (.bool (markB s)) ∧ w = w' := by
  go_enter Tryz.func141, Tryz.ntmps141
  go_wp2
  all_goals go_ret
  all_goals exact ⟨ret_bool (by rw [Bool.eq_iff_iff]; (try simp only [markB, decide_eq_true_eq, Bool.and_eq_true, Bool.or_eq_true, Bool.not_eq_true', Bool.not_eq_eq_eq_not, Bool.not_true, Bool.not_false, beq_iff_eq, bne_iff_ne, beq_eq_false_iff_ne, bne_eq_false_iff_eq, decide_eq_false_iff_not, Bool.false_eq_true, Bool.true_eq_false, ne_eq, iff_true, true_iff, iff_false, false_iff, eq_self_iff_true, Bool.and_true, Bool.true_and, Bool.and_false, Bool.false_and, Bool.or_true, Bool.true_or, Bool.or_false, Bool.false_or] at *); all_goals (try simp only [MarkP, decide_eq_true_eq, Bool.and_eq_true, Bool.or_eq_true, Bool.not_eq_true', Bool.not_eq_eq_eq_not, Bool.not_true, Bool.not_false, beq_iff_eq, bne_iff_ne, beq_eq_false_iff_ne, bne_eq_false_iff_eq, decide_eq_false_iff_not, Bool.false_eq_true, Bool.true_eq_false, ne_eq, iff_true, true_iff, iff_false, false_iff, eq_self_iff_true, Bool.and_true, Bool.true_and, Bool.and_false, Bool.false_and, Bool.or_true, Bool.true_or, Bool.or_false, Bool.false_or] at *); all_goals omega), rfl⟩
set_option maxRecDepth 100000 in
set_option maxHeartbeats 4000000 in
theorem point_calls (n : Int) (w : World) : Calls Tryz.prog 145 #[.int .i64 n] w fun e w' => e = .returned (.bool (pointB n)) ∧ w = w' := by
  go_enter Tryz.func145, Tryz.ntmps145
  go_wp2
  all_goals go_ret
  all_goals exact ⟨ret_bool (by rw [Bool.eq_iff_iff]; (try simp only [pointB, decide_eq_true_eq, Bool.and_eq_true, Bool.or_eq_true, Bool.not_eq_true', Bool.not_eq_eq_eq_not, Bool.not_true, Bool.not_false, beq_iff_eq, bne_iff_ne, beq_eq_false_iff_ne, bne_eq_false_iff_eq, decide_eq_false_iff_not, Bool.false_eq_true, Bool.true_eq_false, ne_eq, iff_true, true_iff, iff_false, false_iff, eq_self_iff_true, Bool.and_true, Bool.true_and, Bool.and_false, Bool.false_and, Bool.or_true, Bool.true_or, Bool.or_false, Bool.false_or] at *); all_goals (try simp only [PointP, decide_eq_true_eq, Bool.and_eq_true, Bool.or_eq_true, Bool.not_eq_true', Bool.not_eq_eq_eq_not, Bool.not_true, Bool.not_false, beq_iff_eq, bne_iff_ne, beq_eq_false_iff_ne, bne_eq_false_iff_eq, decide_eq_false_iff_not, Bool.false_eq_true, Bool.true_eq_false, ne_eq, iff_true, true_iff, iff_false, false_iff, eq_self_iff_true, Bool.and_true, Bool.true_and, Bool.and_false, Bool.false_and, Bool.or_true, Bool.true_or, Bool.or_false, Bool.false_or] at *); all_goals omega), rfl⟩
set_option maxRecDepth 100000 in
set_option maxHeartbeats 4000000 in
theorem flatRight4_calls (x : Tok) (w : World) : Calls Tryz.prog 97 #[x.val] w fun e w' => e = .returned (.bool (rightB x)) ∧ Pure w w' := by
  go_enter Tryz.func97, Tryz.ntmps97
  go_wp2_with (first | (go_at_call 141; refine (markRight3_calls _ _).mono ?_; rintro e w1 ⟨rfl, rfl⟩) | (go_at_call 145; refine (point_calls _ _).mono ?_; rintro e w1 ⟨rfl, rfl⟩))
  all_goals go_ret
  all_goals exact ⟨ret_bool (by rw [Bool.eq_iff_iff]; (try simp only [rightB, markB, pointB, decide_eq_true_eq, Bool.and_eq_true, Bool.or_eq_true, Bool.not_eq_true', Bool.not_eq_eq_eq_not, Bool.not_true, Bool.not_false, beq_iff_eq, bne_iff_ne, beq_eq_false_iff_ne, bne_eq_false_iff_eq, decide_eq_false_iff_not, Bool.false_eq_true, Bool.true_eq_false, ne_eq, iff_true, true_iff, iff_false, false_iff, eq_self_iff_true, Bool.and_true, Bool.true_and, Bool.and_false, Bool.false_and, Bool.or_true, Bool.true_or, Bool.or_false, Bool.false_or] at *); all_goals (try simp only [RightP, MarkP, PointP, decide_eq_true_eq, Bool.and_eq_true, Bool.or_eq_true, Bool.not_eq_true', Bool.not_eq_eq_eq_not, Bool.not_true, Bool.not_false, beq_iff_eq, bne_iff_ne, beq_eq_false_iff_ne, bne_eq_false_iff_eq, decide_eq_false_iff_not, Bool.false_eq_true, Bool.true_eq_false, ne_eq, iff_true, true_iff, iff_false, false_iff, eq_self_iff_true, Bool.and_true, Bool.true_and, Bool.and_false, Bool.false_and, Bool.or_true, Bool.true_or, Bool.or_false, Bool.false_or] at *); all_goals omega), (Upd.refl _ _).alloc _⟩
theorem flatRight4_is {x : Tok} {b : Bool} (h : rightB x = b) (w : World) : Calls Tryz.prog 97 #[x.val] w fun e w' => e = .returned (.bool b) ∧ Pure w w' := h ▸ flatRight4_calls x w
end Go.Proofs.YtofjodppljnlaaaGreatDoor
namespace Go.Proofs.YtofjodppljnlaaaGreatDoor
open Go.RowKit
set_option linter.unusedVariables false
set_option linter.unusedSimpArgs false
end Go.Proofs.YtofjodppljnlaaaGreatDoor
namespace Go.Proofs.YtofjodppljnlaaaGreatDoor
open Go.RowKit
set_option linter.unusedVariables false
set_option linter.unusedSimpArgs false
theorem sc_one {s : StepD} (h : ¬ s.sl.length > 2048) (ho : ¬ s.ok) : stepCheck s = 1 := by unfold stepCheck; rw [if_neg h, if_neg ho]
theorem sc_zero {s : StepD} (h : ¬ s.sl.length > 2048) (ho : s.ok) : stepCheck s = 0 := by unfold stepCheck; rw [if_neg h, if_pos ho]
theorem sc_two {s : StepD} (h : s.sl.length > 2048) : stepCheck s = 2 := by unfold stepCheck; rw [if_pos h]
theorem all_right {l : List Tok} : l.all rightB = true ↔ ∀ x ∈ l, rightB x = true := by simp
set_option maxRecDepth 100000 in
set_option maxHeartbeats 4000000 in
theorem chk9_repl {w : World} {F : Nat → Prop} {B : Option Addr} {cb : Nat} {sl : List Tok} {a b : Int} (hr : tokR.row w F B sl) (hb : sl.length ≤ 1048576 * 4) :
    Calls Tryz.prog 176 #[(repl a b sl).val B cb] w fun r w' => r = .returned (.int .i64 (stepCheck (repl a b sl))) ∧ Pure w w' := by
  have HS1 := As.mk (fun hz h2 => sc_one (s := repl a b sl) hz h2)
  have HS0 := As.mk (fun hz h2 => sc_zero (s := repl a b sl) hz h2)
  have HS2 := As.mk (fun hz => sc_two (s := repl a b sl) hz)
  have HIF := As.mk (repl_ok (a := a) (b := b) (l := sl))
  have HSL : As ((repl a b sl).sl = sl) := ⟨rfl⟩
  rw [HSL.out] at HS1 HS0 HS2
  have HR := As.mk hr
  have HBX := As.mk (heap_alloc_new w (.cells #[.int .i64 0, .int .i64 a, .int .i64 b, .int .i64 0, .int .i64 0, .int .i64 0, .slice B sl.length cb, .int .i64 0] 46))
  generalize stepCheck (repl a b sl) = sc at *
  generalize (repl a b sl).ok = okP at *
  have e : (repl a b sl).val B cb = .agg #[.int .i64 0, .int .i64 a, .int .i64 b, .int .i64 0, .int .i64 0, .int .i64 0, .slice B sl.length cb, .int .i64 0] := rfl
  rw [e]
  clear hr e HSL
  cases g0 : decide (sl.length > 2048)
  case true =>
    have HG := As.mk (of_decide_eq_true g0)
    have g1 : decide ((sl.length : Int) > 2048) = true := decide_eq_true (by have := HG.out; omega)
    have g2 : decide ((2048 : Int) < (sl.length : Int)) = true := g1
    have g3 : decide (2048 < sl.length) = true := g0
    go_enter Tryz.func176, Tryz.ntmps176
    go_wp2
    go_ret
    exact ⟨by rw [HS2.out HG.out]; rfl, Upd.alloc1 _ _ _⟩
  case false =>
    have HG := As.mk (of_decide_eq_false g0)
    have g1 : decide ((sl.length : Int) > 2048) = false := decide_eq_false (by have := HG.out; omega)
    have g2 : decide ((2048 : Int) < (sl.length : Int)) = false := g1
    have g3 : decide (2048 < sl.length) = false := g0
    cases h0 : decide (a < 0) <;> cases h1 : decide (b < a) <;> cases h2 : decide (2048 < b)
    case false.false.false =>
      have HA := As.mk (And.intro (of_decide_eq_false h0) (And.intro (of_decide_eq_false h1) (of_decide_eq_false h2)))
      have h3 : decide (a > b) = false := h1
      have h4 : decide (b > 2048) = false := h2
      go_enter Tryz.func176, Tryz.ntmps176
      go_wp2
      go_loopg [4, 5] sl.length (fun gg fv i wr => ∃ n : Nat, n + gg = sl.length ∧ fv = .bool (true && (sl.take n).all rightB) ∧ i = .int .i64 n ∧ As (wr.heap[w.heap.size]? = some (.cells #[.int .i64 0, .int .i64 a, .int .i64 b, .int .i64 0, .int .i64 0, .int .i64 0, .slice B sl.length cb, .int .i64 0] 46 (0, 0)) ∧ Pure w wr))
      case atStart => exact ⟨0, by omega, by simp, rfl, ⟨HBX.out, Upd.alloc1 _ _ _⟩⟩
      case round =>
        obtain ⟨n, hn, rfl, rfl, HP⟩ := hrel
        have hbx := HP.out.1
        have z6 : wr.cell? ⟨w.heap.size, 6, none⟩ = some (.slice B sl.length cb) := by unfold World.cell?; simp only [hbx]; rfl
        have hbl : w.heap.size < wr.heap.size := (Array.getElem?_eq_some_iff.1 hbx).1
        by_cases hlt : n < sl.length
        · obtain ⟨x, hx⟩ : ∃ x, sl[n]? = some x := ⟨_, List.getElem?_eq_getElem hlt⟩
          obtain ⟨g1, rfl⟩ : ∃ y, gk = y + 1 := ⟨gk - 1, by omega⟩
          obtain ⟨bt, ot, rfl, hFb, hbb, d0, d1, d2, d3⟩ := tok_at (Rp.row_pure HR.out HP.out.2) hx
          have HT := As.mk (show (sl.take (n + 1)).all rightB = ((sl.take n).all rightB && rightB x) by rw [List.take_add_one, hx]; simp)
          have HRX := As.mk (flatRight4_calls x)
          have HN := As.mk hn
          have hnl : (n : Int) < (sl.length : Int) := by omega
          have hnd : decide ((n : Int) < (sl.length : Int)) = true := decide_eq_true (by omega)
          have hwn : IntKind.i64.wrap ((n : Int) + 1) = (n : Int) + 1 := IntWalk.i64_in _ (by omega)
          clear hx hn hbx
          generalize rightB x = rx at *
          cases hbn : (true && (sl.take n).all rightB)
          · have HBN := As.mk hbn
            clear hbn HRX
            go_wp2
            go_roundg g1
            case measure => omega
            case rel => exact ⟨n + 1, by have := HN.out; omega, by rw [HT.out, ← Bool.and_assoc, HBN.out]; rfl, by go_num, HP⟩
          · have HBN := As.mk hbn
            clear hbn
            go_wp2_with (go_at_call 97; refine (HRX.out _).mono ?_; rintro e w2 ⟨rfl, hu⟩; have HB2 := As.mk ((hu.block _ hbl (fun h => h)).trans HP.out.1); have HU2 := As.mk (HP.out.2.trans hu (fun _ _ h => h)); clear hu)
            go_roundg g1
            case measure => omega
            case rel => exact ⟨n + 1, by have := HN.out; omega, by rw [HT.out, ← Bool.and_assoc, HBN.out, Bool.true_and], by go_num, ⟨HB2.out, HU2.out⟩⟩
        · obtain rfl : n = sl.length := by omega
          have hnd : decide ((sl.length : Int) < (sl.length : Int)) = false := decide_eq_false (by omega)
          rw [List.take_length]
          clear hbx
          cases hall : (true && sl.all rightB)
          · have HAL := As.mk hall
            clear hall
            go_wp2
            go_ret
            exact ⟨by rw [HS1.out HG.out (fun ho => by have h9 := all_right.2 (HIF.out.1 ho).2.2.2; rw [h9] at HAL; exact absurd HAL.out (by decide))]; rfl, HP.out.2⟩
          · have HAL := As.mk hall
            clear hall
            go_wp2
            go_ret
            exact ⟨by rw [HS0.out HG.out (HIF.out.2 ⟨by have := HA.out; omega, by have := HA.out; omega, by have := HA.out; omega, all_right.1 (by simpa using HAL.out)⟩)]; rfl, HP.out.2⟩
    all_goals
      have HNO : As (¬ okP) := ⟨fun ho => by
        have ho2 := HIF.out.1 ho
        have q0 := h0; have q1 := h1; have q2 := h2
        simp only [decide_eq_true_eq, decide_eq_false_iff_not] at q0 q1 q2
        first | omega | (rcases ho2 with ho2; omega)⟩
      have h3 : decide (a > b) = decide (b < a) := rfl
      have h4 : decide (b > 2048) = decide (2048 < b) := rfl
      rw [h1] at h3
      rw [h2] at h4
      go_enter Tryz.func176, Tryz.ntmps176
      go_wp2
      go_ret
      exact ⟨by rw [HS1.out HG.out HNO.out]; rfl, Upd.alloc1 _ _ _⟩
end Go.Proofs.YtofjodppljnlaaaGreatDoor
namespace Go.Proofs.YtofjodppljnlaaaGreatDoor
open Go.RowKit
set_option linter.unusedVariables false
set_option linter.unusedSimpArgs false
end Go.Proofs.YtofjodppljnlaaaGreatDoor
namespace Go.Proofs.YtofjodppljnlaaaGreatDoor
open Go.RowKit
set_option linter.unusedVariables false
set_option linter.unusedSimpArgs false
def okTo (B : Prop) (sl : List Tok) (j : Nat) : Prop := B ∧ ∀ x ∈ sl.take j, rightB x = true
theorem okTo_zero {B : Prop} {sl : List Tok} : okTo B sl 0 ↔ B := by simp [okTo]
theorem okTo_succ {B : Prop} {sl : List Tok} {j : Nat} {x : Tok} (hx : sl[j]? = some x) : okTo B sl (j + 1) ↔ okTo B sl j ∧ rightB x = true := by
  unfold okTo
  rw [List.take_add_one, hx]
  constructor
  · exact fun ⟨h1, h2⟩ => ⟨⟨h1, fun y hy => h2 y (List.mem_append_left _ hy)⟩, h2 x (by simp)⟩
  · exact fun ⟨⟨h1, h2⟩, h3⟩ => ⟨h1, fun y hy => by
      rcases List.mem_append.1 hy with h | h
      · exact h2 y h
      · simp at h; rw [h]; exact h3⟩
theorem okTo_all {B : Prop} {sl : List Tok} : okTo B sl sl.length ↔ B ∧ ∀ x ∈ sl, rightB x = true := by
  unfold okTo
  rw [List.take_length]
set_option maxRecDepth 100000 in
set_option maxHeartbeats 4000000 in
theorem sc_around {w : World} {F : Nat → Prop} {A : Option Addr} {c : Nat} {fr tt gf gt ins mk : Int} {sl : List Tok} (hr : tokR.row w F A sl) (hb : sl.length ≤ 2048) :
    Calls Tryz.prog 115 #[(StepD.mk 1 fr tt gf gt ins sl mk).val A c] w fun r w' => r = .returned (.int .i64 (if (StepD.mk 1 fr tt gf gt ins sl mk).ok then 0 else 1)) ∧ Pure w w' := by
  have HR := As.mk hr
  have hL1 : (((listL mk 3).length : Int) == 1) = decide (markOne mk) := by
    rw [Bool.eq_iff_iff, beq_iff_eq, decide_eq_true_eq, ← list_one]
    omega
  have HBB := As.mk (show (∀ (B : Prop), (B ↔ ((0 ≤ fr ∧ fr ≤ tt ∧ tt ≤ 2048) ∧ fr ≤ gf ∧ gf < gt ∧ gt ≤ tt ∧ 0 ≤ ins ∧ ins ≤ (sl.length : Int) ∧ mk = 0)) → ((StepD.mk 1 fr tt gf gt ins sl mk).ok ↔ okTo B sl sl.length)) from fun B hB => by
    rw [okTo_all, hB]
    unfold StepD.ok StepD.kindOk
    constructor
    · rintro ⟨h1, h2, h3, h4, h5⟩
      refine ⟨?_, h5⟩
      dsimp only at h1 h2 h3 h4
      rcases h4 with h4 | h4 | h4
      · exact ⟨⟨h1, h2, h3⟩, h4.2⟩
      · exact absurd h4.1 (by decide)
      · exact absurd h4.1 (by decide)
    · rintro ⟨h1, h5⟩
      exact ⟨h1.1.1, h1.1.2.1, h1.1.2.2, .inl ⟨rfl, h1.2⟩, h5⟩)
  obtain ⟨B, hB⟩ : ∃ B : Prop, B ↔ ((0 ≤ fr ∧ fr ≤ tt ∧ tt ≤ 2048) ∧ fr ≤ gf ∧ gf < gt ∧ gt ≤ tt ∧ 0 ≤ ins ∧ ins ≤ (sl.length : Int) ∧ mk = 0) := ⟨_, Iff.rfl⟩
  have HOK := As.mk (HBB.out B hB)
  clear hr HBB
  obtain ⟨V, hV⟩ : ∃ V : Int, V = (if (StepD.mk 1 fr tt gf gt ins sl mk).ok then 0 else 1) := ⟨_, rfl⟩
  rw [← hV]
  have HV0 := As.mk (show okTo B sl sl.length → V = 0 from fun h => by rw [hV, if_pos (HOK.out.2 h)])
  have HV1 := As.mk (show ¬ okTo B sl sl.length → V = 1 from fun h => by rw [hV, if_neg (fun h2 => h (HOK.out.1 h2))])
  clear hV HOK
  unfold StepD.val
  try simp only
  skip
  all_goals cases hmo : decide (markOne mk)
  all_goals
    rw [hmo] at hL1
    have HMO := As.mk hmo
    have HBI := As.mk hB
    clear hmo hB
    go_enter Tryz.func115, Tryz.ntmps115
    go_wp2_with (go_at_call 152; refine (List_calls _ _).mono ?_; rintro e w1 ⟨⟨A1, c1, rfl⟩, hu⟩; have HU1 := As.mk hu; obtain ⟨oc, of⟩ := hu.olds; have hz1 := hu.size; clear hu)
    all_goals
      go_loopg [4, 123] sl.length (fun gg v4 iv wr => ∃ (j : Nat) (bb : Bool), j + gg = sl.length ∧ iv = .int .i64 j ∧ v4 = .bool bb ∧ As ((bb = true ↔ okTo B sl j) ∧ Pure w wr))
      case atStart => exact ⟨0, _, by omega, rfl, rfl, ⟨by
        rw [okTo_zero, HBI.out]
        have h9 := HMO.out
        simp only [decide_eq_true_eq, decide_eq_false_iff_not] at h9
        have hlen : 0 ≤ (sl.length : Int) := by omega
        simp only [Bool.false_eq_true, true_iff, false_iff, iff_true, iff_false, h9, true_and, and_true, false_and, and_false, not_false_eq_true, decide_eq_true_eq, beq_iff_eq]
        try omega, (by repeat (first | exact Upd.refl _ _ | exact HU1.out | (refine Upd.alloc ?_ _) | (refine Upd.setCell ?_ (by intro h; simp at h; try omega) _) | (refine Upd.drew ?_) | (refine Upd.drewN ?_ _) | (refine Upd.trans ?_ HU1.out (fun _ _ h => h))))⟩⟩
      case round =>
        obtain ⟨j, bb, hj, rfl, rfl, HC⟩ := hrel
        by_cases hlt : j < sl.length
        · obtain ⟨x, hx⟩ : ∃ x, sl[j]? = some x := ⟨_, List.getElem?_eq_getElem hlt⟩
          obtain ⟨b, o, rfl, hF, hbl, d0, d1, d2, d3⟩ := tok_at (Rp.row_pure HR.out HC.out.2) hx
          obtain ⟨g1, rfl⟩ : ∃ m, gk = m + 1 := ⟨gk - 1, by omega⟩
          have HS := As.mk (okTo_succ (B := B) hx)
          clear hx
          cases hrx : rightB x <;> cases bb
          all_goals
            have HRX := As.mk hrx
            clear hrx
            go_wp2_with (go_at_call 102; refine (flatRight_is HRX.out _).mono ?_; rintro e w2 ⟨rfl, hu2⟩; have HU2 := As.mk hu2; clear hu2)
            go_roundg g1
            case measure => omega
            case rel => exact ⟨j + 1, _, by omega, by go_num, rfl, ⟨by rw [HS.out, ← HC.out.1, HRX.out]; simp, by first | exact HC.out.2.alloc _ | exact (HC.out.2.alloc _).trans HU2.out (fun _ _ h => h)⟩⟩
        · obtain rfl : j = sl.length := by omega
          have HP := As.mk HC.out.2
          cases bb
          · have e := HV1.out (fun h => by have := HC.out.1.2 h; cases this)
            subst e
            clear HC
            go_wp2
            go_ret
            exact ⟨rfl, HP.out⟩
          · have e := HV0.out (HC.out.1.1 rfl)
            subst e
            clear HC
            go_wp2
            go_ret
            exact ⟨rfl, HP.out⟩
set_option maxRecDepth 100000 in
set_option maxHeartbeats 4000000 in
theorem sc_replace {w : World} {F : Nat → Prop} {A : Option Addr} {c : Nat} {fr tt gf gt ins mk : Int} {sl : List Tok} (hr : tokR.row w F A sl) (hb : sl.length ≤ 2048) :
    Calls Tryz.prog 115 #[(StepD.mk 0 fr tt gf gt ins sl mk).val A c] w fun r w' => r = .returned (.int .i64 (if (StepD.mk 0 fr tt gf gt ins sl mk).ok then 0 else 1)) ∧ Pure w w' := by
  have HR := As.mk hr
  have hL1 : (((listL mk 3).length : Int) == 1) = decide (markOne mk) := by
    rw [Bool.eq_iff_iff, beq_iff_eq, decide_eq_true_eq, ← list_one]
    omega
  have HBB := As.mk (show (∀ (B : Prop), (B ↔ ((0 ≤ fr ∧ fr ≤ tt ∧ tt ≤ 2048) ∧ mk = 0 ∧ gf = 0 ∧ gt = 0 ∧ ins = 0)) → ((StepD.mk 0 fr tt gf gt ins sl mk).ok ↔ okTo B sl sl.length)) from fun B hB => by
    rw [okTo_all, hB]
    unfold StepD.ok StepD.kindOk
    constructor
    · rintro ⟨h1, h2, h3, h4, h5⟩
      refine ⟨?_, h5⟩
      dsimp only at h1 h2 h3 h4
      rcases h4 with h4 | h4 | h4
      · exact absurd h4.1 (by decide)
      · exact ⟨⟨h1, h2, h3⟩, h4.2⟩
      · exact absurd h4.1 (by decide)
    · rintro ⟨h1, h5⟩
      exact ⟨h1.1.1, h1.1.2.1, h1.1.2.2, .inr (.inl ⟨rfl, h1.2⟩), h5⟩)
  obtain ⟨B, hB⟩ : ∃ B : Prop, B ↔ ((0 ≤ fr ∧ fr ≤ tt ∧ tt ≤ 2048) ∧ mk = 0 ∧ gf = 0 ∧ gt = 0 ∧ ins = 0) := ⟨_, Iff.rfl⟩
  have HOK := As.mk (HBB.out B hB)
  clear hr HBB
  obtain ⟨V, hV⟩ : ∃ V : Int, V = (if (StepD.mk 0 fr tt gf gt ins sl mk).ok then 0 else 1) := ⟨_, rfl⟩
  rw [← hV]
  have HV0 := As.mk (show okTo B sl sl.length → V = 0 from fun h => by rw [hV, if_pos (HOK.out.2 h)])
  have HV1 := As.mk (show ¬ okTo B sl sl.length → V = 1 from fun h => by rw [hV, if_neg (fun h2 => h (HOK.out.1 h2))])
  clear hV HOK
  unfold StepD.val
  try simp only
  skip
  all_goals cases hmo : decide (markOne mk)
  all_goals
    rw [hmo] at hL1
    have HMO := As.mk hmo
    have HBI := As.mk hB
    clear hmo hB
    go_enter Tryz.func115, Tryz.ntmps115
    go_wp2_with (go_at_call 152; refine (List_calls _ _).mono ?_; rintro e w1 ⟨⟨A1, c1, rfl⟩, hu⟩; have HU1 := As.mk hu; obtain ⟨oc, of⟩ := hu.olds; have hz1 := hu.size; clear hu)
    all_goals
      go_loopg [4, 123] sl.length (fun gg v4 iv wr => ∃ (j : Nat) (bb : Bool), j + gg = sl.length ∧ iv = .int .i64 j ∧ v4 = .bool bb ∧ As ((bb = true ↔ okTo B sl j) ∧ Pure w wr))
      case atStart => exact ⟨0, _, by omega, rfl, rfl, ⟨by
        rw [okTo_zero, HBI.out]
        have h9 := HMO.out
        simp only [decide_eq_true_eq, decide_eq_false_iff_not] at h9
        have hlen : 0 ≤ (sl.length : Int) := by omega
        simp only [Bool.false_eq_true, true_iff, false_iff, iff_true, iff_false, h9, true_and, and_true, false_and, and_false, not_false_eq_true, decide_eq_true_eq, beq_iff_eq]
        try omega, (by repeat (first | exact Upd.refl _ _ | exact HU1.out | (refine Upd.alloc ?_ _) | (refine Upd.setCell ?_ (by intro h; simp at h; try omega) _) | (refine Upd.drew ?_) | (refine Upd.drewN ?_ _) | (refine Upd.trans ?_ HU1.out (fun _ _ h => h))))⟩⟩
      case round =>
        obtain ⟨j, bb, hj, rfl, rfl, HC⟩ := hrel
        by_cases hlt : j < sl.length
        · obtain ⟨x, hx⟩ : ∃ x, sl[j]? = some x := ⟨_, List.getElem?_eq_getElem hlt⟩
          obtain ⟨b, o, rfl, hF, hbl, d0, d1, d2, d3⟩ := tok_at (Rp.row_pure HR.out HC.out.2) hx
          obtain ⟨g1, rfl⟩ : ∃ m, gk = m + 1 := ⟨gk - 1, by omega⟩
          have HS := As.mk (okTo_succ (B := B) hx)
          clear hx
          cases hrx : rightB x <;> cases bb
          all_goals
            have HRX := As.mk hrx
            clear hrx
            go_wp2_with (go_at_call 102; refine (flatRight_is HRX.out _).mono ?_; rintro e w2 ⟨rfl, hu2⟩; have HU2 := As.mk hu2; clear hu2)
            go_roundg g1
            case measure => omega
            case rel => exact ⟨j + 1, _, by omega, by go_num, rfl, ⟨by rw [HS.out, ← HC.out.1, HRX.out]; simp, by first | exact HC.out.2.alloc _ | exact (HC.out.2.alloc _).trans HU2.out (fun _ _ h => h)⟩⟩
        · obtain rfl : j = sl.length := by omega
          have HP := As.mk HC.out.2
          cases bb
          · have e := HV1.out (fun h => by have := HC.out.1.2 h; cases this)
            subst e
            clear HC
            go_wp2
            go_ret
            exact ⟨rfl, HP.out⟩
          · have e := HV0.out (HC.out.1.1 rfl)
            subst e
            clear HC
            go_wp2
            go_ret
            exact ⟨rfl, HP.out⟩
set_option maxRecDepth 100000 in
set_option maxHeartbeats 4000000 in
theorem sc_mark_nil {w : World} {F : Nat → Prop} {A : Option Addr} {c : Nat} {k fr tt gf gt ins mk : Int}  (hk : k = 2 ∨ k = 3) :
    Calls Tryz.prog 115 #[(StepD.mk k fr tt gf gt ins [] mk).val A c] w fun r w' => r = .returned (.int .i64 (if (StepD.mk k fr tt gf gt ins [] mk).ok then 0 else 1)) ∧ Pure w w' := by
  have hL1 : (((listL mk 3).length : Int) == 1) = decide (markOne mk) := by
    rw [Bool.eq_iff_iff, beq_iff_eq, decide_eq_true_eq, ← list_one]
    omega
  have HBB := As.mk (show (∀ (B : Prop), (B ↔ ((0 ≤ fr ∧ fr ≤ tt ∧ tt ≤ 2048) ∧ fr < tt ∧ markOne mk ∧ gf = 0 ∧ gt = 0 ∧ ins = 0)) → ((StepD.mk k fr tt gf gt ins [] mk).ok ↔ okTo B [] ([] : List Tok).length)) from fun B hB => by
    rw [okTo_all, hB]
    unfold StepD.ok StepD.kindOk
    constructor
    · rintro ⟨h1, h2, h3, h4, h5⟩
      refine ⟨?_, h5⟩
      dsimp only at h1 h2 h3 h4
      rcases h4 with h4 | h4 | h4
      · exact absurd h4.1 (by omega)
      · exact absurd h4.1 (by omega)
      · exact ⟨⟨h1, h2, h3⟩, h4.2.1, h4.2.2.1, h4.2.2.2.2⟩
    · rintro ⟨h1, h5⟩
      exact ⟨h1.1.1, h1.1.2.1, h1.1.2.2, .inr (.inr ⟨hk, h1.2.1, h1.2.2.1, rfl, h1.2.2.2⟩), h5⟩)
  obtain ⟨B, hB⟩ : ∃ B : Prop, B ↔ ((0 ≤ fr ∧ fr ≤ tt ∧ tt ≤ 2048) ∧ fr < tt ∧ markOne mk ∧ gf = 0 ∧ gt = 0 ∧ ins = 0) := ⟨_, Iff.rfl⟩
  have HOK := As.mk (HBB.out B hB)
  clear HBB
  obtain ⟨V, hV⟩ : ∃ V : Int, V = (if (StepD.mk k fr tt gf gt ins [] mk).ok then 0 else 1) := ⟨_, rfl⟩
  rw [← hV]
  have HV0 := As.mk (show okTo B [] ([] : List Tok).length → V = 0 from fun h => by rw [hV, if_pos (HOK.out.2 h)])
  have HV1 := As.mk (show ¬ okTo B [] ([] : List Tok).length → V = 1 from fun h => by rw [hV, if_neg (fun h2 => h (HOK.out.1 h2))])
  clear hV HOK
  unfold StepD.val
  try simp only
  have f1 : (k == 1) = false := by rcases hk with rfl | rfl <;> rfl
  have f0 : (k == 0) = false := by rcases hk with rfl | rfl <;> rfl
  have f23 : (k == 2) = true ∨ ((k == 2) = false ∧ (k == 3) = true) := by rcases hk with rfl | rfl <;> simp
  skip
  clear hk
  rcases f23 with f2 | ⟨f2, f3⟩
  all_goals skip
  all_goals cases hmo : decide (markOne mk)
  all_goals
    rw [hmo] at hL1
    have HMO := As.mk hmo
    have HBI := As.mk hB
    clear hmo hB
    go_enter Tryz.func115, Tryz.ntmps115
    go_wp2_with (go_at_call 152; refine (List_calls _ _).mono ?_; rintro e w1 ⟨⟨A1, c1, rfl⟩, hu⟩; have HU1 := As.mk hu; obtain ⟨oc, of⟩ := hu.olds; have hz1 := hu.size; clear hu)
    all_goals
      go_loopg [4, 123] ([] : List Tok).length (fun gg v4 iv wr => ∃ (j : Nat) (bb : Bool), j + gg = ([] : List Tok).length ∧ iv = .int .i64 j ∧ v4 = .bool bb ∧ As ((bb = true ↔ okTo B [] j) ∧ Pure w wr))
      case atStart => exact ⟨0, _, by simp, rfl, rfl, ⟨by
        rw [okTo_zero, HBI.out]
        have h9 := HMO.out
        simp only [decide_eq_true_eq, decide_eq_false_iff_not] at h9
        skip
        simp only [Bool.false_eq_true, true_iff, false_iff, iff_true, iff_false, h9, true_and, and_true, false_and, and_false, not_false_eq_true, decide_eq_true_eq, beq_iff_eq]
        try omega, (by repeat (first | exact Upd.refl _ _ | exact HU1.out | (refine Upd.alloc ?_ _) | (refine Upd.setCell ?_ (by intro h; simp at h; try omega) _) | (refine Upd.drew ?_) | (refine Upd.drewN ?_ _) | (refine Upd.trans ?_ HU1.out (fun _ _ h => h))))⟩⟩
      case round =>
        obtain ⟨j, bb, hj, rfl, rfl, HC⟩ := hrel
        obtain rfl : j = 0 := by simp at hj; omega
        have HP := As.mk HC.out.2
        cases bb
        · have e := HV1.out (fun h => by have := HC.out.1.2 h; cases this)
          subst e
          clear HC
          go_wp2
          go_ret
          exact ⟨rfl, HP.out⟩
        · have e := HV0.out (HC.out.1.1 rfl)
          subst e
          clear HC
          go_wp2
          go_ret
          exact ⟨rfl, HP.out⟩
set_option maxRecDepth 100000 in
set_option maxHeartbeats 4000000 in
theorem sc_mark_ne {w : World} {F : Nat → Prop} {A : Option Addr} {c : Nat} {k fr tt gf gt ins mk : Int} {sl : List Tok} (hr : tokR.row w F A sl) (hb : sl.length ≤ 2048) (hk : k = 2 ∨ k = 3) (hs : sl.length ≠ 0) :
    Calls Tryz.prog 115 #[(StepD.mk k fr tt gf gt ins sl mk).val A c] w fun r w' => r = .returned (.int .i64 (if (StepD.mk k fr tt gf gt ins sl mk).ok then 0 else 1)) ∧ Pure w w' := by
  have HR := As.mk hr
  have hL1 : (((listL mk 3).length : Int) == 1) = decide (markOne mk) := by
    rw [Bool.eq_iff_iff, beq_iff_eq, decide_eq_true_eq, ← list_one]
    omega
  have HBB := As.mk (show (∀ (B : Prop), (B ↔ False) → ((StepD.mk k fr tt gf gt ins sl mk).ok ↔ okTo B sl sl.length)) from fun B hB => by
    rw [okTo_all, hB]
    unfold StepD.ok StepD.kindOk
    constructor
    · rintro ⟨h1, h2, h3, h4, h5⟩
      refine ⟨?_, h5⟩
      dsimp only at h1 h2 h3 h4
      rcases h4 with h4 | h4 | h4
      · exact absurd h4.1 (by omega)
      · exact absurd h4.1 (by omega)
      · exact hs (by rw [h4.2.2.2.1]; rfl)
    · rintro ⟨h1, h5⟩
      exact h1.elim)
  obtain ⟨B, hB⟩ : ∃ B : Prop, B ↔ False := ⟨_, Iff.rfl⟩
  have HOK := As.mk (HBB.out B hB)
  clear hr HBB
  obtain ⟨V, hV⟩ : ∃ V : Int, V = (if (StepD.mk k fr tt gf gt ins sl mk).ok then 0 else 1) := ⟨_, rfl⟩
  rw [← hV]
  have HV0 := As.mk (show okTo B sl sl.length → V = 0 from fun h => by rw [hV, if_pos (HOK.out.2 h)])
  have HV1 := As.mk (show ¬ okTo B sl sl.length → V = 1 from fun h => by rw [hV, if_neg (fun h2 => h (HOK.out.1 h2))])
  clear hV HOK
  unfold StepD.val
  try simp only
  have f1 : (k == 1) = false := by rcases hk with rfl | rfl <;> rfl
  have f0 : (k == 0) = false := by rcases hk with rfl | rfl <;> rfl
  have f23 : (k == 2) = true ∨ ((k == 2) = false ∧ (k == 3) = true) := by rcases hk with rfl | rfl <;> simp
  have e9 : ((sl.length : Int) == 0) = false := by rw [beq_eq_false_iff_ne]; omega
  clear hk
  rcases f23 with f2 | ⟨f2, f3⟩
  all_goals skip
  all_goals cases hmo : decide (markOne mk)
  all_goals
    rw [hmo] at hL1
    have HMO := As.mk hmo
    have HBI := As.mk hB
    clear hmo hB
    go_enter Tryz.func115, Tryz.ntmps115
    go_wp2_with (go_at_call 152; refine (List_calls _ _).mono ?_; rintro e w1 ⟨⟨A1, c1, rfl⟩, hu⟩; have HU1 := As.mk hu; obtain ⟨oc, of⟩ := hu.olds; have hz1 := hu.size; clear hu)
    all_goals
      go_loopg [4, 123] sl.length (fun gg v4 iv wr => ∃ (j : Nat) (bb : Bool), j + gg = sl.length ∧ iv = .int .i64 j ∧ v4 = .bool bb ∧ As ((bb = true ↔ okTo B sl j) ∧ Pure w wr))
      case atStart => exact ⟨0, _, by omega, rfl, rfl, ⟨by
        rw [okTo_zero, HBI.out]
        have h9 := HMO.out
        simp only [decide_eq_true_eq, decide_eq_false_iff_not] at h9
        have hlen : 0 ≤ (sl.length : Int) := by omega
        simp only [Bool.false_eq_true, true_iff, false_iff, iff_true, iff_false, h9, true_and, and_true, false_and, and_false, not_false_eq_true, decide_eq_true_eq, beq_iff_eq]
        try omega, (by repeat (first | exact Upd.refl _ _ | exact HU1.out | (refine Upd.alloc ?_ _) | (refine Upd.setCell ?_ (by intro h; simp at h; try omega) _) | (refine Upd.drew ?_) | (refine Upd.drewN ?_ _) | (refine Upd.trans ?_ HU1.out (fun _ _ h => h))))⟩⟩
      case round =>
        obtain ⟨j, bb, hj, rfl, rfl, HC⟩ := hrel
        by_cases hlt : j < sl.length
        · obtain ⟨x, hx⟩ : ∃ x, sl[j]? = some x := ⟨_, List.getElem?_eq_getElem hlt⟩
          obtain ⟨b, o, rfl, hF, hbl, d0, d1, d2, d3⟩ := tok_at (Rp.row_pure HR.out HC.out.2) hx
          obtain ⟨g1, rfl⟩ : ∃ m, gk = m + 1 := ⟨gk - 1, by omega⟩
          have HS := As.mk (okTo_succ (B := B) hx)
          clear hx
          cases hrx : rightB x <;> cases bb
          all_goals
            have HRX := As.mk hrx
            clear hrx
            go_wp2_with (go_at_call 102; refine (flatRight_is HRX.out _).mono ?_; rintro e w2 ⟨rfl, hu2⟩; have HU2 := As.mk hu2; clear hu2)
            go_roundg g1
            case measure => omega
            case rel => exact ⟨j + 1, _, by omega, by go_num, rfl, ⟨by rw [HS.out, ← HC.out.1, HRX.out]; simp, by first | exact HC.out.2.alloc _ | exact (HC.out.2.alloc _).trans HU2.out (fun _ _ h => h)⟩⟩
        · obtain rfl : j = sl.length := by omega
          have HP := As.mk HC.out.2
          cases bb
          · have e := HV1.out (fun h => by have := HC.out.1.2 h; cases this)
            subst e
            clear HC
            go_wp2
            go_ret
            exact ⟨rfl, HP.out⟩
          · have e := HV0.out (HC.out.1.1 rfl)
            subst e
            clear HC
            go_wp2
            go_ret
            exact ⟨rfl, HP.out⟩
set_option maxRecDepth 100000 in
set_option maxHeartbeats 4000000 in
theorem sc_other {w : World} {F : Nat → Prop} {A : Option Addr} {c : Nat} {k fr tt gf gt ins mk : Int} {sl : List Tok} (hr : tokR.row w F A sl) (hb : sl.length ≤ 2048) (hk : k ≠ 0 ∧ k ≠ 1 ∧ k ≠ 2 ∧ k ≠ 3) :
    Calls Tryz.prog 115 #[(StepD.mk k fr tt gf gt ins sl mk).val A c] w fun r w' => r = .returned (.int .i64 (if (StepD.mk k fr tt gf gt ins sl mk).ok then 0 else 1)) ∧ Pure w w' := by
  have HR := As.mk hr
  have hL1 : (((listL mk 3).length : Int) == 1) = decide (markOne mk) := by
    rw [Bool.eq_iff_iff, beq_iff_eq, decide_eq_true_eq, ← list_one]
    omega
  have HBB := As.mk (show (∀ (B : Prop), (B ↔ False) → ((StepD.mk k fr tt gf gt ins sl mk).ok ↔ okTo B sl sl.length)) from fun B hB => by
    rw [okTo_all, hB]
    unfold StepD.ok StepD.kindOk
    constructor
    · rintro ⟨h1, h2, h3, h4, h5⟩
      refine ⟨?_, h5⟩
      dsimp only at h1 h2 h3 h4
      rcases h4 with h4 | h4 | h4
      · exact absurd h4.1 (by omega)
      · exact absurd h4.1 (by omega)
      · exact absurd h4.1 (by omega)
    · rintro ⟨h1, h5⟩
      exact h1.elim)
  obtain ⟨B, hB⟩ : ∃ B : Prop, B ↔ False := ⟨_, Iff.rfl⟩
  have HOK := As.mk (HBB.out B hB)
  clear hr HBB
  obtain ⟨V, hV⟩ : ∃ V : Int, V = (if (StepD.mk k fr tt gf gt ins sl mk).ok then 0 else 1) := ⟨_, rfl⟩
  rw [← hV]
  have HV0 := As.mk (show okTo B sl sl.length → V = 0 from fun h => by rw [hV, if_pos (HOK.out.2 h)])
  have HV1 := As.mk (show ¬ okTo B sl sl.length → V = 1 from fun h => by rw [hV, if_neg (fun h2 => h (HOK.out.1 h2))])
  clear hV HOK
  unfold StepD.val
  try simp only
  have f1 : (k == 1) = false := by simpa using hk.2.1
  have f0 : (k == 0) = false := by simpa using hk.1
  have f2 : (k == 2) = false := by simpa using hk.2.2.1
  have f3 : (k == 3) = false := by simpa using hk.2.2.2
  clear hk
  all_goals cases hmo : decide (markOne mk)
  all_goals
    rw [hmo] at hL1
    have HMO := As.mk hmo
    have HBI := As.mk hB
    clear hmo hB
    go_enter Tryz.func115, Tryz.ntmps115
    go_wp2_with (go_at_call 152; refine (List_calls _ _).mono ?_; rintro e w1 ⟨⟨A1, c1, rfl⟩, hu⟩; have HU1 := As.mk hu; obtain ⟨oc, of⟩ := hu.olds; have hz1 := hu.size; clear hu)
    all_goals
      go_loopg [4, 123] sl.length (fun gg v4 iv wr => ∃ (j : Nat) (bb : Bool), j + gg = sl.length ∧ iv = .int .i64 j ∧ v4 = .bool bb ∧ As ((bb = true ↔ okTo B sl j) ∧ Pure w wr))
      case atStart => exact ⟨0, _, by omega, rfl, rfl, ⟨by
        rw [okTo_zero, HBI.out]
        have h9 := HMO.out
        simp only [decide_eq_true_eq, decide_eq_false_iff_not] at h9
        have hlen : 0 ≤ (sl.length : Int) := by omega
        simp only [Bool.false_eq_true, true_iff, false_iff, iff_true, iff_false, h9, true_and, and_true, false_and, and_false, not_false_eq_true, decide_eq_true_eq, beq_iff_eq]
        try omega, (by repeat (first | exact Upd.refl _ _ | exact HU1.out | (refine Upd.alloc ?_ _) | (refine Upd.setCell ?_ (by intro h; simp at h; try omega) _) | (refine Upd.drew ?_) | (refine Upd.drewN ?_ _) | (refine Upd.trans ?_ HU1.out (fun _ _ h => h))))⟩⟩
      case round =>
        obtain ⟨j, bb, hj, rfl, rfl, HC⟩ := hrel
        by_cases hlt : j < sl.length
        · obtain ⟨x, hx⟩ : ∃ x, sl[j]? = some x := ⟨_, List.getElem?_eq_getElem hlt⟩
          obtain ⟨b, o, rfl, hF, hbl, d0, d1, d2, d3⟩ := tok_at (Rp.row_pure HR.out HC.out.2) hx
          obtain ⟨g1, rfl⟩ : ∃ m, gk = m + 1 := ⟨gk - 1, by omega⟩
          have HS := As.mk (okTo_succ (B := B) hx)
          clear hx
          cases hrx : rightB x <;> cases bb
          all_goals
            have HRX := As.mk hrx
            clear hrx
            go_wp2_with (go_at_call 102; refine (flatRight_is HRX.out _).mono ?_; rintro e w2 ⟨rfl, hu2⟩; have HU2 := As.mk hu2; clear hu2)
            go_roundg g1
            case measure => omega
            case rel => exact ⟨j + 1, _, by omega, by go_num, rfl, ⟨by rw [HS.out, ← HC.out.1, HRX.out]; simp, by first | exact HC.out.2.alloc _ | exact (HC.out.2.alloc _).trans HU2.out (fun _ _ h => h)⟩⟩
        · obtain rfl : j = sl.length := by omega
          have HP := As.mk HC.out.2
          cases bb
          · have e := HV1.out (fun h => by have := HC.out.1.2 h; cases this)
            subst e
            clear HC
            go_wp2
            go_ret
            exact ⟨rfl, HP.out⟩
          · have e := HV0.out (HC.out.1.1 rfl)
            subst e
            clear HC
            go_wp2
            go_ret
            exact ⟨rfl, HP.out⟩
end Go.Proofs.YtofjodppljnlaaaGreatDoor
namespace Go.Proofs.YtofjodppljnlaaaGreatDoor
open Go Go.RowKit Go.Extern.Stop Go.Stop Go.Extern
set_option linter.unusedVariables false
set_option linter.unusedSimpArgs false
theorem errno_info : (Tryz.prog.info? 28).map (·.comparable) = some true := by kernel_rfl
theorem in_errnos (d : Nat) (w : World) (a b : Int) : (Op.equalIn (d + 2) 187 (.iface 28 (.int .i64 a)) (.iface 28 (.int .i64 b))).run Tryz.prog w = .ok (a == b) w := by
  obtain ⟨i, hi, hc⟩ := Option.map_eq_some_iff.1 errno_info
  simp [Op.equalIn, run_underlying Tryz.underlying187, run_underlying Tryz.underlying28, typeInfo, hi, hc]
/-- Two interface values of one integer type are the same just if their numbers are. -/
theorem eql_errnos (w : World) (a b : Int) : (binOp .eql 187 (.iface 28 (.int .i64 a)) (.iface 28 (.int .i64 b))).run Tryz.prog w = .ok (.bool (a == b)) w := by
  simp only [binOp]
  simp [Op.equal, Op.maxDepth, in_errnos 9998 w a b]
theorem isTypeOf (v : Value) (w : World) : (Extern.ReflectliteType.typeOf #[.iface 28 v]).run Tryz.prog w = .ok (.iface 278 (.agg #[typeHandle Tryz.prog 28])) w := by kernel_rfl
theorem isComparable (w : World) : ((Extern.ReflectliteType.method fun t => do Rtype.noPackHeld "Comparable" t; (fun a => Value.bool a.comparable) <$> typeInfo t) #[.agg #[typeHandle Tryz.prog 28]]).run Tryz.prog w = .ok (.bool true) w := by kernel_rfl
theorem isMethodComparable (v : Value) (w : World) : (Go.method 425 278 v "Comparable").run Tryz.prog w = .ok (256, v) w := by kernel_rfl
theorem noIsE (v : Value) (xT : TypeId) (w : World) : (Instr.typeAssert (.iface 28 v) xT 291 true).run Tryz.prog w = .ok (.tuple #[.nilIface, .bool false]) w := run_typeAssert_lacksB Tryz.underlying291 (by kernel_rfl) (by kernel_rfl) v xT w
theorem noUnwrapE (v : Value) (xT : TypeId) (w : World) : (Instr.typeAssert (.iface 28 v) xT 285 true).run Tryz.prog w = .ok (.tuple #[.nilIface, .bool false]) w := run_typeAssert_lacksB Tryz.underlying285 (by kernel_rfl) (by kernel_rfl) v xT w
theorem noUnwrapsE (v : Value) (xT : TypeId) (w : World) : (Instr.typeAssert (.iface 28 v) xT 286 true).run Tryz.prog w = .ok (.tuple #[.nilIface, .bool false]) w := run_typeAssert_lacksB Tryz.underlying286 (by kernel_rfl) (by kernel_rfl) v xT w
theorem noIsR (v : Value) (xT : TypeId) (w : World) : (Instr.typeAssert (.iface 237 v) xT 291 true).run Tryz.prog w = .ok (.tuple #[.nilIface, .bool false]) w := run_typeAssert_lacksB Tryz.underlying291 (by kernel_rfl) (by kernel_rfl) v xT w
theorem hasUnwrapR (v : Value) (xT : TypeId) (w : World) : (Instr.typeAssert (.iface 237 v) xT 285 true).run Tryz.prog w = .ok (.tuple #[.iface 237 v, .bool true]) w := run_typeAssert_hasB Tryz.underlying285 (by kernel_rfl) v xT w
theorem methodUnwrapR (v : Value) (w : World) : (Go.method 425 237 v "Unwrap").run Tryz.prog w = .ok (250, v) w := by kernel_rfl
theorem unwrap_calls (why : Int) (w : World) : Calls Tryz.prog 250 #[.agg #[.int .i64 why]] w fun r w' => r = .returned (.iface 28 (.int .i64 why)) ∧ Pure w w' := by
  go_enter Tryz.func250, Tryz.ntmps250
  go_wp2
  go_ret
  exact ⟨rfl, by first | exact Upd.refl _ _ | exact Upd.alloc1 _ _ _⟩
set_option maxRecDepth 100000 in
set_option maxHeartbeats 4000000 in
theorem is_refused (why k : Int) (w : World) : Calls Tryz.prog 203 #[.iface 237 (.agg #[.int .i64 why]), .iface 28 (.int .i64 k), .bool true] w fun r w' => r = .returned (.bool (why == k)) ∧ Pure w w' := by
  have nE := noIsE
  have uE := noUnwrapE
  have vE := noUnwrapsE
  have nR := noIsR
  have uR := hasUnwrapR
  have mU := methodUnwrapR
  have heq := eql_errnos
  have hty := fun w => run_eql_iface_types (P := Tryz.prog) 237 28 (.agg #[.int .i64 why]) (.int .i64 k) Tryz.underlying187 (by decide) w
  cases hb : (why == k)
  all_goals
    go_enter Tryz.func203, Tryz.ntmps203
    go_wp2
    refine wp_loop_rounds 2 ?_
    rw [rounds_succ]
    go_wp2_with (go_at_call 250; refine (unwrap_calls why _).mono ?_; rintro e w1 ⟨rfl, hu⟩; have HU1 := As.mk hu; clear hu)
    rw [rounds_succ]
    go_wp2
    go_ret
    exact ⟨rfl, HU1.out⟩
set_option maxRecDepth 100000 in
set_option maxHeartbeats 4000000 in
theorem Is_refused (why k : Int) (w : World) : Calls Tryz.prog 175 #[.iface 237 (.agg #[.int .i64 why]), .iface 28 (.int .i64 k)] w fun r w' => r = .returned (.bool (why == k)) ∧ Pure w w' := by
  have hT := @run_callFunc_extern Tryz.prog 202 _ Extern.ReflectliteType.typeOf Tryz.func202 (by kernel_rfl) (by kernel_rfl) (by kernel_rfl) (by kernel_rfl)
  have hC := @run_callFunc_extern Tryz.prog 256 _ (Extern.ReflectliteType.method fun t => do Rtype.noPackHeld "Comparable" t; pure (.bool (← typeInfo t).comparable)) Tryz.func256 (by kernel_rfl) (by kernel_rfl) (by kernel_rfl) (by kernel_rfl)
  have tT := isTypeOf
  have cT := isComparable
  have mR := isMethodComparable
  have hn1 := fun w => run_eql_iface_nil_left (P := Tryz.prog) w 237 (.agg #[.int .i64 why]) Tryz.underlying187
  have HI := As.mk (is_refused why k)
  go_enter Tryz.func175, Tryz.ntmps175
  go_wp2_with (go_at_call 203; refine (HI.out _).mono ?_; rintro e w1 ⟨rfl, hu⟩; have HU1 := As.mk hu; clear hu)
  go_ret
  exact ⟨rfl, HU1.out⟩
set_option maxRecDepth 100000 in
set_option maxHeartbeats 4000000 in
theorem number_calls {why : Int} (h : 1 ≤ why ∧ why ≤ 12) (w : World) : Calls Tryz.prog 144 #[.iface 237 (.agg #[.int .i64 why])] w fun r w' => r = .returned (.int .i64 why) ∧ Pure w w' := by
  have HI := As.mk (fun k w => Is_refused why k w)
  have HW := As.mk h
  have h1 := h.1
  have h2 := h.2
  clear h
  go_enter Tryz.func144, Tryz.ntmps144
  go_wp2
  go_loopg [3] 12 (fun gg kv wr => ∃ k : Nat, k + gg = 13 ∧ 1 ≤ k ∧ kv = .int .i64 k ∧ (k : Int) ≤ why ∧ As (Pure w wr))
  case atStart => exact ⟨1, by omega, by omega, rfl, by omega, ⟨Upd.refl _ _⟩⟩
  case round =>
    obtain ⟨k, hk, hk1, rfl, hle, HP⟩ := hrel
    by_cases he : (k : Int) = why
    · have hb : (why == (k : Int)) = true := by simpa using he.symm
      have h12 : (k : Int) ≤ 12 := by omega
      have HI2 := As.mk (HI.out (k : Int))
      rw [hb] at HI2
      have HE := As.mk he
      clear he hb
      go_wp2_with (go_at_call 175; refine (HI2.out _).mono ?_; rintro e w1 ⟨rfl, hu⟩; have HU1 := As.mk hu; clear hu)
      go_ret
      exact ⟨by first | exact rfl | (rw [HE.out]; exact rfl), HP.out.trans HU1.out (fun _ _ h => h)⟩
    · have hb : (why == (k : Int)) = false := by simpa using fun e : why = (k : Int) => he e.symm
      have h12 : (k : Int) ≤ 12 := by omega
      have hlt : (k : Int) < why := by omega
      have HI2 := As.mk (HI.out (k : Int))
      rw [hb] at HI2
      obtain ⟨g1, rfl⟩ : ∃ m, gk = m + 1 := ⟨gk - 1, by omega⟩
      clear he hb
      go_wp2_with (go_at_call 175; refine (HI2.out _).mono ?_; rintro e w1 ⟨rfl, hu⟩; have HU1 := As.mk hu; clear hu)
      go_roundg g1
      case measure => omega
      case rel => exact ⟨k + 1, by omega, by omega, by go_num, by omega, ⟨HP.out.trans HU1.out (fun _ _ h => h)⟩⟩
end Go.Proofs.YtofjodppljnlaaaGreatDoor
namespace Go.Proofs.YtofjodppljnlaaaGreatDoor
open Go.RowKit
set_option linter.unusedVariables false
set_option linter.unusedSimpArgs false
set_option maxRecDepth 100000 in
set_option maxHeartbeats 4000000 in
theorem sc_long {w : World} {A : Option Addr} {c : Nat} {s : StepD} (h : s.sl.length > 2048) (hb : s.sl.length ≤ 1048576 * 4) : Calls Tryz.prog 115 #[s.val A c] w fun r w' => r = .returned (.int .i64 2) ∧ Pure w w' := by
  have h1 : decide ((s.sl.length : Int) > 2048) = true := by simp; omega
  have h2 : decide ((2048 : Int) < (s.sl.length : Int)) = true := by simp; omega
  unfold StepD.val
  clear h
  go_enter Tryz.func115, Tryz.ntmps115
  go_wp2
  go_ret
  exact ⟨rfl, Upd.alloc1 _ _ _⟩
theorem stepCheck_calls {w : World} {F : Nat → Prop} {A : Option Addr} {c : Nat} {s : StepD} (hr : tokR.row w F A s.sl) (hb : s.sl.length ≤ 1048576 * 4) : Calls Tryz.prog 115 #[s.val A c] w fun r w' => r = .returned (.int .i64 (stepCheck s)) ∧ Pure w w' := by
  by_cases h : s.sl.length > 2048
  · have e : stepCheck s = 2 := by unfold stepCheck; rw [if_pos h]
    rw [e]
    exact sc_long h hb
  · have e : stepCheck s = if s.ok then 0 else 1 := by unfold stepCheck; rw [if_neg h]
    rw [e]
    obtain ⟨k, fr, tt, gf, gt, ins, sl, mk⟩ := s
    simp only at hr hb h
    by_cases h1 : k = 1
    · subst h1
      exact sc_around hr (by omega)
    · by_cases h0 : k = 0
      · subst h0
        exact sc_replace hr (by omega)
      · by_cases hk : k = 2 ∨ k = 3
        · by_cases hl : sl.length = 0
          · have hn : sl = [] := List.eq_nil_of_length_eq_zero hl
            subst hn
            exact sc_mark_nil (F := F) hk
          · exact sc_mark_ne hr (by omega) hk hl
        · exact sc_other hr (by omega) (by omega)
theorem cells8 {w : World} {k : Nat} {x0 x1 x2 x3 x4 x5 x6 x7 : Value} {t : TypeId} (h : w.heap[k]? = some (.cells #[x0, x1, x2, x3, x4, x5, x6, x7] t (0, 0))) :
    w.cell? ⟨k, 0, none⟩ = some x0 ∧ w.cell? ⟨k, 1, none⟩ = some x1 ∧ w.cell? ⟨k, 2, none⟩ = some x2 ∧ w.cell? ⟨k, 3, none⟩ = some x3 ∧ w.cell? ⟨k, 4, none⟩ = some x4 ∧ w.cell? ⟨k, 5, none⟩ = some x5 ∧ w.cell? ⟨k, 6, none⟩ = some x6 ∧ w.cell? ⟨k, 7, none⟩ = some x7 := by
  refine ⟨?_, ?_, ?_, ?_, ?_, ?_, ?_, ?_⟩ <;> simp [World.cell?, h]
/-- step.do does what it should. -/
def DoC (w : World) (A : Option Addr) (c : Nat) (l : List Tok) (B : Option Addr) (cb : Nat) (s : StepD) : Prop :=
  ∀ W, Pure w W → Calls Tryz.prog 116 #[.slice A l.length c, s.val B cb] W (Fresh W (stepDo l s))
/-- What step.Apply, remap.Do answer. -/
def DocR (w : World) (x : List Tok) (e : Int) (r : Ending) (w' : World) : Prop :=
  ((e = 0 ∧ ∃ B, r = .returned (.tuple #[.slice (some B) x.length x.length, .int .i64 0]) ∧ tokR.row w' (fun k => w.heap.size ≤ k) (some B) x) ∨ (e ≠ 0 ∧ r = .returned (.tuple #[.slice none 0 0, .int .i64 e]))) ∧ Pure w w'
theorem stepDo_len {l : List Tok} {s : StepD} (h : stepCheck s = 0) (ht : s.tt ≤ l.length) : (stepDo l s).length ≤ 2 * l.length + s.sl.length + 10 := by
  obtain ⟨_, h1, h2, h3, h4, _⟩ := step_check_zero.1 h
  unfold stepDo
  split
  · simp only [List.length_append, List.length_take, List.length_drop]; omega
  · split
    · simp only [List.length_append, List.length_take, List.length_drop]; omega
    · simp only [List.length_append, List.length_take, List.length_drop, List.length_map]; omega
theorem flat_len {l : List Tok} (h : (flatCheck l).2 = 0) : l.length ≤ 2048 := by
  unfold flatCheck at h
  split at h
  · simp at h
  · omega
set_option maxRecDepth 100000 in
set_option maxHeartbeats 4000000 in
theorem Apply_calls {w : World} {F G : Nat → Prop} {A B : Option Addr} {c cb : Nat} {l : List Tok} {s : StepD} (hr : tokR.row w F A l) (hs : tokR.row w G B s.sl) (hb : l.length ≤ 1048576 * 4) (hsb : s.sl.length ≤ 1048576 * 4) (hd : (flatCheck l).2 = 0 → stepCheck s = 0 → s.tt ≤ l.length → DoC w A c l B cb s) :
    Calls Tryz.prog 57 #[.slice A l.length c, s.val B cb] w (DocR w (stepDo l s) (stepErr l s)) := by
  have HF := As.mk (fun W (hu : Pure w W) => Check_calls (c := c) (Rp.row_pure hr hu) hb)
  have HC := As.mk (fun W (hu : Pure w W) => stepCheck_calls (c := cb) (Rp.row_pure hs hu) hsb)
  have HE := As.mk (show stepErr l s = if (flatCheck l).2 ≠ 0 then (flatCheck l).2 else if stepCheck s ≠ 0 then stepCheck s else if s.tt > l.length then 1 else if (flatCheck (stepDo l s)).2 = 3 then 4 else (flatCheck (stepDo l s)).2 from rfl)
  have HD := As.mk hd
  have HFO := As.mk (fun (W : World) (Bo : Option Addr) (G2 : Nat → Prop) (h1 : stepCheck s = 0) (h2 : s.tt ≤ l.length) (h0 : l.length ≤ 2048) (hrow : tokR.row W G2 Bo (stepDo l s)) => Check_calls (c := (stepDo l s).length) hrow (by have := stepDo_len h1 h2; have := (step_check_zero.1 h1).1; omega))
  have HSZ := As.mk hb
  clear hr hs hd
  unfold StepD.val DoC at *
  by_cases h0 : (flatCheck l).2 = 0
  · have hlen := flat_len h0
    have HE2 := As.mk (show stepErr l s = if stepCheck s ≠ 0 then stepCheck s else if s.tt > l.length then 1 else if (flatCheck (stepDo l s)).2 = 3 then 4 else (flatCheck (stepDo l s)).2 by rw [HE.out, if_neg (by omega)])
    rw [h0] at HF
    have HD2 := As.mk (HD.out h0)
    clear HE HD h0
    by_cases h1 : stepCheck s = 0
    · have HE3 := As.mk (show stepErr l s = if s.tt > l.length then 1 else if (flatCheck (stepDo l s)).2 = 3 then 4 else (flatCheck (stepDo l s)).2 by rw [HE2.out, if_neg (by omega)])
      rw [h1] at HC
      have HD3 := As.mk (HD2.out h1)
      have HFO2 := As.mk (fun W Bo G2 => HFO.out W Bo G2 h1)
      clear HE2 HD2 h1 HFO
      by_cases h2 : s.tt > l.length
      · have HE4 := As.mk (show stepErr l s = 1 by rw [HE3.out, if_pos h2])
        have t1 : decide (s.tt > (l.length : Int)) = true := by simpa using h2
        have t2 : decide ((l.length : Int) < s.tt) = true := by simpa using h2
        clear h2 HE3 HD3 HFO2
        go_enter Tryz.func57, Tryz.ntmps57
        go_wp2_with (first | (go_at_call 116; refine (HDO.out w2 HU2.out).mono ?_; rintro r w3 ⟨⟨B3, rfl, hrow⟩, hu⟩; have HR3 := As.mk hrow; have HU3a := As.mk hu; have HU3 := As.mk (HU2.out.trans hu (fun _ _ h => h)); clear hu hrow; apply As.out) | (go_at_call 115; refine (HC.out w1 HU1.out).mono ?_; rintro r w2 ⟨rfl, hu⟩; have hb2 := (hu.block _ (lt_of_block HB1.out) (fun h => h)).trans HB1.out; obtain ⟨r0, r1, r2, r3, r4, r5, r6, r7⟩ := cells8 hb2; have HU2 := As.mk (HU1.out.trans hu (fun _ _ h => h)); clear hu hb2) | (go_at_call 64; refine (HF.out _ (Upd.alloc1 _ _ _)).mono ?_; rintro r w1 ⟨rfl, hu⟩; have hb1 := (hu.block w.heap.size (by simp) (fun h => h)).trans (heap_alloc_new w _); obtain ⟨q0, q1, q2, q3, q4, q5, q6, q7⟩ := cells8 hb1; have HB1 := As.mk hb1; have HU1 := As.mk (Upd.trans (Upd.alloc1 (fun _ => False) _ _) hu (fun _ _ h => h)); clear hu hb1))
        go_ret2
        rw [HE4.out]
        exact ⟨.inr ⟨by decide, rfl⟩, HU2.out⟩
      · have HE4 := As.mk (show stepErr l s = if (flatCheck (stepDo l s)).2 = 3 then 4 else (flatCheck (stepDo l s)).2 by rw [HE3.out, if_neg h2])
        have t1 : decide (s.tt > (l.length : Int)) = false := by simpa using h2
        have t2 : decide ((l.length : Int) < s.tt) = false := by simpa using h2
        have HDO := As.mk (HD3.out (by omega))
        have HFO3 := As.mk (fun W Bo G2 => HFO2.out W Bo G2 (by omega) hlen)
        clear h2 HE3 HD3 HFO2
        generalize hxo : stepDo l s = xo at *
        have fin : ∀ e : Int, (flatCheck xo).2 = e → Calls Tryz.prog 57 #[.slice A l.length c, .agg #[.int .i64 s.k, .int .i64 s.fr, .int .i64 s.tt, .int .i64 s.gf, .int .i64 s.gt, .int .i64 s.ins, .slice B s.sl.length cb, .int .i64 s.mark]] w (DocR w xo (stepErr l s)) := by
          intro e he
          rw [he] at HE4 HFO3
          clear he hxo
          by_cases e0 : e = 0
          · subst e0
            have HE5 := As.mk (show stepErr l s = 0 from HE4.out)
            go_enter Tryz.func57, Tryz.ntmps57
            go_wp2_with (first | (go_at_call 116; refine (HDO.out w2 HU2.out).mono ?_; rintro r w3 ⟨⟨B3, rfl, hrow⟩, hu⟩; have HR3 := As.mk hrow; have HU3a := As.mk hu; have HU3 := As.mk (HU2.out.trans hu (fun _ _ h => h)); clear hu hrow; apply As.out) | (go_at_call 115; refine (HC.out w1 HU1.out).mono ?_; rintro r w2 ⟨rfl, hu⟩; have hb2 := (hu.block _ (lt_of_block HB1.out) (fun h => h)).trans HB1.out; obtain ⟨r0, r1, r2, r3, r4, r5, r6, r7⟩ := cells8 hb2; have HU2 := As.mk (HU1.out.trans hu (fun _ _ h => h)); clear hu hb2) | (go_at_call 64; refine (HF.out _ (Upd.alloc1 _ _ _)).mono ?_; rintro r w1 ⟨rfl, hu⟩; have hb1 := (hu.block w.heap.size (by simp) (fun h => h)).trans (heap_alloc_new w _); obtain ⟨q0, q1, q2, q3, q4, q5, q6, q7⟩ := cells8 hb1; have HB1 := As.mk hb1; have HU1 := As.mk (Upd.trans (Upd.alloc1 (fun _ => False) _ _) hu (fun _ _ h => h)); clear hu hb1))
            refine ⟨?_⟩
            go_wp2_with (go_at_call 64; refine (HFO3.out w3 _ _ HR3.out).mono ?_; rintro r w4 ⟨rfl, hu⟩; have HU4 := As.mk hu; clear hu)
            go_ret2
            rw [HE5.out]
            exact ⟨.inl ⟨rfl, B3, rfl, Rp.row_fp (Rp.row_pure HR3.out HU4.out) (fun q hq => Nat.le_trans HU2.out.size hq)⟩, HU3.out.trans HU4.out (fun _ _ h => h)⟩
          · by_cases e3 : e = 3
            · subst e3
              have HE5 := As.mk (show stepErr l s = 4 from HE4.out)
              go_enter Tryz.func57, Tryz.ntmps57
              go_wp2_with (first | (go_at_call 116; refine (HDO.out w2 HU2.out).mono ?_; rintro r w3 ⟨⟨B3, rfl, hrow⟩, hu⟩; have HR3 := As.mk hrow; have HU3a := As.mk hu; have HU3 := As.mk (HU2.out.trans hu (fun _ _ h => h)); clear hu hrow; apply As.out) | (go_at_call 115; refine (HC.out w1 HU1.out).mono ?_; rintro r w2 ⟨rfl, hu⟩; have hb2 := (hu.block _ (lt_of_block HB1.out) (fun h => h)).trans HB1.out; obtain ⟨r0, r1, r2, r3, r4, r5, r6, r7⟩ := cells8 hb2; have HU2 := As.mk (HU1.out.trans hu (fun _ _ h => h)); clear hu hb2) | (go_at_call 64; refine (HF.out _ (Upd.alloc1 _ _ _)).mono ?_; rintro r w1 ⟨rfl, hu⟩; have hb1 := (hu.block w.heap.size (by simp) (fun h => h)).trans (heap_alloc_new w _); obtain ⟨q0, q1, q2, q3, q4, q5, q6, q7⟩ := cells8 hb1; have HB1 := As.mk hb1; have HU1 := As.mk (Upd.trans (Upd.alloc1 (fun _ => False) _ _) hu (fun _ _ h => h)); clear hu hb1))
              refine ⟨?_⟩
              go_wp2_with (go_at_call 64; refine (HFO3.out w3 _ _ HR3.out).mono ?_; rintro r w4 ⟨rfl, hu⟩; have HU4 := As.mk hu; clear hu)
              go_ret2
              rw [HE5.out]
              exact ⟨.inr ⟨by decide, rfl⟩, HU3.out.trans HU4.out (fun _ _ h => h)⟩
            · have HE5 := As.mk (show stepErr l s = e from HE4.out.trans (if_neg e3))
              have HE0 := As.mk e0
              have f0 : (e == 0) = false := by simpa using e0
              have f3 : (e == 3) = false := by simpa using e3
              clear e0 e3
              go_enter Tryz.func57, Tryz.ntmps57
              go_wp2_with (first | (go_at_call 116; refine (HDO.out w2 HU2.out).mono ?_; rintro r w3 ⟨⟨B3, rfl, hrow⟩, hu⟩; have HR3 := As.mk hrow; have HU3a := As.mk hu; have HU3 := As.mk (HU2.out.trans hu (fun _ _ h => h)); clear hu hrow; apply As.out) | (go_at_call 115; refine (HC.out w1 HU1.out).mono ?_; rintro r w2 ⟨rfl, hu⟩; have hb2 := (hu.block _ (lt_of_block HB1.out) (fun h => h)).trans HB1.out; obtain ⟨r0, r1, r2, r3, r4, r5, r6, r7⟩ := cells8 hb2; have HU2 := As.mk (HU1.out.trans hu (fun _ _ h => h)); clear hu hb2) | (go_at_call 64; refine (HF.out _ (Upd.alloc1 _ _ _)).mono ?_; rintro r w1 ⟨rfl, hu⟩; have hb1 := (hu.block w.heap.size (by simp) (fun h => h)).trans (heap_alloc_new w _); obtain ⟨q0, q1, q2, q3, q4, q5, q6, q7⟩ := cells8 hb1; have HB1 := As.mk hb1; have HU1 := As.mk (Upd.trans (Upd.alloc1 (fun _ => False) _ _) hu (fun _ _ h => h)); clear hu hb1))
              refine ⟨?_⟩
              go_wp2_with (go_at_call 64; refine (HFO3.out w3 _ _ HR3.out).mono ?_; rintro r w4 ⟨rfl, hu⟩; have HU4 := As.mk hu; clear hu)
              go_ret2
              rw [HE5.out]
              exact ⟨.inr ⟨HE0.out, rfl⟩, HU3.out.trans HU4.out (fun _ _ h => h)⟩
        exact fin _ rfl
    · have HE3 := As.mk (show stepErr l s = stepCheck s by rw [HE2.out, if_pos h1])
      have HE0 := As.mk h1
      have f0 : (stepCheck s != 0) = true := by simpa using h1
      generalize stepCheck s = e at *
      clear HE2 HD2 h1 HFO
      go_enter Tryz.func57, Tryz.ntmps57
      go_wp2_with (first | (go_at_call 116; refine (HDO.out w2 HU2.out).mono ?_; rintro r w3 ⟨⟨B3, rfl, hrow⟩, hu⟩; have HR3 := As.mk hrow; have HU3a := As.mk hu; have HU3 := As.mk (HU2.out.trans hu (fun _ _ h => h)); clear hu hrow; apply As.out) | (go_at_call 115; refine (HC.out w1 HU1.out).mono ?_; rintro r w2 ⟨rfl, hu⟩; have hb2 := (hu.block _ (lt_of_block HB1.out) (fun h => h)).trans HB1.out; obtain ⟨r0, r1, r2, r3, r4, r5, r6, r7⟩ := cells8 hb2; have HU2 := As.mk (HU1.out.trans hu (fun _ _ h => h)); clear hu hb2) | (go_at_call 64; refine (HF.out _ (Upd.alloc1 _ _ _)).mono ?_; rintro r w1 ⟨rfl, hu⟩; have hb1 := (hu.block w.heap.size (by simp) (fun h => h)).trans (heap_alloc_new w _); obtain ⟨q0, q1, q2, q3, q4, q5, q6, q7⟩ := cells8 hb1; have HB1 := As.mk hb1; have HU1 := As.mk (Upd.trans (Upd.alloc1 (fun _ => False) _ _) hu (fun _ _ h => h)); clear hu hb1))
      go_ret2
      rw [HE3.out]
      exact ⟨.inr ⟨HE0.out, rfl⟩, HU2.out⟩
  · have HE3 := As.mk (show stepErr l s = (flatCheck l).2 by rw [HE.out, if_pos h0])
    have HE0 := As.mk h0
    have f0 : ((flatCheck l).2 != 0) = true := by simpa using h0
    generalize (flatCheck l).2 = e at *
    clear HE HD h0 HFO
    go_enter Tryz.func57, Tryz.ntmps57
    go_wp2_with (go_at_call 64; refine (HF.out _ (Upd.alloc1 _ _ _)).mono ?_; rintro r w1 ⟨rfl, hu⟩; have HU1 := As.mk (Upd.trans (Upd.alloc1 (fun _ => False) _ _) hu (fun _ _ h => h)); clear hu)
    go_ret2
    rw [HE3.out]
    exact ⟨.inr ⟨HE0.out, rfl⟩, HU1.out⟩
end Go.Proofs.YtofjodppljnlaaaGreatDoor
namespace Go.Proofs.YtofjodppljnlaaaGreatDoor
open Go.RowKit
set_option linter.unusedVariables false
set_option linter.unusedSimpArgs false
theorem fc_codes : ∀ (l : List Tok) (i n : Nat), (fcGo i n l).2 = 0 ∨ (fcGo i n l).2 = 3 ∨ (fcGo i n l).2 = 4 ∨ (fcGo i n l).2 = 8 := by
  intro l
  induction l with
  | nil =>
    intro i n
    unfold fcGo
    simp only
    split <;> simp
  | cons x r ih =>
    intro i n
    unfold fcGo
    split
    · simp
    · split
      · split
        · simp
        · exact ih _ _
      · split
        · exact ih _ _
        · exact ih _ _
theorem flat_codes (l : List Tok) : (flatCheck l).2 = 0 ∨ (1 ≤ (flatCheck l).2 ∧ (flatCheck l).2 ≤ 12) := by
  unfold flatCheck
  split
  · simp
  · rcases fc_codes l 0 0 with h | h | h | h <;> rw [h] <;> simp
theorem ck_codes (rs : List (Spec × Ex)) (gs : List Grp) : ∀ (l : List Tok) (k : Nat) (top : Lev) (below : List Lev), (ckGo rs gs k top below l).2 = 0 ∨ (ckGo rs gs k top below l).2 = 9 := by
  intro l
  induction l with
  | nil =>
    intro k top below
    rw [ck_end]
    simp only
    split <;> simp
  | cons x r ih =>
    intro k top below
    by_cases h2 : x.k = 2
    · cases ha : regAccepts top.1.2 gs top.2
      · rw [ck_noclose h2 ha]; simp
      · cases below with
        | nil =>
          rw [ckGo.eq_def]
          simp only [if_pos h2, ha, if_true]
          simp
        | cons p q => rw [ck_close h2 ha]; exact ih _ _ _
    · cases hs : stepOk rs gs top x
      · rw [ck_bad h2 hs]; simp
      · by_cases h1 : x.k = 1
        · rw [ck_open h1 hs]; exact ih _ _ _
        · rw [ck_leaf h2 h1 hs]; exact ih _ _ _
theorem house_codes (l : List Tok) : (houseCheck l).2 = 0 ∨ (1 ≤ (houseCheck l).2 ∧ (houseCheck l).2 ≤ 12) := by
  unfold houseCheck schemaCheck
  split
  · rcases ck_codes houseRules houseGroups l 0 (ruleOf houseRules 0, []) [] with h | h <;> rw [h] <;> simp
  · exact flat_codes l
theorem step_codes (l : List Tok) (s : StepD) : stepErr l s = 0 ∨ (1 ≤ stepErr l s ∧ stepErr l s ≤ 12) := by
  unfold stepErr
  split
  · have := flat_codes l
    omega
  · split
    · unfold stepCheck
      split
      · simp
      · split <;> simp
    · split
      · simp
      · split
        · simp
        · exact flat_codes _
theorem remap_codes (l : List Tok) (s : StepD) : remapErr l s = 0 ∨ (1 ≤ remapErr l s ∧ remapErr l s ≤ 12) := by
  unfold remapErr
  split
  · have := step_codes l s
    omega
  · exact house_codes _
theorem DocR.zero {w : World} {x : List Tok} {r : Ending} {w' : World} (h : DocR w x 0 r w') : (∃ B, r = .returned (.tuple #[.slice (some B) x.length x.length, .int .i64 0]) ∧ tokR.row w' (fun k => w.heap.size ≤ k) (some B) x) ∧ Pure w w' := by
  obtain ⟨⟨_, B, h1, h2⟩ | ⟨h, _⟩, hu⟩ := h
  · exact ⟨⟨B, h1, h2⟩, hu⟩
  · exact absurd rfl h
/-- What remap.do answers. -/
def RdoR (w : World) (x : List Tok) (e : Int) (r : Ending) (w' : World) : Prop :=
  ((e = 0 ∧ ∃ B, r = .returned (.tuple #[.slice (some B) x.length x.length, .nilIface]) ∧ tokR.row w' (fun k => w.heap.size ≤ k) (some B) x) ∨ (e ≠ 0 ∧ r = .returned (.tuple #[.slice none 0 0, .iface 237 (.agg #[.int .i64 e])]))) ∧ Pure w w'
theorem RdoR.zero {w : World} {x : List Tok} {r : Ending} {w' : World} (h : RdoR w x 0 r w') : (∃ B, r = .returned (.tuple #[.slice (some B) x.length x.length, .nilIface]) ∧ tokR.row w' (fun k => w.heap.size ≤ k) (some B) x) ∧ Pure w w' := by
  obtain ⟨⟨_, B, h1, h2⟩ | ⟨h, _⟩, hu⟩ := h
  · exact ⟨⟨B, h1, h2⟩, hu⟩
  · exact absurd rfl h
set_option maxRecDepth 100000 in
set_option maxHeartbeats 4000000 in
theorem rdo_calls {w : World} {cb : Nat} {A B : Option Addr} {c cs : Nat} {l : List Tok} {s : StepD} (h : SchR w cb houseRules houseGroups) (ha : ∀ W, Pure w W → Calls Tryz.prog 57 #[.slice A l.length c, s.val B cs] W (DocR W (stepDo l s) (stepErr l s))) :
    Calls Tryz.prog 143 #[.pointer (some ⟨cb, 0, none⟩), .slice A l.length c, s.val B cs] w (RdoR w (stepDo l s) (remapErr l s)) := by
  have HA := As.mk ha
  have HS := As.mk h
  have HX := As.mk (fun (W : World) (hu : Pure w W) (Bo : Option Addr) (G2 : Nat → Prop) (h1 : stepErr l s = 0) (hrow : tokR.row W G2 Bo (stepDo l s)) => house_check (c := (stepDo l s).length) (h.pure hu) hrow (by have := flat_len (step_err_zero.1 h1).2.2.2; omega))
  clear h ha
  unfold StepD.val at *
  by_cases h0 : stepErr l s = 0
  · have HE := As.mk (show remapErr l s = (houseCheck (stepDo l s)).2 by unfold remapErr; rw [if_neg (by omega)])
    have HX2 := As.mk (fun W hu Bo G2 => HX.out W hu Bo G2 h0)
    rw [h0] at HA
    clear h0 HX
    generalize stepDo l s = x at *
    by_cases h1 : (houseCheck x).2 = 0
    · have HE2 := As.mk (HE.out.trans h1)
      rw [h1] at HX2
      generalize (houseCheck x).1 = hx1 at *
      clear h1 HE
      go_enter Tryz.func143, Tryz.ntmps143
      go_wp2_with (go_at_call 57; refine (HA.out _ (Upd.alloc1 _ _ _)).mono ?_; rintro r w1 hd; obtain ⟨⟨B1, rfl, hrow⟩, hu⟩ := DocR.zero hd; (have HR1 := As.mk hrow; have HU1 := As.mk (Upd.trans (Upd.alloc1 (fun _ => False) _ _) hu (fun _ _ h => h)); have HZ1 := As.mk hu.size; clear hd hu hrow; apply As.out))
      refine ⟨?_⟩
      go_wp2_with (go_at_call 15; refine (HX2.out w1 HU1.out _ _ HR1.out).mono ?_; rintro r w2 ⟨rfl, hu⟩; have HU2 := As.mk hu; clear hu)
      go_ret2
      rw [HE2.out]
      exact ⟨.inl ⟨rfl, B1, rfl, Rp.row_fp (Rp.row_pure HR1.out HU2.out) (fun q hq => by have := HZ1.out; simp at hq this; omega)⟩, HU1.out.trans HU2.out (fun _ _ h => h)⟩
    · have HN := As.mk h1
      have f1 : ((houseCheck x).2 == 0) = false := by simpa using h1
      have f2 : ((houseCheck x).2 != 0) = true := by simpa using h1
      generalize (houseCheck x).2 = hx2 at *
      generalize (houseCheck x).1 = hx1 at *
      clear h1
      go_enter Tryz.func143, Tryz.ntmps143
      go_wp2_with (go_at_call 57; refine (HA.out _ (Upd.alloc1 _ _ _)).mono ?_; rintro r w1 hd; obtain ⟨⟨B1, rfl, hrow⟩, hu⟩ := DocR.zero hd; (have HR1 := As.mk hrow; have HU1 := As.mk (Upd.trans (Upd.alloc1 (fun _ => False) _ _) hu (fun _ _ h => h)); clear hd hu hrow; apply As.out))
      refine ⟨?_⟩
      go_wp2_with (go_at_call 15; refine (HX2.out w1 HU1.out _ _ HR1.out).mono ?_; rintro r w2 ⟨rfl, hu⟩; have HU2 := As.mk hu; clear hu)
      go_ret2
      rw [HE.out]
      exact ⟨.inr ⟨HN.out, rfl⟩, HU1.out.trans HU2.out (fun _ _ h => h)⟩
  · have HE := As.mk (show remapErr l s = stepErr l s by unfold remapErr; rw [if_pos h0])
    have HN := As.mk h0
    have f1 : (stepErr l s == 0) = false := by simpa using h0
    have f2 : (stepErr l s != 0) = true := by simpa using h0
    generalize stepErr l s = e at *
    clear h0 HX
    go_enter Tryz.func143, Tryz.ntmps143
    go_wp2_with (go_at_call 57; refine (HA.out _ (Upd.alloc1 _ _ _)).mono ?_; rintro r w1 ⟨⟨h0, _⟩ | ⟨_, rfl⟩, hu⟩; exact absurd h0 HN.out; (have HU1 := As.mk (Upd.trans (Upd.alloc1 (fun _ => False) _ _) hu (fun _ _ h => h)); clear hu; apply As.out))
    refine ⟨?_⟩
    go_wp2
    go_ret2
    rw [HE.out]
    exact ⟨.inr ⟨HN.out, rfl⟩, HU1.out⟩
set_option maxRecDepth 100000 in
set_option maxHeartbeats 4000000 in
theorem Do_calls {w : World} {cb : Nat} {A B : Option Addr} {c cs : Nat} {l : List Tok} {s : StepD} (h : SchR w cb houseRules houseGroups) (ha : ∀ W, Pure w W → Calls Tryz.prog 57 #[.slice A l.length c, s.val B cs] W (DocR W (stepDo l s) (stepErr l s))) :
    Calls Tryz.prog 96 #[.pointer (some ⟨cb, 0, none⟩), .slice A l.length c, s.val B cs] w (DocR w (stepDo l s) (remapErr l s)) := by
  have HD := As.mk (fun W (hu : Pure w W) => rdo_calls (h.pure hu) (fun V hv => ha V (hu.trans hv (fun _ _ h => h))))
  have HC := remap_codes l s
  clear h ha
  unfold StepD.val at *
  generalize remapErr l s = e at *
  generalize stepDo l s = x at *
  have n1 := fun (w : World) (v : Value) => run_eql_iface_nil_left (P := Tryz.prog) w 237 v Tryz.underlying187
  by_cases h0 : e = 0
  · subst h0
    clear HC
    go_enter Tryz.func96, Tryz.ntmps96
    go_wp2_with (go_at_call 143; refine (HD.out _ (Upd.alloc1 _ _ _)).mono ?_; rintro r w1 hd; obtain ⟨⟨B1, rfl, hrow⟩, hu⟩ := RdoR.zero hd; (have HR1 := As.mk hrow; have HU1 := As.mk (Upd.trans (Upd.alloc1 (fun _ => False) _ _) hu (fun _ _ h => h)); clear hd hu hrow; apply As.out))
    refine ⟨?_⟩
    go_wp2
    go_ret2
    exact ⟨.inl ⟨rfl, B1, rfl, Rp.row_fp HR1.out (fun q hq => by simp at hq; omega)⟩, HU1.out⟩
  · have HN := As.mk h0
    have HNC := As.mk (fun W => number_calls (why := e) (by omega) W)
    clear h0 HC
    go_enter Tryz.func96, Tryz.ntmps96
    go_wp2_with (go_at_call 143; refine (HD.out _ (Upd.alloc1 _ _ _)).mono ?_; rintro r w1 ⟨⟨h0, _⟩ | ⟨_, rfl⟩, hu⟩; exact absurd h0 HN.out; (have HU1 := As.mk (Upd.trans (Upd.alloc1 (fun _ => False) _ _) hu (fun _ _ h => h)); clear hu; apply As.out))
    refine ⟨?_⟩
    go_wp2_with (go_at_call 144; refine (HNC.out _).mono ?_; rintro r w2 ⟨rfl, hu⟩; have HU2 := As.mk hu; clear hu)
    go_ret2
    exact ⟨.inr ⟨HN.out, rfl⟩, HU1.out.trans HU2.out (fun _ _ h => h)⟩
end Go.Proofs.YtofjodppljnlaaaGreatDoor
namespace Go.Proofs.YtofjodppljnlaaaGreatDoor
open Go.RowKit
set_option linter.unusedVariables false
set_option linter.unusedSimpArgs false
/-- The reference's schema. -/
def Sch6 (w : World) (cb : Nat) (l : List Spec) (e0 : Ex) (es : List Ex) (gs : List Grp) : Prop := ∃ AW cW AL cL AE cE AG cG, w.heap[cb]? = some (.cells #[.int .i64 e0.k, .string e0.name, .slice AW e0.l.length cW, .slice AL l.length cL, .slice AE es.length cE, .slice AG gs.length cG] 105 (0, 0)) ∧
  exR.row w AnyB AW e0.l ∧ specR.row w AnyB AL l ∧ exR.row w AnyB AE es ∧ grpR.row w AnyB AG gs
theorem Sch6.pure {w w1 : World} {cb : Nat} {l : List Spec} {e0 : Ex} {es : List Ex} {gs : List Grp} (h : Sch6 w cb l e0 es gs) (hu : Pure w w1) : Sch6 w1 cb l e0 es gs := by
  obtain ⟨AW, cW, AL, cL, AE, cE, AG, cG, h0, h1, h2, h3, h4⟩ := h
  exact ⟨AW, cW, AL, cL, AE, cE, AG, cG, (hu.block cb (Array.getElem?_eq_some_iff.1 h0).1 (fun h => h)).trans h0, Rp.row_pure h1 hu, Rp.row_pure h2 hu, Rp.row_pure h3 hu, Rp.row_pure h4 hu⟩
/-- The house's. -/
def houseE0 : Ex := exS 5 blockName
def houseE7 : List Ex := houseEs.drop 1
abbrev H6 (w : World) (cb : Nat) : Prop := Sch6 w cb houseSpecs houseE0 houseE7 houseGroups
theorem h6_at (k : Nat) (hk : k < 7) : ∃ x e, houseSpecs[k]? = some x ∧ houseE7[k]? = some e ∧ houseRules[k + 1]? = some (x, e) := by
  have h : k = 0 ∨ k = 1 ∨ k = 2 ∨ k = 3 ∨ k = 4 ∨ k = 5 ∨ k = 6 := by omega
  rcases h with rfl | rfl | rfl | rfl | rfl | rfl | rfl <;> exact ⟨_, _, rfl, rfl, rfl⟩
theorem h6_len : houseSpecs.length = 7 := rfl
theorem h6_lenE : houseE7.length = 7 := rfl
theorem ex_at6 {w : World} {F : Nat → Prop} {A : Option Addr} {xs : List Ex} (h : exR.row w F A xs) {j : Nat} {e : Ex} (hx : xs[j]? = some e) :
    ∃ b o A1 c1, A = some ⟨b, o, none⟩ ∧ F b ∧ b < w.heap.size ∧ w.cell? ⟨b, o + j * 3, none⟩ = some (.int .i64 e.k) ∧ w.cell? ⟨b, o + j * 3 + 1, none⟩ = some (.string e.name) ∧ w.cell? ⟨b, o + j * 3 + 2, none⟩ = some (.slice A1 e.l.length c1) ∧ e.l.length ≤ c1 ∧ exR.row w F A1 e.l := by
  obtain ⟨b, o, cs, hA, hF, hb, hr, hc⟩ := Rp.row_at h hx
  obtain ⟨A1, n1, rfl, hle, hrow⟩ := ExRep.parts hr
  exact ⟨b, o, A1, n1, hA, hF, hb, hc 0 _ rfl, hc 1 _ rfl, hc 2 _ rfl, hle, hrow⟩
theorem Sch6.cells {w : World} {cb : Nat} {l : List Spec} {e0 : Ex} {es : List Ex} {gs : List Grp} (h : Sch6 w cb l e0 es gs) : ∃ AW cW AL cL AE cE AG cG, cb < w.heap.size ∧ w.cell? ⟨cb, 0, none⟩ = some (.int .i64 e0.k) ∧ w.cell? ⟨cb, 1, none⟩ = some (.string e0.name) ∧ w.cell? ⟨cb, 2, none⟩ = some (.slice AW e0.l.length cW) ∧ w.cell? ⟨cb, 3, none⟩ = some (.slice AL l.length cL) ∧ w.cell? ⟨cb, 4, none⟩ = some (.slice AE es.length cE) ∧ w.cell? ⟨cb, 5, none⟩ = some (.slice AG gs.length cG) ∧
    exR.row w AnyB AW e0.l ∧ specR.row w AnyB AL l ∧ exR.row w AnyB AE es ∧ grpR.row w AnyB AG gs := by
  obtain ⟨AW, cW, AL, cL, AE, cE, AG, cG, h0, h1, h2, h3, h4⟩ := h
  refine ⟨AW, cW, AL, cL, AE, cE, AG, cG, (Array.getElem?_eq_some_iff.1 h0).1, ?_, ?_, ?_, ?_, ?_, ?_, h1, h2, h3, h4⟩
  all_goals (unfold World.cell?; simp only [h0]; rfl)
end Go.Proofs.YtofjodppljnlaaaGreatDoor
namespace Go.Proofs.YtofjodppljnlaaaGreatDoor
open Go.RowKit
set_option linter.unusedVariables false
set_option linter.unusedSimpArgs false
theorem hTop_wd : Wd hTop := wd_new 0
end Go.Proofs.YtofjodppljnlaaaGreatDoor
namespace Go.Proofs.YtofjodppljnlaaaGreatDoor
open Go.RowKit
set_option linter.unusedVariables false
set_option linter.unusedSimpArgs false
/-- What is open: the places fit the levels. -/
inductive Mt (l : List Tok) : List Int → Lev → List Lev → Prop
  | nil {t : Lev} : t.1 = ruleOf houseRules 0 → Mt l [] t []
  | snoc {s : List Int} {j yt : Nat} {y : Tok} {t p : Lev} {q : List Lev} : l[j]? = some y → y.k = 1 → y.t = yt → 1 ≤ yt → houseRules[yt]? = some t.1 → Mt l s p q → Mt l (s ++ [(j : Int)]) t (p :: q)
theorem Mt.word {l : List Tok} {s : List Int} {t : Lev} {q : List Lev} (h : Mt l s t q) (w : List Int) : Mt l s (t.1, w) q := by
  cases h with
  | nil h => exact .nil h
  | snoc h1 h2 h3 h4 h5 h6 => exact .snoc h1 h2 h3 h4 h5 h6
theorem mayT_open1 {rs : List (Spec × Ex)} {s : Spec} {x : Tok} (h1 : x.k = 1) (h : mayT rs s x = true) : ∃ j : Nat, x.t = j ∧ 1 ≤ j ∧ rs[j]? = some (ruleOf rs x.t) := by
  obtain ⟨j, hj, y, e, hy, hr⟩ := mayT_open h1 h
  refine ⟨j, hj, ?_, by rw [hr]; exact hy⟩
  unfold mayT at h
  rw [if_neg (by omega)] at h
  cases hs : specOf rs x.t with
  | none => simp [hs] at h
  | some y =>
    unfold specOf at hs
    split at hs
    · cases hs
    · omega
abbrev letter : Tok := ⟨0, 0, 120, 0⟩
theorem house_marks : ((List.range 9).all fun i => decide ((ruleOf houseRules (i : Int)).1.marks = 0 ∨ (ruleOf houseRules (i : Int)).1.marks = 7)) = true := by kernel_rfl
/-- What May asks: the rule at a place, and the kids' types. -/
structure AtP (l : List Tok) (n : Nat) (R : Spec × Ex) : Prop where
  whole : aroundL l n = -1 ∧ houseRules[0]? = some R ∨ ∃ (j yt : Nat) (y : Tok), aroundL l n = j ∧ l[j]? = some y ∧ y.k = 1 ∧ y.t = yt ∧ 1 ≤ yt ∧ houseRules[yt]? = some R
  kids : ∀ p ∈ kidsL l (aroundL l n), ∃ (i : Nat) (x : Tok), p = i ∧ l[i]? = some x ∧ x.t ∈ tyR R
  wd : Wd (R, [])
  put : (houseCheck (l.take n ++ letter :: l.drop n)).2 = 0 ↔ (0 : Int) ∈ tyR R
def tyAt (l : List Tok) (p : Int) : Int := (l[p.toNat]?.map (·.t)).getD 0
end Go.Proofs.YtofjodppljnlaaaGreatDoor
namespace Go.Proofs.YtofjodppljnlaaaGreatDoor
open Go.RowKit
set_option linter.unusedVariables false
set_option linter.unusedSimpArgs false
theorem stk_app6 : ∀ (a b : List Tok) (k : Nat) (s : List Int), stkGo k (a ++ b) s = stkGo (k + a.length) b (stkGo k a s) := by
  intro a
  induction a with
  | nil => intro b k s; rfl
  | cons x r ih =>
    intro b k s
    rw [List.cons_append, stkGo, stkGo, ih, List.length_cons]
    congr 1
    omega
theorem stack_at6 {l : List Tok} {n : Nat} (hn : n ≤ l.length) : stackL l (n : Int) = stkGo 0 (l.take n) [] := by
  unfold stackL
  rw [if_neg (by omega), show (max (n : Int) 0).toNat = n by omega]
theorem stack_succ {l : List Tok} {n : Nat} {x : Tok} (hx : l[n]? = some x) : stackL l ((n + 1 : Nat) : Int) = stkStep n x (stackL l (n : Int)) := by
  have hn : n < l.length := (List.getElem?_eq_some_iff.1 hx).1
  rw [stack_at6 (by omega), stack_at6 (by omega), List.take_add_one, hx, stk_app6]
  have : (l.take n).length = n := by rw [List.length_take]; omega
  rw [this, Nat.zero_add]
  rfl
/-- A word as emenderref07.word gathers it: depth, types. -/
def wdStep (s : Int × List Int) (x : Tok) : Int × List Int := (if x.k = 1 then s.1 + 1 else if x.k = 2 then s.1 - 1 else s.1, if s.1 = 0 ∧ x.k ≠ 2 then s.2 ++ [x.t] else s.2)
def wdGo (l : List Tok) (i to' : Int) : Int × List Int := ((l.take to'.toNat).drop (i + 1).toNat).foldl wdStep (0, [])
def wordL (l : List Tok) (i to' : Int) : List Int := (wdGo l i to').2
theorem wd_succ {l : List Tok} {k : Nat} {x : Tok} (hx : l[k]? = some x) {i : Int} (hi : i < k) (h1 : -1 ≤ i) : wdGo l i ((k + 1 : Nat) : Int) = wdStep (wdGo l i (k : Int)) x := by
  have hk : k < l.length := (List.getElem?_eq_some_iff.1 hx).1
  unfold wdGo
  rw [Int.toNat_natCast, Int.toNat_natCast, List.take_add_one, hx, List.drop_append_of_le_length (by rw [List.length_take]; omega), List.foldl_append]
  rfl
theorem wd_none (l : List Tok) (k : Nat) : wdGo l (k : Int) ((k + 1 : Nat) : Int) = (0, []) := by
  unfold wdGo
  rw [Int.toNat_natCast, show ((k : Int) + 1).toNat = k + 1 by omega, List.drop_eq_nil_of_le (by rw [List.length_take]; omega)]
  rfl
theorem wd_none0 (l : List Tok) : wdGo l (-1) ((0 : Nat) : Int) = (0, []) := by
  unfold wdGo
  simp
/-- The levels at a place: their places, their words. -/
inductive Lv (l : List Tok) (k : Nat) : Nat → List Int → Lev → List Lev → Prop
  | bot {h : Nat} {t : Lev} : t.1 = ruleOf houseRules 0 → wdGo l (-1) k = ((h : Int), t.2) → Lv l k h [] t []
  | up {h : Nat} {s : List Int} {j yt : Nat} {y : Tok} {t p : Lev} {q : List Lev} : l[j]? = some y → y.k = 1 → y.t = yt → 1 ≤ yt → houseRules[yt]? = some t.1 → j < k → wdGo l (j : Int) k = ((h : Int), t.2) → Lv l k (h + 1) s p q → Lv l k h (s ++ [(j : Int)]) t (p :: q)
theorem Lv.next {l : List Tok} {k : Nat} {x : Tok} (hx : l[k]? = some x) (h2 : x.k ≠ 2) {h : Nat} {s : List Int} {t : Lev} {q : List Lev} (H : Lv l k h s t q) :
    Lv l (k + 1) (if x.k = 1 then h + 1 else h) s (t.1, if h = 0 then t.2 ++ [x.t] else t.2) q := by
  induction H with
  | @bot h t h1 hw =>
    refine .bot h1 ?_
    rw [wd_succ hx (by omega) (by omega), hw]
    unfold wdStep
    by_cases hk : x.k = 1 <;> by_cases hh : h = 0 <;> simp [hk, hh, h2]
  | @up h s j yt y t p q hy hy1 hyt hyt1 hR hj hw _ ih =>
    have ih' : Lv l (k + 1) ((if x.k = 1 then h + 1 else h) + 1) s p q := by
      rw [if_neg (by omega : ¬ h + 1 = 0)] at ih
      by_cases hk : x.k = 1
      · rw [if_pos hk] at ih ⊢; exact ih
      · rw [if_neg hk] at ih ⊢; exact ih
    refine .up hy hy1 hyt hyt1 hR (by omega) ?_ ih'
    rw [wd_succ hx (by omega) (by omega), hw]
    unfold wdStep
    by_cases hk : x.k = 1 <;> by_cases hh : h = 0 <;> simp [hk, hh, h2]
theorem Lv.prev {l : List Tok} {k : Nat} {x : Tok} (hx : l[k]? = some x) (h2 : x.k = 2) {h' h : Nat} {s : List Int} {t : Lev} {q : List Lev} (H : Lv l k h' s t q) (hh : h' = h + 1) :
    Lv l (k + 1) h s t q := by
  induction H generalizing h with
  | @bot h' t h1 hw =>
    subst hh
    refine .bot h1 ?_
    rw [wd_succ hx (by omega) (by omega), hw]
    unfold wdStep
    simp [h2]
  | @up h' s j yt y t p q hy hy1 hyt hyt1 hR hj hw _ ih =>
    subst hh
    refine .up hy hy1 hyt hyt1 hR (by omega) ?_ (ih rfl)
    rw [wd_succ hx (by omega) (by omega), hw]
    unfold wdStep
    simp [h2]
theorem Lv.inv {l : List Tok} {k : Nat} {s : List Int} {t : Lev} {q : List Lev} (H : Lv l k 0 s t q) :
    (s.getLast?.getD (-1) = -1 ∧ t.1 = ruleOf houseRules 0 ∧ wdGo l (-1) k = (0, t.2)) ∨
    ∃ (j yt : Nat) (y : Tok), s.getLast?.getD (-1) = (j : Int) ∧ l[j]? = some y ∧ y.k = 1 ∧ y.t = yt ∧ 1 ≤ yt ∧ houseRules[yt]? = some t.1 ∧ j < k ∧ wdGo l (j : Int) k = (0, t.2) := by
  cases H with
  | bot h1 hw => exact .inl ⟨rfl, h1, hw⟩
  | @up _ s j yt y t p q hy hy1 hyt hyt1 hR hj hw _ => exact .inr ⟨j, yt, y, by simp, hy, hy1, hyt, hyt1, hR, hj, hw⟩
theorem Lv.whole {l : List Tok} {k h : Nat} {s : List Int} {t : Lev} (H : Lv l k h s t []) : t.1 = ruleOf houseRules 0 ∧ wdGo l (-1) k = ((h : Int), t.2) := by
  generalize hz : ([] : List Lev) = z at H
  cases H with
  | bot h1 hw => exact ⟨h1, hw⟩
  | up => cases hz
theorem rule_get {yt : Nat} {r : Spec × Ex} (h : houseRules[yt]? = some r) : ruleOf houseRules (yt : Int) = r := by
  unfold ruleOf
  rw [Int.toNat_natCast, h]
  rfl
theorem lv_step {l : List Tok} {k : Nat} {x : Tok} (hx : l[k]? = some x) {s : List Int} {top t : Lev} {below z : List Lev} (H : Lv l k 0 s top below) (h : hRun top below [x] = some (t, z)) : Lv l (k + 1) 0 (stkStep k x s) t z := by
  unfold hRun at h
  rw [ckRun_cons] at h
  unfold stkStep
  by_cases h2 : x.k = 2
  · rw [if_pos h2] at h
    rw [if_neg (by omega), if_pos h2]
    cases H with
    | bot => cases h
    | @up _ s j yt y t' p q hy hy1 hyt hyt1 hR hj hw H' =>
      simp only at h
      split at h
      · simp only [ckRun, Option.some.injEq, Prod.mk.injEq] at h
        obtain ⟨rfl, rfl⟩ := h
        rw [List.dropLast_concat]
        exact H'.prev hx h2 rfl
      · cases h
  · rw [if_neg h2] at h
    rw [if_neg h2]
    have HN := H.next hx h2
    rw [if_pos rfl] at HN
    split at h
    · rename_i hs
      have hm : mayT houseRules top.1.1 x = true := by
        unfold stepOk at hs
        rw [Bool.and_eq_true] at hs
        exact hs.1
      by_cases h1 : x.k = 1
      · rw [if_pos h1] at h HN ⊢
        simp only [ckRun, Option.some.injEq, Prod.mk.injEq] at h
        obtain ⟨rfl, rfl⟩ := h
        obtain ⟨j, hj, hj1, hrj⟩ := mayT_open1 h1 hm
        exact .up hx h1 hj hj1 hrj (by omega) (wd_none l k) HN
      · rw [if_neg h1] at h HN ⊢
        simp only [ckRun, Option.some.injEq, Prod.mk.injEq] at h
        obtain ⟨rfl, rfl⟩ := h
        exact HN
    · cases h
theorem run_lv {l : List Tok} : ∀ {k : Nat}, k ≤ l.length → ∀ {top : Lev} {below : List Lev}, hRun hTop [] (l.take k) = some (top, below) → Lv l k 0 (stackL l k) top below := by
  intro k
  induction k with
  | zero =>
    intro _ top below h
    rw [List.take_zero] at h
    simp only [hRun, ckRun, Option.some.injEq, Prod.mk.injEq] at h
    obtain ⟨rfl, rfl⟩ := h
    rw [stack_at6 (Nat.zero_le _)]
    exact .bot rfl (wd_none0 l)
  | succ k ih =>
    intro hk top below h
    obtain ⟨x, hx⟩ : ∃ x, l[k]? = some x := ⟨_, List.getElem?_eq_getElem (by omega)⟩
    rw [List.take_add_one, hx] at h
    unfold hRun at h
    rw [ckRun_app] at h
    obtain ⟨S, h1, h2⟩ := Option.bind_eq_some_iff.1 h
    rw [stack_succ hx]
    exact lv_step hx (ih (by omega) h1) h2
/-- The rule at a place, as the reference reads it. -/
def rule6 (l : List Tok) (at' : Int) : Spec × Ex := if at' < 0 then ruleOf houseRules 0 else ruleOf houseRules (tyAt l at')
def specAt (l : List Tok) (n : Int) : Spec := if n < 0 then zeroSpec else (specOf houseRules (tyAt l n)).getD zeroSpec
def token6 (s : Spec) (x : Tok) : Bool :=
  if x.k = 0 then decide (bits .and .i64 x.m s.marks = x.m) && (decide (x.n ≠ 10) || s.lines)
  else match specOf houseRules x.t with | some s => decide (x.n ≥ s.least) && decide (x.n ≤ s.most) && (s.leaf == decide (x.k = 3)) | none => false
def one6 (l : List Tok) (i : Nat) (x : Tok) : Bool :=
  if x.k = 2 then regAccepts (rule6 l (aroundL l i)).2 houseGroups (wordL l (aroundL l i) i)
  else token6 (specAt l (aroundL l i)) x && decide (regBegins (rule6 l (aroundL l i)).2 houseGroups (wordL l (aroundL l i) i ++ [x.t]) = (wordL l (aroundL l i) i).length + 1)
def ck6 (l : List Tok) : Nat → List Tok → Int × Int
  | i, [] => (i, if regAccepts (ruleOf houseRules 0).2 houseGroups (wordL l (-1) l.length) = true then 0 else 9)
  | i, x :: r => if one6 l i x = true then ck6 l (i + 1) r else (i, 9)
def check6 (l : List Tok) : Int × Int := if (flatCheck l).2 = 0 then ck6 l 0 l else flatCheck l
theorem marks_and : ∀ m : Int, 0 ≤ m → m ≤ 4 → ∀ s : Int, s = 0 ∨ s = 7 → decide (bits .and .i64 m s = m) = decide (bits .andNot .i64 m s = 0) := by
  intro m h0 h4 s hs
  have hm : m = 0 ∨ m = 1 ∨ m = 2 ∨ m = 3 ∨ m = 4 := by omega
  rcases hm with rfl | rfl | rfl | rfl | rfl <;> rcases hs with rfl | rfl <;> rfl
theorem token_may {s : Spec} {x : Tok} (hs : s.marks = 0 ∨ s.marks = 7) (hx : rightB x = true) : token6 s x = mayT houseRules s x := by
  unfold token6 mayT
  by_cases h0 : x.k = 0
  · rw [if_pos h0, if_pos h0]
    unfold runeB marksIn
    have hm : 0 ≤ x.m ∧ x.m ≤ 4 := by
      have := of_decide_eq_true hx
      unfold RightP MarkP at this
      omega
    rw [marks_and x.m hm.1 hm.2 _ hs]
    congr 1
    by_cases h : x.n = 10 <;> simp [h]
  · rw [if_neg h0, if_neg h0]
    rfl
theorem house_specs_marks (i : Nat) : (ruleOf houseRules (i : Int)).1.marks = 0 ∨ (ruleOf houseRules (i : Int)).1.marks = 7 := by
  obtain ⟨j, hj, h⟩ := house_rule (i : Int)
  rw [h]
  simpa using List.all_eq_true.1 house_marks j (List.mem_range.2 hj)
theorem rule0_marks : (ruleOf houseRules 0).1.marks = 0 ∧ (ruleOf houseRules 0).1.lines = false := by
  constructor <;> kernel_rfl
theorem begins_le {t : Lev} (h : Wd t) (x : Int) : regBegins t.1.2 houseGroups (t.2 ++ [x]) ≤ t.2.length + 1 := by
  obtain ⟨⟨u, hu⟩, _⟩ := h
  obtain ⟨i, hi, hr⟩ := house_rule u
  have hc : regCheck t.1.2 houseGroups = 0 := by
    rw [hu, hr]
    simpa using List.all_eq_true.1 house_check_all i (List.mem_range.2 hi)
  rw [begins_eq hc]
  have := (run_spec hc (t.2 ++ [x])).2.1
  simpa using this
/-- What the reference asks of a token is what the program asks of it at its level. -/
theorem one_step {l : List Tok} {k : Nat} {x : Tok} {top : Lev} {below : List Lev} (hx : l[k]? = some x) (hr : rightB x = true) (h : hRun hTop [] (l.take k) = some (top, below)) :
    one6 l k x = if x.k = 2 then hAcc top else stepOk houseRules houseGroups top x := by
  have hk : k < l.length := (List.getElem?_eq_some_iff.1 hx).1
  have HL := run_lv (by omega) h
  have hwd : Wd top := by
    obtain ⟨t', z', h3, h4⟩ := run_rl (l.take k) (.bot rfl hTop_wd hTop_wd) h
    exact h4.wd.2.1
  have key : (rule6 l (aroundL l k)).2 = top.1.2 ∧ wordL l (aroundL l k) k = top.2 ∧ (x.k ≠ 2 → token6 (specAt l (aroundL l k)) x = mayT houseRules top.1.1 x) := by
    unfold aroundL
    rcases HL.inv with ⟨h1, h2, h3⟩ | ⟨j, yt, y, h1, hy, hy1, hyt, hyt1, hR, hj, h3⟩
    · rw [h1]
      refine ⟨by unfold rule6; rw [if_pos (by decide), h2], by unfold wordL; rw [h3], fun _ => ?_⟩
      unfold specAt
      rw [if_pos (by decide), token_may (.inl rfl) hr, h2]
      obtain ⟨e1, e2⟩ := rule0_marks
      unfold mayT runeB
      rw [e1, e2]
    · rw [h1]
      have hty : tyAt l (j : Int) = (yt : Int) := by unfold tyAt; rw [Int.toNat_natCast, hy]; exact hyt
      refine ⟨by unfold rule6; rw [if_neg (by omega), hty, rule_get hR], by unfold wordL; rw [h3], fun _ => ?_⟩
      unfold specAt
      have hs : (specOf houseRules (tyAt l (j : Int))).getD zeroSpec = top.1.1 := by
        rw [hty]
        unfold specOf
        rw [if_neg (by omega), Int.toNat_natCast, hR]
        rfl
      rw [if_neg (by omega), hs]
      have := house_specs_marks yt
      rw [rule_get hR] at this
      exact token_may this hr
  obtain ⟨k1, k2, k3⟩ := key
  unfold one6
  rw [k1, k2]
  by_cases h2 : x.k = 2
  · rw [if_pos h2, if_pos h2]
  · rw [if_neg h2, if_neg h2, k3 h2]
    unfold stepOk
    congr 1
    have := begins_le hwd x.t
    rw [Bool.eq_iff_iff]
    simp only [decide_eq_true_eq]
    omega
theorem whole_step {l : List Tok} {top : Lev} (h : hRun hTop [] l = some (top, [])) : regAccepts (ruleOf houseRules 0).2 houseGroups (wordL l (-1) l.length) = hAcc top := by
  have HL := run_lv (Nat.le_refl l.length) (by rw [List.take_length]; exact h)
  have hw := HL.whole
  unfold wordL
  rw [hw.2, ← hw.1]
theorem ck6_eq {l : List Tok} : ∀ (r : List Tok) (k : Nat) (top : Lev) (below : List Lev), l.drop k = r → k ≤ l.length → hRun hTop [] (l.take k) = some (top, below) → (fcGo k below.length r).2 = 0 → ck6 l k r = ckGo houseRules houseGroups k top below r := by
  intro r
  induction r with
  | nil =>
    intro k top below hd hk h hf
    have hkl : k = l.length := by
      have := List.length_drop (i := k) (l := l)
      rw [hd] at this
      simp at this
      omega
    subst hkl
    unfold fcGo at hf
    have hb : below = [] := by
      cases below with
      | nil => rfl
      | cons p q => simp at hf
    subst hb
    rw [List.take_length] at h
    rw [ck_end, ck6, whole_step h]
  | cons x r ih =>
    intro k top below hd hk h hf
    have hx : l[k]? = some x := by
      have : (l.drop k)[0]? = some x := by rw [hd]; rfl
      simpa using this
    have hk2 : k < l.length := (List.getElem?_eq_some_iff.1 hx).1
    have hd2 : l.drop (k + 1) = r := by
      have : (l.drop k).drop 1 = r := by rw [hd]; rfl
      rwa [List.drop_drop] at this
    have hf' : fcGo k below.length (x :: r) = ((fcGo k below.length (x :: r)).1, 0) := by rw [← hf]
    have hr := fc_right hf'
    have hone := one_step hx hr h
    rw [ck6, hone]
    have hrun : ∀ (t : Lev) (z : List Lev), hRun top below [x] = some (t, z) → hRun hTop [] (l.take (k + 1)) = some (t, z) := by
      intro t z e
      rw [List.take_add_one, hx]
      unfold hRun at h e ⊢
      rw [ckRun_app, h]
      exact e
    by_cases h2 : x.k = 2
    · rw [if_pos h2]
      cases ha : hAcc top
      · rw [ck_noclose h2 ha]
        rfl
      · obtain ⟨hn, hf2⟩ := fc_close hf' h2
        cases below with
        | nil => simp at hn
        | cons p q =>
          rw [ck_close h2 ha]
          simp only [if_true]
          refine ih (k + 1) p q hd2 (by omega) (hrun p q ?_) ?_
          · unfold hRun
            rw [ckRun_cons, if_pos h2]
            simp only
            rw [if_pos ha]
            rfl
          · have : (p :: q).length - 1 = q.length := by simp
            rw [this] at hf2
            rw [hf2]
    · rw [if_neg h2]
      cases hs : stepOk houseRules houseGroups top x
      · rw [ck_bad h2 hs]
        rfl
      · simp only [if_true]
        by_cases h1 : x.k = 1
        · obtain ⟨_, hf2⟩ := fc_open hf' h1
          rw [ck_open h1 hs]
          refine ih (k + 1) _ _ hd2 (by omega) (hrun _ _ ?_) (by rw [List.length_cons, hf2])
          unfold hRun
          rw [ckRun_cons, if_neg h2, if_pos hs, if_pos h1]
          rfl
        · have hf2 := fc_else hf' h1 h2
          rw [ck_leaf h2 h1 hs]
          refine ih (k + 1) _ _ hd2 (by omega) (hrun _ _ ?_) (by rw [hf2])
          unfold hRun
          rw [ckRun_cons, if_neg h2, if_pos hs, if_neg h1]
          rfl
theorem check6_eq (l : List Tok) : check6 l = houseCheck l := by
  unfold check6 houseCheck schemaCheck
  by_cases hf : (flatCheck l).2 = 0
  · rw [if_pos hf, if_pos hf]
    have hl : ¬ l.length > 2048 := by
      intro h
      unfold flatCheck at hf
      rw [if_pos h] at hf
      cases hf
    have h1 : flatCheck l = fcGo 0 0 l := by unfold flatCheck; rw [if_neg hl]
    rw [h1] at hf
    exact ck6_eq l 0 hTop [] rfl (Nat.zero_le _) rfl hf
  · rw [if_neg hf, if_neg hf]
end Go.Proofs.YtofjodppljnlaaaGreatDoor
