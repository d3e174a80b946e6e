/- My own texts, packed: Check, HouseC, SchR6, Lang, RowK, RunC, MayP, Word6, Spc6, Tok6, Tok, MarkL, Piece, Ref4. -/
import Derived.Test.YtofjodppljnlaaaGreatDoorP3
namespace Go.Proofs.YtofjodppljnlaaaGreatDoor
open Go.RowKit
set_option linter.unusedVariables false
set_option linter.unusedSimpArgs false
abbrev Lev := (Spec × Ex) × List Int
def zeroEx : Ex := .mk 0 ⟨#[]⟩ []
def ruleOf (rs : List (Spec × Ex)) (t : Int) : Spec × Ex := (rs[t.toNat]?).getD (zeroSpec, zeroEx)
/-- The level with one more in it: may it be? -/
def stepOk (rs : List (Spec × Ex)) (gs : List Grp) (top : Lev) (x : Tok) : Bool := mayT rs top.1.1 x && decide (top.2.length + 1 ≤ regBegins top.1.2 gs (top.2 ++ [x.t]))
def ckGo (rs : List (Spec × Ex)) (gs : List Grp) : Nat → Lev → List Lev → List Tok → Int × Int
  | i, top, _, [] => (i, if regAccepts top.1.2 gs top.2 = true then 0 else 9)
  | i, top, below, x :: r =>
    if x.k = 2 then
      (if regAccepts top.1.2 gs top.2 = true then (match below with | [] => (i, 9) | p :: q => ckGo rs gs (i + 1) p q r) else (i, 9))
    else if stepOk rs gs top x = true then
      (if x.k = 1 then ckGo rs gs (i + 1) (ruleOf rs x.t, []) ((top.1, top.2 ++ [x.t]) :: below) r else ckGo rs gs (i + 1) (top.1, top.2 ++ [x.t]) below r)
    else (i, 9)
def schemaCheck (rs : List (Spec × Ex)) (gs : List Grp) (l : List Tok) : Int × Int := if (flatCheck l).2 = 0 then ckGo rs gs 0 (ruleOf rs 0, []) [] l else flatCheck l
structure SchOk (rs : List (Spec × Ex)) (gs : List Grp) : Prop where
  ne : rs ≠ []
  len : rs.length ≤ 1000
  wt : ∀ p ∈ rs, p.2.wt ≤ 1048576 * 4
  gl : gs.length ≤ 1048576
  gt : ∀ x ∈ gs, x.types.length ≤ 1048576
theorem SchR.made {w v : World} {rs : List (Spec × Ex)} {gs : List Grp} {A1 AG : Option Addr} {x : Spec} {e : Ex} (hok : SchOk rs gs) (hg : grpR.row w (fun _ => True) AG gs) (hu : Pure w v) (hm : (x, e) ∈ rs) (hx : exR.row v (fun k => k < w.heap.size) A1 e.l) : MadeC v A1 AG e gs :=
  ⟨Rp.row_fp hx (fun k hk => Nat.lt_of_lt_of_le hk hu.size), Rp.row_move (fun k hk hl => ⟨Nat.lt_of_lt_of_le hl hu.size, Nat.lt_of_lt_of_le hl hu.size, hu.block k hl (fun h => h)⟩) hg, hok.wt _ hm, hok.gl, hok.gt⟩
/-- The state at the loop's head: k tokens are gone. -/
structure CkRel (w : World) (rs : List (Spec × Ex)) (gs : List Grp) (l : List Tok) (k b cap : Nat) (rv : List ((Spec × Ex) × Value)) (top : Lev) (below : List Lev) (wr : World) : Prop where
  opn : ∃ ws, Opn w b cap rv ws wr ∧ ws = (top :: below).reverse.map (·.2)
  rules : rv.map (·.1) = (top :: below).reverse.map (·.1)
  go : ckGo rs gs k top below (l.drop k) = schemaCheck rs gs l
  flat : fcGo k below.length (l.drop k) = ((l.length : Int), (0 : Int))
  words : ∀ p ∈ top :: below, p.2.length ≤ k ∧ p.1 ∈ rs
theorem fcGo_at : ∀ (l : List Tok) (i n : Nat), (fcGo i n l).2 = 0 → (fcGo i n l).1 = i + l.length
  | [], i, n, h => by simp [fcGo]
  | t :: r, i, n, h => by
    unfold fcGo at h ⊢
    split at h
    · simp at h
    · rename_i h1
      rw [if_neg h1]
      split at h
      · rename_i h2
        rw [if_pos h2]
        split at h
        · simp at h
        · rename_i h3
          rw [if_neg h3, fcGo_at r _ _ h]
          simp; omega
      · rename_i h2
        rw [if_neg h2]
        split at h
        · rename_i h3
          rw [if_pos h3, fcGo_at r _ _ h]
          simp; omega
        · rename_i h3
          rw [if_neg h3, fcGo_at r _ _ h]
          simp; omega
theorem fcGo_depth : ∀ (l : List Tok) (i n : Nat), (fcGo i n l).2 = 0 → n ≤ l.length
  | [], i, n, h => by
    unfold fcGo at h
    by_cases h0 : n = 0
    · omega
    · simp only [if_neg h0] at h
      omega
  | t :: r, i, n, h => by
    unfold fcGo at h
    split at h
    · simp at h
    · split at h
      · split at h
        · simp at h
        · have := fcGo_depth r _ _ h
          simp; omega
      · split at h
        · have := fcGo_depth r _ _ h
          simp; omega
        · have := fcGo_depth r _ _ h
          simp; omega
theorem CkRel.split {w wr : World} {rs : List (Spec × Ex)} {gs : List Grp} {l : List Tok} {k b cap : Nat} {rv : List ((Spec × Ex) × Value)} {top : Lev} {below : List Lev} (h : CkRel w rs gs l k b cap rv top below wr) : ∃ init v wi, rv = init ++ [(top.1, v)] ∧ init.length = below.length ∧ Opn w b cap (init ++ [(top.1, v)]) (wi ++ [top.2]) wr ∧ init.map (·.1) = below.reverse.map (·.1) ∧ wi = below.reverse.map (·.2) := by
  obtain ⟨⟨ws, ho, hws⟩, hr, _⟩ := h
  rw [List.reverse_cons, List.map_append] at hr hws
  obtain ⟨init, last, rfl, h1, h2⟩ := List.map_eq_append_iff.1 hr
  obtain ⟨y, rfl⟩ : ∃ y, last = [y] := by
    have hl1 : last.length = 1 := by simpa using congrArg List.length h2
    exact List.length_eq_one_iff.1 hl1
  have h2' : y.1 = top.1 := by simpa using h2
  obtain ⟨y1, y2⟩ := y
  simp only at h2'
  subst h2'
  exact ⟨init, y2, _, rfl, by simpa using congrArg List.length h1, by rw [hws] at ho; exact ho, h1, rfl⟩
theorem fc_right {k n : Nat} {x : Tok} {r : List Tok} {L : Int} (h : fcGo k n (x :: r) = (L, 0)) : rightB x = true := by
  unfold fcGo at h
  split at h
  · simp at h
  · rename_i h1
    cases hr : rightB x
    · exact absurd (.inl hr) h1
    · rfl
theorem fc_close {k n : Nat} {x : Tok} {r : List Tok} {L : Int} (h : fcGo k n (x :: r) = (L, 0)) (hk : x.k = 2) : n ≠ 0 ∧ fcGo (k + 1) (n - 1) r = (L, 0) := by
  unfold fcGo at h
  split at h
  · simp at h
  · rename_i h1
    rw [if_neg (by omega)] at h
    exact ⟨fun e => h1 (.inr ⟨hk, e⟩), h⟩
theorem fc_open {k n : Nat} {x : Tok} {r : List Tok} {L : Int} (h : fcGo k n (x :: r) = (L, 0)) (hk : x.k = 1) : n ≠ 32 ∧ fcGo (k + 1) (n + 1) r = (L, 0) := by
  unfold fcGo at h
  split at h
  · simp at h
  · split at h
    · simp at h
    · rename_i h2
      exact ⟨h2, h⟩
theorem fc_else {k n : Nat} {x : Tok} {r : List Tok} {L : Int} (h : fcGo k n (x :: r) = (L, 0)) (h1 : x.k ≠ 1) (h2 : x.k ≠ 2) : fcGo (k + 1) n r = (L, 0) := by
  unfold fcGo at h
  split at h
  · simp at h
  · exact h
theorem ck_close {rs : List (Spec × Ex)} {gs : List Grp} {k : Nat} {top p : Lev} {q : List Lev} {x : Tok} {r : List Tok} (h : x.k = 2) (ha : regAccepts top.1.2 gs top.2 = true) : ckGo rs gs k top (p :: q) (x :: r) = ckGo rs gs (k + 1) p q r := by
  rw [ckGo, if_pos h, if_pos ha]
theorem ck_noclose {rs : List (Spec × Ex)} {gs : List Grp} {k : Nat} {top : Lev} {q : List Lev} {x : Tok} {r : List Tok} (h : x.k = 2) (ha : regAccepts top.1.2 gs top.2 = false) : ckGo rs gs k top q (x :: r) = ((k : Int), (9 : Int)) := by
  rw [ckGo.eq_def]; simp only []; rw [if_pos h, if_neg (by rw [ha]; exact Bool.false_ne_true)]
theorem ck_bad {rs : List (Spec × Ex)} {gs : List Grp} {k : Nat} {top : Lev} {q : List Lev} {x : Tok} {r : List Tok} (h : x.k ≠ 2) (ha : stepOk rs gs top x = false) : ckGo rs gs k top q (x :: r) = ((k : Int), (9 : Int)) := by
  rw [ckGo.eq_def]; simp only []; rw [if_neg h, if_neg (by rw [ha]; exact Bool.false_ne_true)]
theorem ck_open {rs : List (Spec × Ex)} {gs : List Grp} {k : Nat} {top : Lev} {q : List Lev} {x : Tok} {r : List Tok} (h : x.k = 1) (ha : stepOk rs gs top x = true) : ckGo rs gs k top q (x :: r) = ckGo rs gs (k + 1) (ruleOf rs x.t, []) ((top.1, top.2 ++ [x.t]) :: q) r := by
  rw [ckGo.eq_def]; simp only []; rw [if_neg (by omega), if_pos ha, if_pos h]
theorem ck_leaf {rs : List (Spec × Ex)} {gs : List Grp} {k : Nat} {top : Lev} {q : List Lev} {x : Tok} {r : List Tok} (h : x.k ≠ 2) (h1 : x.k ≠ 1) (ha : stepOk rs gs top x = true) : ckGo rs gs k top q (x :: r) = ckGo rs gs (k + 1) (top.1, top.2 ++ [x.t]) q r := by
  rw [ckGo.eq_def]; simp only []; rw [if_neg h, if_pos ha, if_neg h1]
theorem ck_end {rs : List (Spec × Ex)} {gs : List Grp} {k : Nat} {top : Lev} {q : List Lev} : ckGo rs gs k top q [] = ((k : Int), if regAccepts top.1.2 gs top.2 = true then (0 : Int) else 9) := by
  rw [ckGo]
theorem acc_calls {A Bg Aw : Option Addr} {c d cw : Nat} {e : Ex} {g : List Grp} {word : List Int} {w : World} {F : Nat → Prop} (hm : MadeC w A Bg e g) (hw : intR.row w F Aw word) (hb : word.length ≤ 1048576 * 4) :
    Calls Tryz.prog 66 #[.agg #[.int .i64 e.k, .string e.name, .slice A e.l.length c], .slice Bg g.length d, .slice Aw word.length cw] w fun r w' => r = .returned (.bool (regAccepts e g word)) ∧ Pure w w' := by
  cases e
  exact accepts_calls hm hw hb
theorem beg_calls {A Bg Aw : Option Addr} {c d cw : Nat} {e : Ex} {g : List Grp} {word : List Int} {w : World} {F : Nat → Prop} (hm : MadeC w A Bg e g) (hw : intR.row w F Aw word) (hb : word.length ≤ 1048576 * 4) :
    Calls Tryz.prog 65 #[.agg #[.int .i64 e.k, .string e.name, .slice A e.l.length c], .slice Bg g.length d, .slice Aw word.length cw] w fun r w' => r = .returned (.int .i64 (regBegins e g word : Nat)) ∧ Pure w w' := by
  cases e
  exact begins_calls hm hw hb
theorem CkRel.leaf {w W : World} {rs : List (Spec × Ex)} {gs : List Grp} {l : List Tok} {k b cap : Nat} {init : List ((Spec × Ex) × Value)} {r : Spec × Ex} {below : List Lev} {v1 : Value} {wd : List Int} {t : Int} {wi : List (List Int)} (hw : ∀ y ∈ ((r, wd) : Lev) :: below, y.2.length ≤ k ∧ y.1 ∈ rs) (ho : Opn w b cap (init ++ [(r, v1)]) (wi ++ [wd ++ [t]]) W) (him : init.map (·.1) = below.reverse.map (·.1)) (hwi : wi = below.reverse.map (·.2)) (hgo : ckGo rs gs (k + 1) (r, wd ++ [t]) below (l.drop (k + 1)) = schemaCheck rs gs l) (hfl : fcGo (k + 1) below.length (l.drop (k + 1)) = ((l.length : Int), (0 : Int))) : CkRel w rs gs l (k + 1) b cap (init ++ [(r, v1)]) (r, wd ++ [t]) below W :=
  ⟨⟨_, ho, by rw [hwi]; simp⟩, by rw [List.map_append, him]; simp, hgo, hfl, fun y hy => by
    rcases List.mem_cons.1 hy with rfl | hy
    · have h0 : wd.length ≤ k ∧ r ∈ rs := hw (r, wd) List.mem_cons_self
      exact ⟨by simp; omega, h0.2⟩
    · have := hw y (List.mem_cons_of_mem _ hy)
      exact ⟨by omega, this.2⟩⟩
theorem CkRel.opened {w W : World} {rs : List (Spec × Ex)} {gs : List Grp} {l : List Tok} {k b cap : Nat} {init : List ((Spec × Ex) × Value)} {r r2 : Spec × Ex} {below : List Lev} {v1 : Value} {wd : List Int} {t : Int} {wi : List (List Int)} (hw : ∀ y ∈ ((r, wd) : Lev) :: below, y.2.length ≤ k ∧ y.1 ∈ rs) (ho : Opn w b cap (init ++ [(r, v1)] ++ [(r2, .slice none 0 0)]) (wi ++ [wd ++ [t]] ++ [[]]) W) (him : init.map (·.1) = below.reverse.map (·.1)) (hwi : wi = below.reverse.map (·.2)) (hr2 : r2 ∈ rs) (hgo : ckGo rs gs (k + 1) (r2, []) ((r, wd ++ [t]) :: below) (l.drop (k + 1)) = schemaCheck rs gs l) (hfl : fcGo (k + 1) (below.length + 1) (l.drop (k + 1)) = ((l.length : Int), (0 : Int))) : CkRel w rs gs l (k + 1) b cap (init ++ [(r, v1)] ++ [(r2, .slice none 0 0)]) (r2, []) ((r, wd ++ [t]) :: below) W :=
  ⟨⟨_, ho, by rw [hwi]; simp⟩, by rw [List.map_append, List.map_append, him]; simp, hgo, hfl, fun y hy => by
    rcases List.mem_cons.1 hy with rfl | hy
    · exact ⟨Nat.zero_le _, hr2⟩
    · rcases List.mem_cons.1 hy with rfl | hy
      · have h0 : wd.length ≤ k ∧ r ∈ rs := hw (r, wd) List.mem_cons_self
        exact ⟨by simp; omega, h0.2⟩
      · have := hw y (List.mem_cons_of_mem _ hy)
        exact ⟨by omega, this.2⟩⟩
theorem lev_info : (Tryz.prog.info? 99).map (fun i => (i.zero, i.size, i.bytes)) = some (some (.agg #[.string ⟨#[]⟩, .string ⟨#[]⟩, .bool false, .int .i64 0, .int .i64 0, .int .i64 0, .bool false, .int .i64 0, .string ⟨#[]⟩, .slice none 0 0, .slice none 0 0]), 11, 144) := by kernel_rfl
theorem mayT_open {rs : List (Spec × Ex)} {s : Spec} {x : Tok} (h1 : x.k = 1) (h : mayT rs s x = true) : ∃ j : Nat, x.t = j ∧ ∃ y e, rs[j]? = some (y, e) ∧ ruleOf rs x.t = (y, e) := by
  unfold mayT at h
  rw [if_neg (by omega)] at h
  cases hs : specOf rs x.t with
  | none => simp [hs] at h
  | some y =>
    unfold specOf at hs
    split at hs
    · cases hs
    · obtain ⟨z, hz, rfl⟩ := Option.map_eq_some_iff.1 hs
      refine ⟨x.t.toNat, by omega, z.1, z.2, hz, ?_⟩
      unfold ruleOf
      rw [hz]
      rfl
theorem CkRel.closed {w wr w1 : World} {rs : List (Spec × Ex)} {gs : List Grp} {l : List Tok} {k b cap : Nat} {init : List ((Spec × Ex) × Value)} {top p : Lev} {q : List Lev} {v : Value} {wi : List (List Int)} (hw : ∀ y ∈ top :: p :: q, y.2.length ≤ k ∧ y.1 ∈ rs) (ho : Opn w b cap (init ++ [(top.1, v)]) (wi ++ [top.2]) wr) (him : init.map (·.1) = (p :: q).reverse.map (·.1)) (hwi : wi = (p :: q).reverse.map (·.2)) (hgo : ckGo rs gs (k + 1) p q (l.drop (k + 1)) = schemaCheck rs gs l) (hfl : fcGo (k + 1) q.length (l.drop (k + 1)) = ((l.length : Int), (0 : Int))) (hu : Pure wr w1) : CkRel w rs gs l (k + 1) b cap init p q w1 :=
  ⟨⟨wi, ho.take.pure hu, hwi⟩, him, hgo, hfl, fun y hy => by
    have := hw y (by simp only [List.mem_cons] at hy ⊢; exact .inr hy)
    exact ⟨by omega, this.2⟩⟩
end Go.Proofs.YtofjodppljnlaaaGreatDoor
namespace Go.Proofs.YtofjodppljnlaaaGreatDoor
open Go.RowKit
set_option linter.unusedVariables false
set_option linter.unusedSimpArgs false
set_option maxRecDepth 100000 in
set_option maxHeartbeats 4000000 in
theorem schemaCheck_flat {w : World} {cb : Nat} {rs : List (Spec × Ex)} {gs : List Grp} {F : Nat → Prop} {A : Option Addr} {c : Nat} {l : List Tok} (h : SchR w cb rs gs) (hok : SchOk rs gs) (hr : tokR.row w F A l) (hb : l.length ≤ 1048576 * 4) (hf : (flatCheck l).2 ≠ 0) :
    Calls Tryz.prog 15 #[.pointer (some ⟨cb, 0, none⟩), .slice A l.length c] w fun e w' => e = .returned (.tuple #[.int .i64 (schemaCheck rs gs l).1, .int .i64 (schemaCheck rs gs l).2]) ∧ Pure w w' := by
  have HNO := As.mk (none_calls h hok.ne)
  have HFC := As.mk (Check_calls (c := c) hr hb)
  have hE : schemaCheck rs gs l = flatCheck l := by unfold schemaCheck; rw [if_neg hf]
  rw [hE]
  have t1 : ((flatCheck l).2 != 0) = true := by simpa using hf
  clear h hok hr hf hE
  generalize flatCheck l = fc at *
  obtain ⟨f1, f2⟩ := fc
  go_enter Tryz.func15, Tryz.ntmps15
  go_wp2_with (first | (go_at_call 64; refine HFC.out.mono ?_; rintro r w2 ⟨rfl, hu⟩; have HU2 := As.mk hu; clear hu) | (go_at_call 63; refine HNO.out.mono ?_; rintro r w1 ⟨rfl, hw⟩; replace hw := hw.symm; subst hw))
  exact bodyPost_ret (v := .tuple #[.int .i64 f1, .int .i64 f2]) (by simp [results, Tryz.results15, go_sem]) rfl ⟨rfl, HU2.out⟩
set_option maxRecDepth 100000 in
set_option maxHeartbeats 4000000 in
theorem schemaCheck_main {w : World} {cb : Nat} {rs : List (Spec × Ex)} {gs : List Grp} {F : Nat → Prop} {A : Option Addr} {c : Nat} {l : List Tok} (h : SchR w cb rs gs) (hok : SchOk rs gs) (hr : tokR.row w F A l) (hb : l.length ≤ 1048576 * 4) (hf : (flatCheck l).2 = 0) :
    Calls Tryz.prog 15 #[.pointer (some ⟨cb, 0, none⟩), .slice A l.length c] w fun e w' => e = .returned (.tuple #[.int .i64 (schemaCheck rs gs l).1, .int .i64 (schemaCheck rs gs l).2]) ∧ Pure w w' := by
  have HNO := As.mk (none_calls h hok.ne)
  have HFC := As.mk (Check_calls (c := c) hr hb)
  have HH := As.mk h
  have HOK := As.mk hok
  have HR := As.mk hr
  obtain ⟨AL, cL, AG, cG, p0, p1, hcb, hle, hrow, hgrow⟩ := h.cells
  have HG := As.mk hgrow
  have HROW := As.mk hrow
  obtain ⟨y, hy⟩ : ∃ y, rs[0]? = some y := ⟨_, List.getElem?_eq_getElem (List.length_pos_iff.2 hok.ne)⟩
  obtain ⟨x0, e0⟩ := y
  obtain ⟨b0, o0, A1, c1, rfl, _, hb0, d0, d1, d2, d3, d4, d5, d6, d7, d8, d9, hl1, hx1⟩ := rule_at hrow hy
  simp only [Nat.zero_mul, Nat.add_zero] at d0 d1 d2 d3 d4 d5 d6 d7 d8 d9
  have hlen : l.length ≤ 2048 := by
    rcases Nat.lt_or_ge 2048 l.length with h9 | h9
    · exfalso
      unfold flatCheck at hf
      rw [if_pos (by omega)] at hf
      simp at hf
    · exact h9
  have hE : schemaCheck rs gs l = ckGo rs gs 0 ((x0, e0), []) [] l := by
    unfold schemaCheck
    rw [if_pos hf]
    unfold ruleOf
    rw [show (0 : Int).toNat = 0 from rfl, hy]
    rfl
  have hF : fcGo 0 0 l = ((l.length : Int), (0 : Int)) := by
    have hu : flatCheck l = fcGo 0 0 l := by unfold flatCheck; rw [if_neg (by omega)]
    rw [hu] at hf
    have h1 := fcGo_at l 0 0 hf
    rw [Prod.ext_iff]
    exact ⟨by simpa using h1, hf⟩
  have HE := As.mk hE
  have HFL := As.mk hF
  have HM0 := As.mk (List.mem_of_getElem? hy)
  have HX1 := As.mk (And.intro hl1 (Rp.row_move (fun k (hk : True) hl => ⟨hl, hl, rfl⟩) hx1 : exR.row w (fun k => k < w.heap.size) A1 e0.l))
  have t1 : ((flatCheck l).2 != 0) = false := by simpa using hf
  have hpos : 0 < rs.length := List.length_pos_iff.2 hok.ne
  have hrl : rs.length ≤ 1000 := hok.len
  have hfz : (flatCheck l).2 = 0 := hf
  rw [hfz] at HFC
  clear h hok hr hf hE hF hrow hgrow hx1 hl1 hfz t1 hy
  go_enter Tryz.func15, Tryz.ntmps15
  go_wp2_with (first | (go_at_call 64; refine HFC.out.mono ?_; rintro r w2 ⟨rfl, hu⟩; have HU2 := As.mk hu; obtain ⟨oc, of⟩ := hu.olds; have hz2 := hu.size; clear hu) | (go_at_call 63; refine HNO.out.mono ?_; rintro r w1 ⟨rfl, hw⟩; replace hw := hw.symm; subst hw))
  go_loopg [9, 34] l.length (fun gg ov i wr => ∃ (k d b cap : Nat), k + gg = l.length ∧ i = .int .i64 k ∧ ov = .slice (some ⟨b, 0, none⟩) (d + 1) cap ∧ As (∃ rv top below, d = below.length ∧ CkRel w rs gs l k b cap rv top below wr))
  case atStart =>
    exact ⟨0, 0, w2.heap.size, 1, by omega, rfl, rfl, ⟨[((x0, e0), .slice none 0 0)], ((x0, e0), []), [], rfl, ⟨⟨[[]], Opn.start HU2.out HX1.out.1 (Rp.row_pure HX1.out.2 HU2.out), rfl⟩, rfl, HE.out.symm, HFL.out, fun p hp => by
      simp only [List.mem_singleton] at hp
      subst hp
      exact ⟨Nat.zero_le _, HM0.out⟩⟩⟩⟩
  case round =>
    obtain ⟨k, d, b, cap, hk, rfl, rfl, HC⟩ := hrel
    clear oc of d0 d1 d2 d3 d4 d5 d6 d7 d8 d9 hb0 HU2 hz2 HE HFL HM0 HX1 HNO HFC
    by_cases hlt : k < l.length
    · obtain ⟨x, hx⟩ : ∃ x, l[k]? = some x := ⟨_, List.getElem?_eq_getElem hlt⟩
      obtain ⟨rv, top, below, hd, hC⟩ := HC.out
      obtain ⟨init, v, wi, hrv, hil, hop, him, hwi⟩ := hC.split
      obtain rfl : d = init.length := hd.trans hil.symm
      obtain ⟨⟨x1, e1⟩, wd⟩ := top
      replace hop : Opn w b cap (init ++ [((x1, e1), v)]) (wi ++ [wd]) wr := hop
      have hup := hop.up
      have HUP := As.mk hup
      obtain ⟨bt, ot, rfl, hFb, hbl, q0, q1, q2, q3⟩ := tok_at (Rp.row_pure HR.out hup) hx
      obtain ⟨A2, c2, m3, m6, m7, m8, m9, m10, hl2, hx2⟩ := hop.lev (j := init.length) (x := x1) (e := e1) (v := v) (by simp)
      have hbb := hop.blt
      have hroom := hop.room
      rw [show (init ++ [((x1, e1), v)]).length = init.length + 1 by simp] at hroom
      obtain ⟨Aw, cw, rfl, hlw, hrw⟩ := Rp.own_slice hop.top
      have pc0 := (hup.cell (o := 0) hcb (fun h => h)).trans p0
      have pc1 := (hup.cell (o := 1) hcb (fun h => h)).trans p1
      have hcb2 := Nat.lt_of_lt_of_le hcb hup.size
      have hgo := hC.go
      have hfl := hC.flat
      rw [drop_cons hx] at hgo hfl
      have hwords := hC.words
      have hw1 : wd.length ≤ k ∧ (x1, e1) ∈ rs := hwords ((x1, e1), wd) List.mem_cons_self
      have HOP := As.mk hop
      have HIM := As.mk (And.intro him hwi)
      have HK := As.mk hk
      have HWD := As.mk hwords
      have hd33 : init.length ≤ 2048 := by
        have h9 := fcGo_depth _ _ _ (by rw [hfl])
        rw [List.length_cons, List.length_drop] at h9
        omega
      have HACC := As.mk (fun V (hu : Pure wr V) => acc_calls (c := c2) (d := cG) (cw := cw) (SchR.made HOK.out HG.out (HUP.out.trans hu (fun _ _ h => h)) hw1.2 (Rp.row_pure hx2 hu)) (Rp.row_pure hrw hu) (by have := hw1.1; omega))
      obtain ⟨g1, rfl⟩ : ∃ m, gk = m + 1 := ⟨gk - 1, by omega⟩
      obtain ⟨W, hW⟩ : ∃ W, W = wr.alloc (.cells #[.int .i64 x.k, .int .i64 x.t, .int .i64 x.n, .int .i64 x.m] 71) := ⟨_, rfl⟩
      have HPW := As.mk (show Pure wr W from hW ▸ Upd.alloc1 _ _ _)
      have hWb : W.heap[wr.heap.size]? = some (.cells #[.int .i64 x.k, .int .i64 x.t, .int .i64 x.n, .int .i64 x.m] 71) := hW ▸ heap_alloc_new wr _
      have HWB := As.mk hWb
      have HWS := As.mk (show W.heap.size = wr.heap.size + 1 by subst hW; simp)
      have HCEL : As (∀ V, Pure wr V → V.cell? ⟨b, init.length * 11 + 7, none⟩ = some (.int .i64 e1.k) ∧ V.cell? ⟨b, init.length * 11 + 8, none⟩ = some (.string e1.name) ∧ V.cell? ⟨b, init.length * 11 + 9, none⟩ = some (.slice A2 e1.l.length c2) ∧ V.cell? ⟨b, init.length * 11 + 10, none⟩ = some (.slice Aw wd.length cw) ∧ V.cell? ⟨cb, 1, none⟩ = some (.slice AG gs.length cG)) := ⟨fun V hu => ⟨(hu.cell hbb (fun h => h)).trans m7, (hu.cell hbb (fun h => h)).trans m8, (hu.cell hbb (fun h => h)).trans m9, (hu.cell hbb (fun h => h)).trans m10, (hu.cell hcb2 (fun h => h)).trans pc1⟩⟩
      clear hwords hx2 hrw hC hd hil hop him hwi hx HC hk hup hrv
      by_cases h2 : x.k = 2
      · have e2 : (x.k == 2) = true := by simp [h2]
        obtain ⟨hn0, hfl2⟩ := fc_close hfl h2
        have HFL2 := As.mk hfl2
        cases hacc : regAccepts e1 gs wd
        · have HV := As.mk (show ((k : Int), (9 : Int)) = schemaCheck rs gs l by rw [← hgo, ck_noclose h2 hacc])
          rw [hacc] at HACC
          clear hgo hfl hfl2 h2 hn0 hacc
          go_wp2
          rw [← hW]
          clear hW
          refine wp_region_held_drew (S := (fun V => V.cell? ⟨b, init.length * 11 + 7, none⟩ = some (.int .i64 e1.k) ∧ V.cell? ⟨b, init.length * 11 + 8, none⟩ = some (.string e1.name) ∧ V.cell? ⟨b, init.length * 11 + 9, none⟩ = some (.slice A2 e1.l.length c2) ∧ V.cell? ⟨b, init.length * 11 + 10, none⟩ = some (.slice Aw wd.length cw) ∧ V.cell? ⟨cb, 1, none⟩ = some (.slice AG gs.length cG))) (by kernel_rfl) ?_ (fun hHeld => ?_)
          · first | exact HCEL.out _ HPW.out.drew | exact HCEL.out _ HU3.out
          refine zH 0 ?_
          refine zH 1 ?_
          refine zH 2 ?_
          refine zH 3 ?_
          (try simp only [Act.put, sA, sB, sC])
          refine zH 4 ?_
          refine zH 5 ?_
          refine zH 6 ?_
          refine zH 7 ?_
          (try simp only [Act.put, sA, sB, sC])
          refine zH 8 ?_
          refine zH 9 ?_
          refine zH 10 ?_
          refine zH 11 ?_
          (try simp only [Act.put, sA, sB, sC])
          refine zH 12 ?_
          refine wpAnyH_ready (rs := [13]) (by kernel_rfl) (by simp) (AllReadyH.cons (o := { dst := (some 60), op := (Go.Op.call { callee := (Go.Callee.value (Go.Operand.func 66)), args := #[(Go.Operand.tmp 51), (Go.Operand.tmp 55), (Go.Operand.tmp 59)], argTypes := #[92, 86, 83] }), type := 4, pos := "schema.go:134", after := #[{ on := 4, ground := Go.Ground.data }, { on := 8, ground := Go.Ground.data }, { on := 12, ground := Go.Ground.data }], guard := none }) rfl (fun K hK => ?_) AllReadyH.nil)
          go_simp
          (go_at_call 66; refine (HACC.out _ HPW.out.drew).mono ?_; rintro r w3 ⟨rfl, hu⟩; have HU3 := As.mk (HPW.out.drew.trans hu (fun _ _ h => h)); clear hu)
          refine hK.out _ _ (by first | exact HCEL.out _ HPW.out.drew | exact HCEL.out _ HU3.out) (fun hHeld => ?_)
          clear hK K
          (try simp only [Act.put, sA, sB, sC])
          refine zH 14 ?_
          refine wpAnyH_done (by kernel_rfl) ?_ _
          go_wp2
          exact bodyPost_ret (v := .tuple #[.int .i64 (k : Int), .int .i64 9]) (by simp [results, Tryz.results15, go_sem]) rfl ⟨by rw [← HV.out], HUP.out.trans HU3.out (fun _ _ h => h)⟩
        · obtain ⟨p, q, rfl⟩ : ∃ p q, below = p :: q := by
            cases below with
            | nil => exact absurd rfl hn0
            | cons p q => exact ⟨p, q, rfl⟩
          have HV := As.mk (show ckGo rs gs (k + 1) p q (l.drop (k + 1)) = schemaCheck rs gs l by rw [← hgo, ck_close h2 hacc])
          have HIL2 := As.mk (show init.length = q.length + 1 by have := congrArg List.length HIM.out.1; simpa using this)
          rw [hacc] at HACC
          clear hgo hfl hfl2 h2 hn0 hacc
          go_wp2
          rw [← hW]
          clear hW
          refine wp_region_held_drew (S := (fun V => V.cell? ⟨b, init.length * 11 + 7, none⟩ = some (.int .i64 e1.k) ∧ V.cell? ⟨b, init.length * 11 + 8, none⟩ = some (.string e1.name) ∧ V.cell? ⟨b, init.length * 11 + 9, none⟩ = some (.slice A2 e1.l.length c2) ∧ V.cell? ⟨b, init.length * 11 + 10, none⟩ = some (.slice Aw wd.length cw) ∧ V.cell? ⟨cb, 1, none⟩ = some (.slice AG gs.length cG))) (by kernel_rfl) ?_ (fun hHeld => ?_)
          · first | exact HCEL.out _ HPW.out.drew | exact HCEL.out _ HU3.out
          refine zH 0 ?_
          (try simp only [Act.put, sA, sB, sC])
          refine zH 1 ?_
          refine zH 2 ?_
          refine zH 3 ?_
          refine zH 4 ?_
          (try simp only [Act.put, sA, sB, sC])
          refine zH 5 ?_
          refine zH 6 ?_
          refine zH 7 ?_
          refine zH 8 ?_
          (try simp only [Act.put, sA, sB, sC])
          refine zH 9 ?_
          refine zH 10 ?_
          refine zH 11 ?_
          refine zH 12 ?_
          (try simp only [Act.put, sA, sB, sC])
          refine wpAnyH_ready (rs := [13]) (by kernel_rfl) (by simp) (AllReadyH.cons (o := { dst := (some 60), op := (Go.Op.call { callee := (Go.Callee.value (Go.Operand.func 66)), args := #[(Go.Operand.tmp 51), (Go.Operand.tmp 55), (Go.Operand.tmp 59)], argTypes := #[92, 86, 83] }), type := 4, pos := "schema.go:134", after := #[{ on := 4, ground := Go.Ground.data }, { on := 8, ground := Go.Ground.data }, { on := 12, ground := Go.Ground.data }], guard := none }) rfl (fun K hK => ?_) AllReadyH.nil)
          go_simp
          (go_at_call 66; refine (HACC.out _ HPW.out.drew).mono ?_; rintro r w3 ⟨rfl, hu⟩; have HU3 := As.mk (HPW.out.drew.trans hu (fun _ _ h => h)); clear hu)
          refine hK.out _ _ (by first | exact HCEL.out _ HPW.out.drew | exact HCEL.out _ HU3.out) (fun hHeld => ?_)
          clear hK K
          (try simp only [Act.put, sA, sB, sC])
          refine zH 14 ?_
          refine wpAnyH_done (by kernel_rfl) ?_ _
          go_wp2
          go_roundg g1
          case measure => omega
          case rel => exact ⟨k + 1, q.length, b, cap, by have := HK.out; omega, by go_num, by rw [HIL2.out], ⟨init, p, q, rfl, CkRel.closed HWD.out HOP.out HIM.out.1 HIM.out.2 HV.out (by simpa using HFL2.out) HU3.out⟩⟩
      · have e2 : (x.k == 2) = false := by simp [h2]
        have HTOP := As.mk (Rp.own_drew (int_own_upd HOP.out.top HPW.out (fun _ _ h => h)))
        have HLEN := As.mk (show (wd.length + 1) * 8 ≤ 140737488355328 by have := hw1.1; omega)
        have HBB := As.mk (And.intro hbb (HOP.out.frozen (init.length * 11 + 10)))
        have HSK : As (∀ V, Upd (fun q => (Value.slice Aw wd.length cw).ownBlock = some q) W.drew V → V.cell? ⟨b, init.length * 11 + 10, none⟩ = some (.slice Aw wd.length cw) ∧ V.frozen? ⟨b, init.length * 11 + 10, none⟩ = false ∧ V.cell? ⟨wr.heap.size, 1, none⟩ = some (.int .i64 x.t)) := ⟨by
          intro V hu
          have hnb : ¬ (Value.slice Aw wd.length cw).ownBlock = some b := fun e => (Rp.own_block_lt HOP.out.top b e).1.2 rfl
          have hnt : ¬ (Value.slice Aw wd.length cw).ownBlock = some wr.heap.size := fun e => by have := (Rp.own_block_lt HOP.out.top _ e).2; omega
          have hbW : b < W.drew.heap.size := by have := HWS.out; have := HBB.out.1; show b < W.heap.size; omega
          have htW : wr.heap.size < W.drew.heap.size := by have := HWS.out; show wr.heap.size < W.heap.size; omega
          refine ⟨(hu.cell hbW hnb).trans (HCEL.out _ HPW.out.drew).2.2.2.1, (hu.frozen hbW hnb).trans ((HPW.out.drew.frozen HBB.out.1 (fun h => h)).trans HBB.out.2), (hu.cell htW hnt).trans ?_⟩
          show W.cell? _ = _
          unfold World.cell?; simp only [HWB.out]; rfl⟩
        clear hw1
        go_wp2
        rw [← hW]
        clear hW
        refine wp_region_T (P := Tryz.prog) (fun V => V.cell? ⟨b, init.length * 11 + 10, none⟩ = some (.slice Aw wd.length cw) ∧ V.frozen? ⟨b, init.length * 11 + 10, none⟩ = false ∧ V.cell? ⟨wr.heap.size, 1, none⟩ = some (.int .i64 x.t)) 11 (by kernel_rfl) ?_ (fun hHeld => ?_)
        · first | exact HSK.out _ (Upd.refl _ _) | exact HSK.out _ (Upd.alloc1 _ _ _) | exact HSK.out _ HU4.out
        refine zT 0 ?_
        refine zT 1 ?_
        (try simp only [Act.put, sA, sB, sC])
        refine zT 2 ?_
        refine zT 3 ?_
        refine zT 4 ?_
        refine zT 5 ?_
        (try simp only [Act.put, sA, sB, sC])
        refine zT 6 ?_
        refine oT 7 (fun K hK => ?_)
        go_simp
        refine hK.out _ _ (fun _ => by first | exact HSK.out _ (Upd.refl _ _) | exact HSK.out _ (Upd.alloc1 _ _ _) | exact HSK.out _ HU4.out) (fun hHeld => ?_)
        replace hHeld := hHeld (by decide)
        clear hK K
        (try simp only [Act.put, sA, sB, sC])
        refine oT 8 (fun K hK => ?_)
        refine Rp.step_append_keen intRS (W := W.drew) (Fp := fun _ => False) HTOP.out x.t [.int .i64 x.t] rfl (fun _ h => h.elim) (by rfl) _ _ 83 (.int .i64 0) 8 (by rfl) Tryz.underlying83 int_infoS rfl (by decide) (by decide) (by rfl) (n := W.heap.size) rfl (by rfl) HLEN.out ?_; intro v4 w4 ho4 hu4 hat4; obtain ⟨A4, c4, rfl, hl4, hr4⟩ := Rp.own_slice ho4; have HO4 := As.mk ho4; have HU4 := As.mk hu4; have HAT4 := As.mk hat4; obtain ⟨s1, s2, s3⟩ := HSK.out w4 hu4; clear ho4 hu4 hat4 hl4 hr4
        refine hK.out _ _ (fun _ => by first | exact HSK.out _ (Upd.refl _ _) | exact HSK.out _ (Upd.alloc1 _ _ _) | exact HSK.out _ HU4.out) (fun hHeld => ?_)
        replace hHeld := hHeld (by decide)
        clear hK K
        (try simp only [Act.put, sA, sB, sC])
        refine oT 9 (fun K hK => ?_)
        go_simp
        refine hK.out _ _ (fun _ => by first | exact HSK.out _ (Upd.refl _ _) | exact HSK.out _ (Upd.alloc1 _ _ _) | exact HSK.out _ HU4.out) (fun hHeld => ?_)
        replace hHeld := hHeld (by decide)
        clear hK K
        (try simp only [Act.put, sA, sB, sC])
        refine zT 10 ?_
        refine oT 11 (fun K hK => ?_)
        go_simp
        refine hK.out _ _ (fun h => absurd rfl h) (fun hHeld => ?_)
        clear hK K
        (try simp only [Act.put, sA, sB, sC])
        refine wpAnyT_done (by kernel_rfl) ?_ _
        obtain ⟨W5, hW5⟩ : ∃ W5, W5 = w4.setCell ⟨b, init.length * 11 + 10, none⟩ (.slice A4 (wd ++ [x.t]).length c4) := ⟨_, rfl⟩
        have HOP5 : As (Opn w b cap (init ++ [((x1, e1), .slice A4 (wd ++ [x.t]).length c4)]) (wi ++ [wd ++ [x.t]]) W5) := ⟨by
          rw [hW5]
          have hws := HWS.out
          have hsz : W.drew.heap.size = W.heap.size := rfl
          refine HOP.out.grow HO4.out (fun q hq => ?_) ((HPW.out.drew.mono (fun _ _ h => h.elim)).trans HU4.out (fun _ _ h => h)) ?_
          · rcases HAT4.out with e | ⟨q', hq', hle⟩
            · rw [e] at hq
              exact (Rp.own_block_lt HOP.out.top q hq).1
            · rw [hq'] at hq
              injection hq with hq
              have := HOP.out.ge
              have := HBB.out.1
              omega
          · rcases HAT4.out with e | ⟨q', hq', hle⟩
            · exact .inl e
            · exact .inr ⟨q', hq', by omega⟩⟩
        have HTK : As (∀ V, Pure W5 V → V.cell? ⟨wr.heap.size, 0, none⟩ = some (.int .i64 x.k) ∧ V.cell? ⟨wr.heap.size, 1, none⟩ = some (.int .i64 x.t) ∧ V.cell? ⟨wr.heap.size, 2, none⟩ = some (.int .i64 x.n) ∧ V.cell? ⟨wr.heap.size, 3, none⟩ = some (.int .i64 x.m)) := ⟨by
          intro V hu
          have hws := HWS.out
          have hnt : ¬ (Value.slice Aw wd.length cw).ownBlock = some wr.heap.size := fun e => by have := (Rp.own_block_lt HOP.out.top _ e).2; omega
          have hblk : W5.heap[wr.heap.size]? = some (.cells #[.int .i64 x.k, .int .i64 x.t, .int .i64 x.n, .int .i64 x.m] 71) := by
            rw [hW5]
            rw [Below.heap_setCell _ _ _ _ (by have := HBB.out.1; simp; omega), HU4.out.block _ (by show wr.heap.size < W.heap.size; omega) hnt]
            exact HWB.out
          have hb5 := (hu.block wr.heap.size (Array.getElem?_eq_some_iff.1 hblk).1 (fun h => h)).trans hblk
          refine ⟨?_, ?_, ?_, ?_⟩ <;> (unfold World.cell?; simp only [hb5]; rfl)⟩
        have HLT5 := As.mk (show wr.heap.size < W5.heap.size by
          have h1 := HU4.out.size
          have h2 := HWS.out
          have h3 : W.drew.heap.size = W.heap.size := rfl
          have h4 : W5.heap.size = w4.heap.size := by rw [hW5]; simp [World.setCell]
          omega)
        rw [List.length_append, List.length_singleton] at hW5
        try rw [← hW5]
        clear hW5
        obtain ⟨A3, c3, n3, n6, n7, n8, n9, n10, hl3, hx3⟩ := HOP5.out.lev (j := init.length) (x := x1) (e := e1) (v := .slice A4 (wd ++ [x.t]).length c4) (by simp)
        have HUP5 := As.mk HOP5.out.up
        have pd1 := (HOP5.out.up.cell (o := 1) hcb (fun h => h)).trans p1
        rw [List.length_append, List.length_singleton] at n10
        have hb5 := HOP5.out.blt
        have hcb5 := Nat.lt_of_lt_of_le hcb HOP5.out.up.size
        have HCEL5 : As (∀ V, Pure W5 V → (V.cell? ⟨b, init.length * 11 + 7, none⟩ = some (.int .i64 e1.k) ∧ V.cell? ⟨b, init.length * 11 + 8, none⟩ = some (.string e1.name) ∧ V.cell? ⟨b, init.length * 11 + 9, none⟩ = some (.slice A3 e1.l.length c3) ∧ V.cell? ⟨b, init.length * 11 + 10, none⟩ = some (.slice A4 (wd.length + 1) c4) ∧ V.cell? ⟨cb, 1, none⟩ = some (.slice AG gs.length cG)) ∧ V.cell? ⟨wr.heap.size, 0, none⟩ = some (.int .i64 x.k) ∧ V.cell? ⟨wr.heap.size, 1, none⟩ = some (.int .i64 x.t) ∧ V.cell? ⟨wr.heap.size, 2, none⟩ = some (.int .i64 x.n) ∧ V.cell? ⟨wr.heap.size, 3, none⟩ = some (.int .i64 x.m)) := ⟨fun V hu => ⟨⟨(hu.cell hb5 (fun h => h)).trans n7, (hu.cell hb5 (fun h => h)).trans n8, (hu.cell hb5 (fun h => h)).trans n9, (hu.cell hb5 (fun h => h)).trans n10, (hu.cell hcb5 (fun h => h)).trans pd1⟩, HTK.out V hu⟩⟩
        have HMAY := As.mk (fun V (hu : Pure W5 V) => may_calls (HH.out.pure (HUP5.out.trans hu (fun _ _ h => h))) HOK.out.ne HOK.out.len (Nat.lt_of_lt_of_le hb5 hu.size) ((hu.cell hb5 (fun h => h)).trans n3) ((hu.cell hb5 (fun h => h)).trans n6) x)
        have hrw5 : intRS.row W5 (fun k => w.heap.size ≤ k ∧ k ≠ b) A4 (wd ++ [x.t]) := by
          obtain ⟨A', c', hv', _, hr'⟩ := Rp.own_slice HOP5.out.top
          simp only [Value.slice.injEq] at hv'
          obtain ⟨rfl, _, _⟩ := hv'
          exact hr'
        have hm1 : (x1, e1) ∈ rs := (HWD.out ((x1, e1), wd) List.mem_cons_self).2
        have hwl : wd.length ≤ k := (HWD.out ((x1, e1), wd) List.mem_cons_self).1
        have HBEG := As.mk (fun V (hu : Pure W5 V) => beg_calls (c := c3) (d := cG) (cw := c4) (SchR.made HOK.out HG.out (HUP5.out.trans hu (fun _ _ h => h)) hm1 (Rp.row_pure hx3 hu)) (Rp.row_pure hrw5 hu) (by simp; omega))
        rw [List.length_append, List.length_singleton] at HBEG
        have hrows := hrw5
        clear hrw5 hx3 s1 s2 s3 m3 m6 m7 m8 m9 m10 n3 n6 n7 n8 n9 n10 pd1 hrows HTOP HBB HSK HCEL HO4 HU4 HAT4 HPW HWB HWS HACC
        cases hm : mayT rs x1 x
        · have HV := As.mk (show ((k : Int), (9 : Int)) = schemaCheck rs gs l by rw [← hgo, ck_bad h2 (by unfold stepOk; simp only [hm]; rfl)])
          rw [hm] at HMAY
          clear hgo hfl h2 hm
          go_wp2
          refine wp_region_held_drew (S := (fun V => (V.cell? ⟨b, init.length * 11 + 7, none⟩ = some (.int .i64 e1.k) ∧ V.cell? ⟨b, init.length * 11 + 8, none⟩ = some (.string e1.name) ∧ V.cell? ⟨b, init.length * 11 + 9, none⟩ = some (.slice A3 e1.l.length c3) ∧ V.cell? ⟨b, init.length * 11 + 10, none⟩ = some (.slice A4 (wd.length + 1) c4) ∧ V.cell? ⟨cb, 1, none⟩ = some (.slice AG gs.length cG)) ∧ V.cell? ⟨wr.heap.size, 0, none⟩ = some (.int .i64 x.k) ∧ V.cell? ⟨wr.heap.size, 1, none⟩ = some (.int .i64 x.t) ∧ V.cell? ⟨wr.heap.size, 2, none⟩ = some (.int .i64 x.n) ∧ V.cell? ⟨wr.heap.size, 3, none⟩ = some (.int .i64 x.m))) (by kernel_rfl) ?_ (fun hHeld => ?_)
          · first | exact HCEL5.out _ HU6.out | exact HCEL5.out _ ((Upd.refl _ _).drew)
          refine zH 0 ?_
          refine zH 1 ?_
          (try simp only [Act.put, sA, sB, sC])
          refine zH 2 ?_
          refine wpAnyH_ready (rs := [3]) (by kernel_rfl) (by simp) (AllReadyH.cons (o := { dst := (some 82), op := (Go.Op.call { callee := (Go.Callee.value (Go.Operand.func 67)), args := #[(Go.Operand.tmp 79), (Go.Operand.tmp 80), (Go.Operand.tmp 81)], argTypes := #[101, 24, 71] }), type := 4, pos := "schema.go:141", after := #[{ on := 0, ground := Go.Ground.data }, { on := 1, ground := Go.Ground.data }, { on := 2, ground := Go.Ground.data }], guard := none }) rfl (fun K hK => ?_) AllReadyH.nil)
          go_simp
          (go_at_call 67; refine (HMAY.out _ ((Upd.refl _ _).drew)).mono ?_; rintro r w6 ⟨rfl, hu⟩; have HU6 := As.mk (Upd.trans ((Upd.refl (fun _ => False) W5).drew) hu (fun _ _ h => h)); clear hu)
          refine hK.out _ _ (by first | exact HCEL5.out _ HU6.out | exact HCEL5.out _ ((Upd.refl _ _).drew)) (fun hHeld => ?_)
          clear hK K
          (try simp only [Act.put, sA, sB, sC])
          refine zH 4 ?_
          refine zH 5 ?_
          (try simp only [Act.put, sA, sB, sC])
          refine sH 6 ?_
          refine sH 7 ?_
          refine sH 8 ?_
          refine sH 9 ?_
          (try simp only [Act.put, sA, sB, sC])
          refine sH 10 ?_
          refine sH 11 ?_
          refine sH 12 ?_
          refine sH 13 ?_
          (try simp only [Act.put, sA, sB, sC])
          refine sH 14 ?_
          refine sH 15 ?_
          refine sH 16 ?_
          refine sH 17 ?_
          (try simp only [Act.put, sA, sB, sC])
          refine sH 18 ?_
          refine sH 19 ?_
          refine sH 20 ?_
          refine sH 21 ?_
          (try simp only [Act.put, sA, sB, sC])
          refine sH 22 ?_
          refine sH 23 ?_
          refine sH 24 ?_
          refine sH 25 ?_
          (try simp only [Act.put, sA, sB, sC])
          refine sH 26 ?_
          refine zH 27 ?_
          refine wpAnyH_done (by kernel_rfl) ?_ _
          go_wp2
          exact bodyPost_ret (v := .tuple #[.int .i64 (k : Int), .int .i64 9]) (by simp [results, Tryz.results15, go_sem]) rfl ⟨by rw [← HV.out], HUP5.out.trans HU6.out (fun _ _ h => h)⟩
        · have hst : stepOk rs gs ((x1, e1), wd) x = decide (wd.length + 1 ≤ regBegins e1 gs (wd ++ [x.t])) := by
            unfold stepOk
            simp only [hm]
            exact Bool.true_and _
          rw [hm] at HMAY
          cases hbg : decide (wd.length + 1 ≤ regBegins e1 gs (wd ++ [x.t]))
          · rw [hbg] at hst
            have HV := As.mk (show ((k : Int), (9 : Int)) = schemaCheck rs gs l by rw [← hgo, ck_bad h2 hst])
            clear hgo hfl h2 hm hst
            generalize regBegins e1 gs (wd ++ [x.t]) = bg at *
            have u1 : decide ((bg : Int) < (wd.length : Int) + 1) = true := by
              simp only [decide_eq_false_iff_not] at hbg
              rw [decide_eq_true_eq]; omega
            have u2 : decide (bg < wd.length + 1) = true := by
              simp only [decide_eq_false_iff_not] at hbg
              rw [decide_eq_true_eq]; omega
            clear hbg
            go_wp2
            refine wp_region_held_drew (S := (fun V => (V.cell? ⟨b, init.length * 11 + 7, none⟩ = some (.int .i64 e1.k) ∧ V.cell? ⟨b, init.length * 11 + 8, none⟩ = some (.string e1.name) ∧ V.cell? ⟨b, init.length * 11 + 9, none⟩ = some (.slice A3 e1.l.length c3) ∧ V.cell? ⟨b, init.length * 11 + 10, none⟩ = some (.slice A4 (wd.length + 1) c4) ∧ V.cell? ⟨cb, 1, none⟩ = some (.slice AG gs.length cG)) ∧ V.cell? ⟨wr.heap.size, 0, none⟩ = some (.int .i64 x.k) ∧ V.cell? ⟨wr.heap.size, 1, none⟩ = some (.int .i64 x.t) ∧ V.cell? ⟨wr.heap.size, 2, none⟩ = some (.int .i64 x.n) ∧ V.cell? ⟨wr.heap.size, 3, none⟩ = some (.int .i64 x.m))) (by kernel_rfl) ?_ (fun hHeld => ?_)
            · first | exact HCEL5.out _ HU7.out | exact HCEL5.out _ HU6.out | exact HCEL5.out _ ((Upd.refl _ _).drew)
            refine zH 0 ?_
            refine zH 1 ?_
            (try simp only [Act.put, sA, sB, sC])
            refine zH 2 ?_
            refine wpAnyH_ready (rs := [3]) (by kernel_rfl) (by simp) (AllReadyH.cons (o := { dst := (some 82), op := (Go.Op.call { callee := (Go.Callee.value (Go.Operand.func 67)), args := #[(Go.Operand.tmp 79), (Go.Operand.tmp 80), (Go.Operand.tmp 81)], argTypes := #[101, 24, 71] }), type := 4, pos := "schema.go:141", after := #[{ on := 0, ground := Go.Ground.data }, { on := 1, ground := Go.Ground.data }, { on := 2, ground := Go.Ground.data }], guard := none }) rfl (fun K hK => ?_) AllReadyH.nil)
            go_simp
            (first | (go_at_call 65; refine (HBEG.out _ HU6.out).mono ?_; rintro r w7 ⟨rfl, hu⟩; have HU7 := As.mk (HU6.out.trans hu (fun _ _ h => h)); clear hu) | (go_at_call 67; refine (HMAY.out _ ((Upd.refl _ _).drew)).mono ?_; rintro r w6 ⟨rfl, hu⟩; have HU6 := As.mk (Upd.trans ((Upd.refl (fun _ => False) W5).drew) hu (fun _ _ h => h)); clear hu))
            refine hK.out _ _ (by first | exact HCEL5.out _ HU7.out | exact HCEL5.out _ HU6.out | exact HCEL5.out _ ((Upd.refl _ _).drew)) (fun hHeld => ?_)
            clear hK K
            (try simp only [Act.put, sA, sB, sC])
            refine zH 4 ?_
            refine zH 5 ?_
            (try simp only [Act.put, sA, sB, sC])
            refine zH 6 ?_
            refine zH 7 ?_
            refine zH 8 ?_
            refine zH 9 ?_
            (try simp only [Act.put, sA, sB, sC])
            refine zH 10 ?_
            refine zH 11 ?_
            refine zH 12 ?_
            refine zH 13 ?_
            (try simp only [Act.put, sA, sB, sC])
            refine zH 14 ?_
            refine zH 15 ?_
            refine zH 16 ?_
            refine zH 17 ?_
            (try simp only [Act.put, sA, sB, sC])
            refine zH 18 ?_
            refine zH 19 ?_
            refine zH 21 ?_
            refine zH 22 ?_
            (try simp only [Act.put, sA, sB, sC])
            refine zH 23 ?_
            refine zH 24 ?_
            refine zH 25 ?_
            refine wpAnyH_ready (rs := [20]) (by kernel_rfl) (by simp) (AllReadyH.cons (o := { dst := (some 99), op := (Go.Op.call { callee := (Go.Callee.value (Go.Operand.tmp 85)), args := #[(Go.Operand.tmp 90), (Go.Operand.tmp 94), (Go.Operand.tmp 98)], argTypes := #[92, 86, 83] }), type := 3, pos := "schema.go:141", after := #[{ on := 6, ground := Go.Ground.data }, { on := 11, ground := Go.Ground.data }, { on := 15, ground := Go.Ground.data }, { on := 19, ground := Go.Ground.data }, { on := 5, ground := Go.Ground.chain }, { on := 5, ground := Go.Ground.guard }], guard := (some (5, false)) }) rfl (fun K hK => ?_) AllReadyH.nil)
            go_simp
            (first | (go_at_call 65; refine (HBEG.out _ HU6.out).mono ?_; rintro r w7 ⟨rfl, hu⟩; have HU7 := As.mk (HU6.out.trans hu (fun _ _ h => h)); clear hu) | (go_at_call 67; refine (HMAY.out _ ((Upd.refl _ _).drew)).mono ?_; rintro r w6 ⟨rfl, hu⟩; have HU6 := As.mk (Upd.trans ((Upd.refl (fun _ => False) W5).drew) hu (fun _ _ h => h)); clear hu))
            refine hK.out _ _ (by first | exact HCEL5.out _ HU7.out | exact HCEL5.out _ HU6.out | exact HCEL5.out _ ((Upd.refl _ _).drew)) (fun hHeld => ?_)
            clear hK K
            (try simp only [Act.put, sA, sB, sC])
            refine zH 26 ?_
            refine zH 27 ?_
            refine wpAnyH_done (by kernel_rfl) ?_ _
            go_wp2
            exact bodyPost_ret (v := .tuple #[.int .i64 (k : Int), .int .i64 9]) (by simp [results, Tryz.results15, go_sem]) rfl ⟨by rw [← HV.out], HUP5.out.trans HU7.out (fun _ _ h => h)⟩
          · rw [hbg] at hst
            have HST := As.mk hst
            generalize regBegins e1 gs (wd ++ [x.t]) = bg at *
            have u1 : decide ((bg : Int) < (wd.length : Int) + 1) = false := by
              simp only [decide_eq_true_eq] at hbg
              rw [decide_eq_false_iff_not]; omega
            have u2 : decide (bg < wd.length + 1) = false := by
              simp only [decide_eq_true_eq] at hbg
              rw [decide_eq_false_iff_not]; omega
            clear hbg hst
            by_cases h1 : x.k = 1
            · have e1' : (x.k == 1) = true := by simp [h1]
              obtain ⟨j, hj, y, ye, hy, hru⟩ := mayT_open h1 hm
              have HJ := As.mk hj
              clear hj
              have HV := As.mk (show ckGo rs gs (k + 1) ((y, ye), []) (((x1, e1), wd ++ [x.t]) :: below) (l.drop (k + 1)) = schemaCheck rs gs l by rw [← hgo, ck_open h1 HST.out, hru])
              have HF := As.mk (fc_open hfl h1)
              have HYM := As.mk (List.mem_of_getElem? hy)
              obtain ⟨by', oy', Ay, cy, hA, _, hby, g0, g1', g2, g3, g4, g5, g6, g7, g8, g9, hly, hxy⟩ := rule_at HROW.out hy
              simp only [Option.some.injEq, Addr.mk.injEq] at hA
              obtain ⟨rfl, rfl, _⟩ := hA
              have hjl : j < rs.length := (List.getElem?_eq_some_iff.1 hy).1
              clear hgo hfl h2 hm h1 hy hru
              go_wp2
              refine wp_region_held_drew (S := (fun V => (V.cell? ⟨b, init.length * 11 + 7, none⟩ = some (.int .i64 e1.k) ∧ V.cell? ⟨b, init.length * 11 + 8, none⟩ = some (.string e1.name) ∧ V.cell? ⟨b, init.length * 11 + 9, none⟩ = some (.slice A3 e1.l.length c3) ∧ V.cell? ⟨b, init.length * 11 + 10, none⟩ = some (.slice A4 (wd.length + 1) c4) ∧ V.cell? ⟨cb, 1, none⟩ = some (.slice AG gs.length cG)) ∧ V.cell? ⟨wr.heap.size, 0, none⟩ = some (.int .i64 x.k) ∧ V.cell? ⟨wr.heap.size, 1, none⟩ = some (.int .i64 x.t) ∧ V.cell? ⟨wr.heap.size, 2, none⟩ = some (.int .i64 x.n) ∧ V.cell? ⟨wr.heap.size, 3, none⟩ = some (.int .i64 x.m))) (by kernel_rfl) ?_ (fun hHeld => ?_)
              · first | exact HCEL5.out _ HU7.out | exact HCEL5.out _ HU6.out | exact HCEL5.out _ ((Upd.refl _ _).drew)
              refine zH 0 ?_
              refine zH 1 ?_
              (try simp only [Act.put, sA, sB, sC])
              refine zH 2 ?_
              refine wpAnyH_ready (rs := [3]) (by kernel_rfl) (by simp) (AllReadyH.cons (o := { dst := (some 82), op := (Go.Op.call { callee := (Go.Callee.value (Go.Operand.func 67)), args := #[(Go.Operand.tmp 79), (Go.Operand.tmp 80), (Go.Operand.tmp 81)], argTypes := #[101, 24, 71] }), type := 4, pos := "schema.go:141", after := #[{ on := 0, ground := Go.Ground.data }, { on := 1, ground := Go.Ground.data }, { on := 2, ground := Go.Ground.data }], guard := none }) rfl (fun K hK => ?_) AllReadyH.nil)
              go_simp
              (first | (go_at_call 65; refine (HBEG.out _ HU6.out).mono ?_; rintro r w7 ⟨rfl, hu⟩; have HU7 := As.mk (HU6.out.trans hu (fun _ _ h => h)); clear hu) | (go_at_call 67; refine (HMAY.out _ ((Upd.refl _ _).drew)).mono ?_; rintro r w6 ⟨rfl, hu⟩; have HU6 := As.mk (Upd.trans ((Upd.refl (fun _ => False) W5).drew) hu (fun _ _ h => h)); clear hu))
              refine hK.out _ _ (by first | exact HCEL5.out _ HU7.out | exact HCEL5.out _ HU6.out | exact HCEL5.out _ ((Upd.refl _ _).drew)) (fun hHeld => ?_)
              clear hK K
              (try simp only [Act.put, sA, sB, sC])
              refine zH 4 ?_
              refine zH 5 ?_
              (try simp only [Act.put, sA, sB, sC])
              refine zH 6 ?_
              refine zH 7 ?_
              refine zH 8 ?_
              refine zH 9 ?_
              (try simp only [Act.put, sA, sB, sC])
              refine zH 10 ?_
              refine zH 11 ?_
              refine zH 12 ?_
              refine zH 13 ?_
              (try simp only [Act.put, sA, sB, sC])
              refine zH 14 ?_
              refine zH 15 ?_
              refine zH 16 ?_
              refine zH 17 ?_
              (try simp only [Act.put, sA, sB, sC])
              refine zH 18 ?_
              refine zH 19 ?_
              refine zH 21 ?_
              refine zH 22 ?_
              (try simp only [Act.put, sA, sB, sC])
              refine zH 23 ?_
              refine zH 24 ?_
              refine zH 25 ?_
              refine wpAnyH_ready (rs := [20]) (by kernel_rfl) (by simp) (AllReadyH.cons (o := { dst := (some 99), op := (Go.Op.call { callee := (Go.Callee.value (Go.Operand.tmp 85)), args := #[(Go.Operand.tmp 90), (Go.Operand.tmp 94), (Go.Operand.tmp 98)], argTypes := #[92, 86, 83] }), type := 3, pos := "schema.go:141", after := #[{ on := 6, ground := Go.Ground.data }, { on := 11, ground := Go.Ground.data }, { on := 15, ground := Go.Ground.data }, { on := 19, ground := Go.Ground.data }, { on := 5, ground := Go.Ground.chain }, { on := 5, ground := Go.Ground.guard }], guard := (some (5, false)) }) rfl (fun K hK => ?_) AllReadyH.nil)
              go_simp
              (first | (go_at_call 65; refine (HBEG.out _ HU6.out).mono ?_; rintro r w7 ⟨rfl, hu⟩; have HU7 := As.mk (HU6.out.trans hu (fun _ _ h => h)); clear hu) | (go_at_call 67; refine (HMAY.out _ ((Upd.refl _ _).drew)).mono ?_; rintro r w6 ⟨rfl, hu⟩; have HU6 := As.mk (Upd.trans ((Upd.refl (fun _ => False) W5).drew) hu (fun _ _ h => h)); clear hu))
              refine hK.out _ _ (by first | exact HCEL5.out _ HU7.out | exact HCEL5.out _ HU6.out | exact HCEL5.out _ ((Upd.refl _ _).drew)) (fun hHeld => ?_)
              clear hK K
              (try simp only [Act.put, sA, sB, sC])
              refine zH 26 ?_
              refine zH 27 ?_
              refine wpAnyH_done (by kernel_rfl) ?_ _
              obtain ⟨q0, q1, q2, q3⟩ := HTK.out w7 HU7.out
              rw [HJ.out] at q1
              have HU7d := As.mk (show Pure W5 w7.drew from HU7.out.drew)
              have HOP7 := As.mk (HOP5.out.pure HU7d.out)
              have HRL := As.mk (show (init ++ [((x1, e1), (.slice A4 (wd ++ [x.t]).length c4 : Value))]).length + 1 = init.length + 1 + 1 by simp)
              have HSK7 : As (∀ V, Upd (fun q => (Value.slice (some ⟨b, 0, none⟩) (init.length + 1) cap).ownBlock = some q) w7.drew V → V.cell? ⟨cb, 0, none⟩ = some (.slice (some ⟨b0, o0, none⟩) rs.length cL) ∧ V.cell? ⟨wr.heap.size, 1, none⟩ = some (.int .i64 (j : Int)) ∧ V.cell? ⟨b0, o0 + j * 10, none⟩ = some (.string y.name) ∧ V.cell? ⟨b0, o0 + j * 10 + 1, none⟩ = some (.string y.expr) ∧ V.cell? ⟨b0, o0 + j * 10 + 2, none⟩ = some (.bool y.leaf) ∧ V.cell? ⟨b0, o0 + j * 10 + 3, none⟩ = some (.int .i64 y.marks) ∧ V.cell? ⟨b0, o0 + j * 10 + 4, none⟩ = some (.int .i64 y.least) ∧ V.cell? ⟨b0, o0 + j * 10 + 5, none⟩ = some (.int .i64 y.most) ∧ V.cell? ⟨b0, o0 + j * 10 + 6, none⟩ = some (.bool y.lines) ∧ V.cell? ⟨b0, o0 + j * 10 + 7, none⟩ = some (.int .i64 ye.k) ∧ V.cell? ⟨b0, o0 + j * 10 + 8, none⟩ = some (.string ye.name) ∧ V.cell? ⟨b0, o0 + j * 10 + 9, none⟩ = some (.slice Ay ye.l.length cy)) := ⟨by
                intro V hu
                have hsz : w7.drew.heap.size = w7.heap.size := rfl
                have hz1 := HU7.out.size
                have hz2 := HUP5.out.size
                have hge := HOP7.out.ge
                have hn1 : ∀ q, q < w.heap.size → ¬ (Value.slice (some ⟨b, 0, none⟩) (init.length + 1) cap).ownBlock = some q := fun q hq e => by
                  injection e with e
                  have e2 : b = q := e
                  omega
                have ho : ∀ q o, q < w.heap.size → V.cell? ⟨q, o, none⟩ = w.cell? ⟨q, o, none⟩ := fun q o hq => (hu.cell (by omega) (hn1 q hq)).trans ((HUP5.out.trans HU7d.out (fun _ _ h => h)).cell hq (fun h => h))
                have hnt : ¬ (Value.slice (some ⟨b, 0, none⟩) (init.length + 1) cap).ownBlock = some wr.heap.size := fun e => by
                  injection e with e
                  have e2 : b = wr.heap.size := e
                  omega
                have htW : wr.heap.size < w7.drew.heap.size := by
                  have := HLT5.out
                  omega
                refine ⟨(ho _ _ hcb).trans p0, (hu.cell htW hnt).trans q1, (ho _ _ hby).trans g0, (ho _ _ hby).trans g1', (ho _ _ hby).trans g2, (ho _ _ hby).trans g3, (ho _ _ hby).trans g4, (ho _ _ hby).trans g5, (ho _ _ hby).trans g6, (ho _ _ hby).trans g7, (ho _ _ hby).trans g8, (ho _ _ hby).trans g9⟩⟩
              have HOWN7 : As ((levR w.heap.size).own 99 w7.drew (fun q => q < w.heap.size ∨ q = b) (.slice (some ⟨b, 0, none⟩) (init.length + 1) cap) (init ++ [((x1, e1), (.slice A4 (wd ++ [x.t]).length c4 : Value))])) := ⟨by
                have h9 := HOP7.out.own
                rw [show (init ++ [((x1, e1), (.slice A4 (wd ++ [x.t]).length c4 : Value))]).length = init.length + 1 by simp] at h9
                exact h9⟩
              have HREP : As ((levR w.heap.size).rep w7.drew (fun q => q < w.heap.size) ((y, ye), (.slice none 0 0 : Value)) [.string y.name, .string y.expr, .bool y.leaf, .int .i64 y.marks, .int .i64 y.least, .int .i64 y.most, .bool y.lines, .int .i64 ye.k, .string ye.name, .slice Ay ye.l.length cy, .slice none 0 0]) := ⟨⟨_, rfl, rfl, rep_rule hly (Rp.row_move (fun q hq hl => ⟨⟨hl, hl⟩, Nat.lt_of_lt_of_le hl (HUP5.out.trans HU7d.out (fun _ _ h => h)).size, (HUP5.out.trans HU7d.out (fun _ _ h => h)).block q hl (fun h => h)⟩) hxy)⟩⟩
              have HFP7 : As (∀ q, q < w.heap.size → q < w7.drew.heap.size → some q ≠ (Value.slice (some ⟨b, 0, none⟩) (init.length + 1) cap).ownBlock) := ⟨fun q hq _ e => by
                injection e with e
                have e2 : q = b := e
                have := HOP7.out.ge
                omega⟩
              have HLEN7 : As (((init ++ [((x1, e1), (.slice A4 (wd ++ [x.t]).length c4 : Value))]).length + 1) * 144 ≤ 140737488355328) := ⟨by
                simp only [List.length_append, List.length_singleton]; omega⟩
              obtain ⟨s1, s2, sg⟩ := HSK7.out _ (Upd.refl _ _)
              clear g0 g1' g2 g3 g4 g5 g6 g7 g8 g9 hxy hly
              go_wp2
              refine wp_region_T (P := Tryz.prog) (fun V => V.cell? ⟨cb, 0, none⟩ = some (.slice (some ⟨b0, o0, none⟩) rs.length cL) ∧ V.cell? ⟨wr.heap.size, 1, none⟩ = some (.int .i64 (j : Int)) ∧ V.cell? ⟨b0, o0 + j * 10, none⟩ = some (.string y.name) ∧ V.cell? ⟨b0, o0 + j * 10 + 1, none⟩ = some (.string y.expr) ∧ V.cell? ⟨b0, o0 + j * 10 + 2, none⟩ = some (.bool y.leaf) ∧ V.cell? ⟨b0, o0 + j * 10 + 3, none⟩ = some (.int .i64 y.marks) ∧ V.cell? ⟨b0, o0 + j * 10 + 4, none⟩ = some (.int .i64 y.least) ∧ V.cell? ⟨b0, o0 + j * 10 + 5, none⟩ = some (.int .i64 y.most) ∧ V.cell? ⟨b0, o0 + j * 10 + 6, none⟩ = some (.bool y.lines) ∧ V.cell? ⟨b0, o0 + j * 10 + 7, none⟩ = some (.int .i64 ye.k) ∧ V.cell? ⟨b0, o0 + j * 10 + 8, none⟩ = some (.string ye.name) ∧ V.cell? ⟨b0, o0 + j * 10 + 9, none⟩ = some (.slice Ay ye.l.length cy)) 12 (by kernel_rfl) ?_ (fun hHeld => ?_)
              · first | exact HSK7.out _ (Upd.refl _ _) | exact HSK7.out _ (Upd.alloc1 _ _ _) | exact HSK7.out _ HU8.out
              refine zT 0 ?_
              refine zT 1 ?_
              (try simp only [Act.put, sA, sB, sC])
              refine zT 2 ?_
              refine zT 3 ?_
              refine zT 4 ?_
              refine zT 5 ?_
              (try simp only [Act.put, sA, sB, sC])
              refine zT 6 ?_
              refine zT 7 ?_
              refine zT 8 ?_
              refine zT 9 ?_
              (try simp only [Act.put, sA, sB, sC])
              refine oT 10 (fun K hK => ?_)
              go_simp
              refine hK.out _ _ (fun _ => by first | exact HSK7.out _ (Upd.refl _ _) | exact HSK7.out _ (Upd.alloc1 _ _ _) | exact HSK7.out _ HU8.out) (fun hHeld => ?_)
              replace hHeld := hHeld (by decide)
              clear hK K
              (try simp only [Act.put, sA, sB, sC])
              refine oT 11 (fun K hK => ?_)
              refine Rp.step_append_keen (levR w.heap.size) (W := w7.drew) (Fp := fun q => q < w.heap.size) HOWN7.out ((y, ye), (.slice none 0 0 : Value)) [.string y.name, .string y.expr, .bool y.leaf, .int .i64 y.marks, .int .i64 y.least, .int .i64 y.most, .bool y.lines, .int .i64 ye.k, .string ye.name, .slice Ay ye.l.length cy, .slice none 0 0] HREP.out HFP7.out (by rfl) _ _ 100 (.agg #[.string ⟨#[]⟩, .string ⟨#[]⟩, .bool false, .int .i64 0, .int .i64 0, .int .i64 0, .bool false, .int .i64 0, .string ⟨#[]⟩, .slice none 0 0, .slice none 0 0]) 144 (by rfl) Tryz.underlying100 lev_info rfl (by show 0 < 11; decide) (by decide) (by rfl) (n := w7.heap.size) rfl (by rfl) HLEN7.out ?_; intro v8 w8 ho8 hu8 hat8; obtain ⟨b8, cap8, hv8, hop8⟩ := Opn.push HOP7.out ho8 hu8 hat8; rw [HRL.out] at hv8; subst hv8; have HOP8 := As.mk hop8; have HU8 := As.mk hu8; clear ho8 hu8 hat8 hop8
              refine hK.out _ _ (fun _ => by first | exact HSK7.out _ (Upd.refl _ _) | exact HSK7.out _ (Upd.alloc1 _ _ _) | exact HSK7.out _ HU8.out) (fun hHeld => ?_)
              replace hHeld := hHeld (by decide)
              clear hK K
              (try simp only [Act.put, sA, sB, sC])
              refine oT 12 (fun K hK => ?_)
              go_simp
              refine hK.out _ _ (fun h => absurd rfl h) (fun hHeld => ?_)
              clear hK K
              (try simp only [Act.put, sA, sB, sC])
              refine wpAnyT_done (by kernel_rfl) ?_ _
              try go_wp2
              go_roundg g1
              case measure => omega
              case rel => exact ⟨k + 1, init.length + 1, b8, cap8, by have := HK.out; omega, by go_num, rfl, ⟨_, _, _, by have := congrArg List.length HIM.out.1; simpa using this, CkRel.opened HWD.out HOP8.out HIM.out.1 HIM.out.2 HYM.out HV.out HF.out.2⟩⟩
            · have e1' : (x.k == 1) = false := by simp [h1]
              have HV := As.mk (show ckGo rs gs (k + 1) ((x1, e1), wd ++ [x.t]) below (l.drop (k + 1)) = schemaCheck rs gs l by rw [← hgo, ck_leaf h2 h1 HST.out])
              have HF := As.mk (fc_else hfl h1 h2)
              clear hgo hfl h2 hm h1
              go_wp2
              refine wp_region_held_drew (S := (fun V => (V.cell? ⟨b, init.length * 11 + 7, none⟩ = some (.int .i64 e1.k) ∧ V.cell? ⟨b, init.length * 11 + 8, none⟩ = some (.string e1.name) ∧ V.cell? ⟨b, init.length * 11 + 9, none⟩ = some (.slice A3 e1.l.length c3) ∧ V.cell? ⟨b, init.length * 11 + 10, none⟩ = some (.slice A4 (wd.length + 1) c4) ∧ V.cell? ⟨cb, 1, none⟩ = some (.slice AG gs.length cG)) ∧ V.cell? ⟨wr.heap.size, 0, none⟩ = some (.int .i64 x.k) ∧ V.cell? ⟨wr.heap.size, 1, none⟩ = some (.int .i64 x.t) ∧ V.cell? ⟨wr.heap.size, 2, none⟩ = some (.int .i64 x.n) ∧ V.cell? ⟨wr.heap.size, 3, none⟩ = some (.int .i64 x.m))) (by kernel_rfl) ?_ (fun hHeld => ?_)
              · first | exact HCEL5.out _ HU7.out | exact HCEL5.out _ HU6.out | exact HCEL5.out _ ((Upd.refl _ _).drew)
              refine zH 0 ?_
              (try simp only [Act.put, sA, sB, sC])
              refine zH 1 ?_
              refine zH 2 ?_
              refine wpAnyH_ready (rs := [3]) (by kernel_rfl) (by simp) (AllReadyH.cons (o := { dst := (some 82), op := (Go.Op.call { callee := (Go.Callee.value (Go.Operand.func 67)), args := #[(Go.Operand.tmp 79), (Go.Operand.tmp 80), (Go.Operand.tmp 81)], argTypes := #[101, 24, 71] }), type := 4, pos := "schema.go:141", after := #[{ on := 0, ground := Go.Ground.data }, { on := 1, ground := Go.Ground.data }, { on := 2, ground := Go.Ground.data }], guard := none }) rfl (fun K hK => ?_) AllReadyH.nil)
              go_simp
              (first | (go_at_call 65; refine (HBEG.out _ HU6.out).mono ?_; rintro r w7 ⟨rfl, hu⟩; have HU7 := As.mk (HU6.out.trans hu (fun _ _ h => h)); clear hu) | (go_at_call 67; refine (HMAY.out _ ((Upd.refl _ _).drew)).mono ?_; rintro r w6 ⟨rfl, hu⟩; have HU6 := As.mk (Upd.trans ((Upd.refl (fun _ => False) W5).drew) hu (fun _ _ h => h)); clear hu))
              refine hK.out _ _ (by first | exact HCEL5.out _ HU7.out | exact HCEL5.out _ HU6.out | exact HCEL5.out _ ((Upd.refl _ _).drew)) (fun hHeld => ?_)
              clear hK K
              (try simp only [Act.put, sA, sB, sC])
              refine zH 4 ?_
              (try simp only [Act.put, sA, sB, sC])
              refine zH 5 ?_
              refine zH 6 ?_
              refine zH 7 ?_
              refine zH 8 ?_
              (try simp only [Act.put, sA, sB, sC])
              refine zH 9 ?_
              refine zH 10 ?_
              refine zH 11 ?_
              refine zH 12 ?_
              (try simp only [Act.put, sA, sB, sC])
              refine zH 13 ?_
              refine zH 14 ?_
              refine zH 15 ?_
              refine zH 16 ?_
              (try simp only [Act.put, sA, sB, sC])
              refine zH 17 ?_
              refine zH 18 ?_
              refine zH 19 ?_
              refine zH 21 ?_
              (try simp only [Act.put, sA, sB, sC])
              refine zH 22 ?_
              refine zH 23 ?_
              refine zH 24 ?_
              refine zH 25 ?_
              (try simp only [Act.put, sA, sB, sC])
              refine wpAnyH_ready (rs := [20]) (by kernel_rfl) (by simp) (AllReadyH.cons (o := { dst := (some 99), op := (Go.Op.call { callee := (Go.Callee.value (Go.Operand.tmp 85)), args := #[(Go.Operand.tmp 90), (Go.Operand.tmp 94), (Go.Operand.tmp 98)], argTypes := #[92, 86, 83] }), type := 3, pos := "schema.go:141", after := #[{ on := 6, ground := Go.Ground.data }, { on := 11, ground := Go.Ground.data }, { on := 15, ground := Go.Ground.data }, { on := 19, ground := Go.Ground.data }, { on := 5, ground := Go.Ground.chain }, { on := 5, ground := Go.Ground.guard }], guard := (some (5, false)) }) rfl (fun K hK => ?_) AllReadyH.nil)
              go_simp
              (first | (go_at_call 65; refine (HBEG.out _ HU6.out).mono ?_; rintro r w7 ⟨rfl, hu⟩; have HU7 := As.mk (HU6.out.trans hu (fun _ _ h => h)); clear hu) | (go_at_call 67; refine (HMAY.out _ ((Upd.refl _ _).drew)).mono ?_; rintro r w6 ⟨rfl, hu⟩; have HU6 := As.mk (Upd.trans ((Upd.refl (fun _ => False) W5).drew) hu (fun _ _ h => h)); clear hu))
              refine hK.out _ _ (by first | exact HCEL5.out _ HU7.out | exact HCEL5.out _ HU6.out | exact HCEL5.out _ ((Upd.refl _ _).drew)) (fun hHeld => ?_)
              clear hK K
              (try simp only [Act.put, sA, sB, sC])
              refine zH 26 ?_
              refine zH 27 ?_
              refine wpAnyH_done (by kernel_rfl) ?_ _
              obtain ⟨q0, q1, q2, q3⟩ := HTK.out w7 HU7.out
              go_wp2
              go_roundg g1
              case measure => omega
              case rel => exact ⟨k + 1, init.length, b, cap, by have := HK.out; omega, by go_num, rfl, ⟨_, _, below, by have := congrArg List.length HIM.out.1; simpa using this, CkRel.leaf HWD.out (HOP5.out.pure HU7.out) HIM.out.1 HIM.out.2 HV.out HF.out⟩⟩
    · obtain rfl : k = l.length := by omega
      obtain ⟨rv, top, below, hd, hC⟩ := HC.out
      obtain ⟨init, v, wi, hrv, hil, hop, him, hwi⟩ := hC.split
      obtain ⟨⟨x1, e1⟩, wd⟩ := top
      replace hop : Opn w b cap (init ++ [((x1, e1), v)]) (wi ++ [wd]) wr := hop
      have hup := hop.up
      have HUP := As.mk hup
      have hfl := hC.flat
      have hgo := hC.go
      rw [List.drop_length] at hfl hgo
      have hb0 : below.length = 0 := by
        unfold fcGo at hfl
        by_cases h0 : below.length = 0
        · exact h0
        · rw [if_neg h0] at hfl
          simp at hfl
      obtain rfl : below = [] := List.eq_nil_of_length_eq_zero hb0
      obtain rfl : init = [] := List.eq_nil_of_length_eq_zero (by rw [hil]; rfl)
      obtain rfl : d = 0 := hd
      obtain ⟨A2, c2, m3, m6, m7, m8, m9, m10, hl2, hx2⟩ := hop.lev (j := 0) (x := x1) (e := e1) (v := v) rfl
      simp only [Nat.zero_mul, Nat.zero_add] at m3 m6 m7 m8 m9 m10
      have hbb := hop.blt
      obtain ⟨Aw, cw, rfl, hlw, hrw⟩ := Rp.own_slice hop.top
      have pc1 := (hup.cell (o := 1) hcb (fun h => h)).trans p1
      have hcb2 := Nat.lt_of_lt_of_le hcb hup.size
      have hw1 : wd.length ≤ l.length ∧ (x1, e1) ∈ rs := hC.words ((x1, e1), wd) List.mem_cons_self
      have HACC := As.mk (fun V (hu : Pure wr V) => acc_calls (c := c2) (d := cG) (cw := cw) (SchR.made HOK.out HG.out (HUP.out.trans hu (fun _ _ h => h)) hw1.2 (Rp.row_pure hx2 hu)) (Rp.row_pure hrw hu) (by have := hw1.1; omega))
      have HCEL : As (∀ V, Pure wr V → V.cell? ⟨b, 7, none⟩ = some (.int .i64 e1.k) ∧ V.cell? ⟨b, 8, none⟩ = some (.string e1.name) ∧ V.cell? ⟨b, 9, none⟩ = some (.slice A2 e1.l.length c2) ∧ V.cell? ⟨b, 10, none⟩ = some (.slice Aw wd.length cw) ∧ V.cell? ⟨cb, 1, none⟩ = some (.slice AG gs.length cG)) := ⟨fun V hu => ⟨(hu.cell hbb (fun h => h)).trans m7, (hu.cell hbb (fun h => h)).trans m8, (hu.cell hbb (fun h => h)).trans m9, (hu.cell hbb (fun h => h)).trans m10, (hu.cell hcb2 (fun h => h)).trans pc1⟩⟩
      rw [ck_end] at hgo
      have HGO := As.mk hgo
      clear hx2 hrw hC hop HC hup hfl hgo hb0 hw1
      try clear hd
      try clear hil
      try clear him hwi hrv
      try clear hk
      cases hacc : regAccepts e1 gs wd
      · have HV := As.mk (show ((l.length : Int), (9 : Int)) = schemaCheck rs gs l by rw [← HGO.out, if_neg (by simp only [hacc]; exact Bool.false_ne_true)])
        rw [hacc] at HACC
        clear hacc HGO
        go_wp2
        refine wp_region_held_drew (S := (fun V => V.cell? ⟨b, 7, none⟩ = some (.int .i64 e1.k) ∧ V.cell? ⟨b, 8, none⟩ = some (.string e1.name) ∧ V.cell? ⟨b, 9, none⟩ = some (.slice A2 e1.l.length c2) ∧ V.cell? ⟨b, 10, none⟩ = some (.slice Aw wd.length cw) ∧ V.cell? ⟨cb, 1, none⟩ = some (.slice AG gs.length cG))) (by kernel_rfl) ?_ (fun hHeld => ?_)
        · first | exact HCEL.out _ (Upd.refl _ _).drew | exact HCEL.out _ HU3.out
        refine zH 0 ?_
        (try simp only [Act.put, sA, sB, sC])
        refine zH 1 ?_
        refine zH 2 ?_
        refine zH 3 ?_
        refine zH 4 ?_
        (try simp only [Act.put, sA, sB, sC])
        refine zH 5 ?_
        refine zH 6 ?_
        refine zH 7 ?_
        refine zH 8 ?_
        (try simp only [Act.put, sA, sB, sC])
        refine zH 9 ?_
        refine zH 10 ?_
        refine zH 11 ?_
        refine zH 12 ?_
        (try simp only [Act.put, sA, sB, sC])
        refine wpAnyH_ready (rs := [13]) (by kernel_rfl) (by simp) (AllReadyH.cons (o := { dst := (some 137), op := (Go.Op.call { callee := (Go.Callee.value (Go.Operand.func 66)), args := #[(Go.Operand.tmp 128), (Go.Operand.tmp 132), (Go.Operand.tmp 136)], argTypes := #[92, 86, 83] }), type := 4, pos := "schema.go:148", after := #[{ on := 4, ground := Go.Ground.data }, { on := 8, ground := Go.Ground.data }, { on := 12, ground := Go.Ground.data }], guard := none }) rfl (fun K hK => ?_) AllReadyH.nil)
        go_simp
        (go_at_call 66; refine (HACC.out _ (Upd.refl _ _).drew).mono ?_; rintro r w3 ⟨rfl, hu⟩; have HU3 := As.mk (Upd.trans ((Upd.refl (fun _ => False) wr).drew) hu (fun _ _ h => h)); clear hu)
        refine hK.out _ _ (by first | exact HCEL.out _ (Upd.refl _ _).drew | exact HCEL.out _ HU3.out) (fun hHeld => ?_)
        clear hK K
        (try simp only [Act.put, sA, sB, sC])
        refine zH 14 ?_
        refine wpAnyH_done (by kernel_rfl) ?_ _
        go_wp2
        exact bodyPost_ret (v := .tuple #[.int .i64 (l.length : Int), .int .i64 9]) (by simp [results, Tryz.results15, go_sem]) rfl ⟨by rw [← HV.out], HUP.out.trans HU3.out (fun _ _ h => h)⟩
      · have HV := As.mk (show ((l.length : Int), (0 : Int)) = schemaCheck rs gs l by rw [← HGO.out, if_pos (by simp only [hacc])])
        rw [hacc] at HACC
        clear hacc HGO
        go_wp2
        refine wp_region_held_drew (S := (fun V => V.cell? ⟨b, 7, none⟩ = some (.int .i64 e1.k) ∧ V.cell? ⟨b, 8, none⟩ = some (.string e1.name) ∧ V.cell? ⟨b, 9, none⟩ = some (.slice A2 e1.l.length c2) ∧ V.cell? ⟨b, 10, none⟩ = some (.slice Aw wd.length cw) ∧ V.cell? ⟨cb, 1, none⟩ = some (.slice AG gs.length cG))) (by kernel_rfl) ?_ (fun hHeld => ?_)
        · first | exact HCEL.out _ (Upd.refl _ _).drew | exact HCEL.out _ HU3.out
        refine zH 0 ?_
        refine zH 1 ?_
        (try simp only [Act.put, sA, sB, sC])
        refine zH 2 ?_
        refine zH 3 ?_
        refine zH 4 ?_
        refine zH 5 ?_
        (try simp only [Act.put, sA, sB, sC])
        refine zH 6 ?_
        refine zH 7 ?_
        refine zH 8 ?_
        refine zH 9 ?_
        (try simp only [Act.put, sA, sB, sC])
        refine zH 10 ?_
        refine zH 11 ?_
        refine zH 12 ?_
        refine wpAnyH_ready (rs := [13]) (by kernel_rfl) (by simp) (AllReadyH.cons (o := { dst := (some 137), op := (Go.Op.call { callee := (Go.Callee.value (Go.Operand.func 66)), args := #[(Go.Operand.tmp 128), (Go.Operand.tmp 132), (Go.Operand.tmp 136)], argTypes := #[92, 86, 83] }), type := 4, pos := "schema.go:148", after := #[{ on := 4, ground := Go.Ground.data }, { on := 8, ground := Go.Ground.data }, { on := 12, ground := Go.Ground.data }], guard := none }) rfl (fun K hK => ?_) AllReadyH.nil)
        go_simp
        (go_at_call 66; refine (HACC.out _ (Upd.refl _ _).drew).mono ?_; rintro r w3 ⟨rfl, hu⟩; have HU3 := As.mk (Upd.trans ((Upd.refl (fun _ => False) wr).drew) hu (fun _ _ h => h)); clear hu)
        refine hK.out _ _ (by first | exact HCEL.out _ (Upd.refl _ _).drew | exact HCEL.out _ HU3.out) (fun hHeld => ?_)
        clear hK K
        (try simp only [Act.put, sA, sB, sC])
        refine zH 14 ?_
        refine wpAnyH_done (by kernel_rfl) ?_ _
        go_wp2
        exact bodyPost_ret (v := .tuple #[.int .i64 (l.length : Int), .int .i64 0]) (by simp [results, Tryz.results15, go_sem]) rfl ⟨by rw [← HV.out], HUP.out.trans HU3.out (fun _ _ h => h)⟩
theorem SchemaCheck_calls {w : World} {cb : Nat} {rs : List (Spec × Ex)} {gs : List Grp} {F : Nat → Prop} {A : Option Addr} {c : Nat} {l : List Tok} (h : SchR w cb rs gs) (hok : SchOk rs gs) (hr : tokR.row w F A l) (hb : l.length ≤ 1048576 * 4) :
    Calls Tryz.prog 15 #[.pointer (some ⟨cb, 0, none⟩), .slice A l.length c] w fun e w' => e = .returned (.tuple #[.int .i64 (schemaCheck rs gs l).1, .int .i64 (schemaCheck rs gs l).2]) ∧ Pure w w' := by
  by_cases hf : (flatCheck l).2 = 0
  · exact schemaCheck_main h hok hr hb hf
  · exact schemaCheck_flat h hok hr hb hf
end Go.Proofs.YtofjodppljnlaaaGreatDoor
namespace Go.Proofs.YtofjodppljnlaaaGreatDoor
open Go.RowKit
set_option linter.unusedVariables false
set_option linter.unusedSimpArgs false
theorem toks_reps (w : World) (F : Nat → Prop) : ∀ l : List Tok, Reps (tokR.rep w F) 4 l (l.flatMap Tok.cs)
  | [] => Reps.nil _ _
  | x :: r => by
    rw [List.flatMap_cons]
    exact Reps.append (xs := [x]) (Reps.single (R := tokR.rep w F) (show tokR.rep w F x x.cs from rfl) rfl) (toks_reps w F r)
theorem row_toks {w : World} {F : Nat → Prop} {b : Nat} {l : List Tok} {e : TypeId} {fr : Nat × Nat} (hb : w.heap[b]? = some (.cells (l.flatMap Tok.cs).toArray e fr)) (hF : F b) : tokR.row w F (some ⟨b, 0, none⟩) l :=
  Rp.row_of_block hb hF (toks_reps w F l)
theorem house_len : houseRules.length = 8 := by kernel_rfl
theorem house_ok : SchOk houseRules houseGroups := by
  refine ⟨fun h => ?_, ?_, fun p hp => ?_, ?_, fun x hx => ?_⟩
  · have := house_len
    rw [h] at this
    cases this
  · rw [house_len]; decide
  · have h : houseRules.all (fun p => decide (p.2.wt ≤ 1048576 * 4)) = true := by kernel_rfl
    simpa using List.all_eq_true.1 h p hp
  · have h : decide (houseGroups.length ≤ 1048576) = true := by kernel_rfl
    exact of_decide_eq_true h
  · have h : houseGroups.all (fun x => decide (x.types.length ≤ 1048576)) = true := by kernel_rfl
    simpa using List.all_eq_true.1 h x hx
abbrev houseCheck (l : List Tok) : Int × Int := schemaCheck houseRules houseGroups l
theorem house_check {w : World} {cb : Nat} {F : Nat → Prop} {A : Option Addr} {c : Nat} {l : List Tok} (h : SchR w cb houseRules houseGroups) (hr : tokR.row w F A l) (hb : l.length ≤ 1048576 * 4) :
    Calls Tryz.prog 15 #[.pointer (some ⟨cb, 0, none⟩), .slice A l.length c] w fun e w' => e = .returned (.tuple #[.int .i64 (houseCheck l).1, .int .i64 (houseCheck l).2]) ∧ Pure w w' := SchemaCheck_calls h house_ok hr hb
abbrev awakeDoc : List Tok := [⟨1, 1, 0, 0⟩, ⟨2, 0, 0, 0⟩]
end Go.Proofs.YtofjodppljnlaaaGreatDoor
namespace Go.Proofs.YtofjodppljnlaaaGreatDoor
open Go.RowKit
set_option linter.unusedVariables false
set_option linter.unusedSimpArgs false
/-- The reference's schema. -/
def Sch6 (w : World) (cb : Nat) (l : List Spec) (e0 : Ex) (es : List Ex) (gs : List Grp) : Prop := ∃ AW cW AL cL AE cE AG cG, w.heap[cb]? = some (.cells #[.int .i64 e0.k, .string e0.name, .slice AW e0.l.length cW, .slice AL l.length cL, .slice AE es.length cE, .slice AG gs.length cG] 105 (0, 0)) ∧
  exR.row w AnyB AW e0.l ∧ specR.row w AnyB AL l ∧ exR.row w AnyB AE es ∧ grpR.row w AnyB AG gs
theorem Sch6.pure {w w1 : World} {cb : Nat} {l : List Spec} {e0 : Ex} {es : List Ex} {gs : List Grp} (h : Sch6 w cb l e0 es gs) (hu : Pure w w1) : Sch6 w1 cb l e0 es gs := by
  obtain ⟨AW, cW, AL, cL, AE, cE, AG, cG, h0, h1, h2, h3, h4⟩ := h
  exact ⟨AW, cW, AL, cL, AE, cE, AG, cG, (hu.block cb (Array.getElem?_eq_some_iff.1 h0).1 (fun h => h)).trans h0, Rp.row_pure h1 hu, Rp.row_pure h2 hu, Rp.row_pure h3 hu, Rp.row_pure h4 hu⟩
/-- The house's. -/
def houseE0 : Ex := exS 5 blockName
def houseE7 : List Ex := houseEs.drop 1
abbrev H6 (w : World) (cb : Nat) : Prop := Sch6 w cb houseSpecs houseE0 houseE7 houseGroups
theorem h6_at (k : Nat) (hk : k < 7) : ∃ x e, houseSpecs[k]? = some x ∧ houseE7[k]? = some e ∧ houseRules[k + 1]? = some (x, e) := by
  have h : k = 0 ∨ k = 1 ∨ k = 2 ∨ k = 3 ∨ k = 4 ∨ k = 5 ∨ k = 6 := by omega
  rcases h with rfl | rfl | rfl | rfl | rfl | rfl | rfl <;> exact ⟨_, _, rfl, rfl, rfl⟩
theorem h6_len : houseSpecs.length = 7 := rfl
theorem h6_lenE : houseE7.length = 7 := rfl
theorem ex_at6 {w : World} {F : Nat → Prop} {A : Option Addr} {xs : List Ex} (h : exR.row w F A xs) {j : Nat} {e : Ex} (hx : xs[j]? = some e) :
    ∃ b o A1 c1, A = some ⟨b, o, none⟩ ∧ F b ∧ b < w.heap.size ∧ w.cell? ⟨b, o + j * 3, none⟩ = some (.int .i64 e.k) ∧ w.cell? ⟨b, o + j * 3 + 1, none⟩ = some (.string e.name) ∧ w.cell? ⟨b, o + j * 3 + 2, none⟩ = some (.slice A1 e.l.length c1) ∧ e.l.length ≤ c1 ∧ exR.row w F A1 e.l := by
  obtain ⟨b, o, cs, hA, hF, hb, hr, hc⟩ := Rp.row_at h hx
  obtain ⟨A1, n1, rfl, hle, hrow⟩ := ExRep.parts hr
  exact ⟨b, o, A1, n1, hA, hF, hb, hc 0 _ rfl, hc 1 _ rfl, hc 2 _ rfl, hle, hrow⟩
theorem Sch6.cells {w : World} {cb : Nat} {l : List Spec} {e0 : Ex} {es : List Ex} {gs : List Grp} (h : Sch6 w cb l e0 es gs) : ∃ AW cW AL cL AE cE AG cG, cb < w.heap.size ∧ w.cell? ⟨cb, 0, none⟩ = some (.int .i64 e0.k) ∧ w.cell? ⟨cb, 1, none⟩ = some (.string e0.name) ∧ w.cell? ⟨cb, 2, none⟩ = some (.slice AW e0.l.length cW) ∧ w.cell? ⟨cb, 3, none⟩ = some (.slice AL l.length cL) ∧ w.cell? ⟨cb, 4, none⟩ = some (.slice AE es.length cE) ∧ w.cell? ⟨cb, 5, none⟩ = some (.slice AG gs.length cG) ∧
    exR.row w AnyB AW e0.l ∧ specR.row w AnyB AL l ∧ exR.row w AnyB AE es ∧ grpR.row w AnyB AG gs := by
  obtain ⟨AW, cW, AL, cL, AE, cE, AG, cG, h0, h1, h2, h3, h4⟩ := h
  refine ⟨AW, cW, AL, cL, AE, cE, AG, cG, (Array.getElem?_eq_some_iff.1 h0).1, ?_, ?_, ?_, ?_, ?_, ?_, h1, h2, h3, h4⟩
  all_goals (unfold World.cell?; simp only [h0]; rfl)
end Go.Proofs.YtofjodppljnlaaaGreatDoor
namespace Go.Proofs.YtofjodppljnlaaaGreatDoor
open Go.RowKit
set_option linter.unusedVariables false
set_option linter.unusedSimpArgs false
/-- A word leads to a place. -/
inductive Path (ts fs : List (List Int)) (p : Part) : List Int → Int → Prop
  | nil : Path ts fs p [] (-1)
  | snoc (w : List Int) (x y t : Int) : Path ts fs p w x → y ∈ nextsOf fs p x → t ∈ ts.getD y.toNat [] → Path ts fs p (w ++ [t]) y
theorem Path.nil_inv {ts fs : List (List Int)} {p : Part} {y : Int} (h : Path ts fs p [] y) : y = -1 := by
  generalize hw : ([] : List Int) = w at h
  cases h with
  | nil => rfl
  | snoc w x y t _ _ _ => simp at hw
theorem Path.snoc_inv {ts fs : List (List Int)} {p : Part} {w : List Int} {t y : Int} (h : Path ts fs p (w ++ [t]) y) : ∃ x, Path ts fs p w x ∧ y ∈ nextsOf fs p x ∧ t ∈ ts.getD y.toNat [] := by
  generalize hw : w ++ [t] = w' at h
  cases h with
  | nil => simp at hw
  | snoc w1 x y t1 h1 h2 h3 =>
    obtain ⟨rfl, rfl⟩ : w = w1 ∧ t = t1 := by
      have := List.append_inj' hw rfl
      exact ⟨this.1, by simpa using this.2⟩
    exact ⟨x, h1, h2, h3⟩
def foldS (ts fs : List (List Int)) (p : Part) (S : Int → Bool) (word : List Int) : Int → Bool := word.foldl (fun S t => stepS ts fs p S t) S
theorem stepS_iff {ts fs : List (List Int)} {p : Part} {S : Int → Bool} (hI : InS ts.length S) (t y : Int) : stepS ts fs p S t y = true ↔ ∃ x, S x = true ∧ y ∈ nextsOf fs p x ∧ t ∈ ts.getD y.toNat [] := by
  unfold stepS addS
  rw [List.any_eq_true]
  constructor
  · rintro ⟨i, hi, h⟩
    rw [Bool.and_eq_true, List.any_eq_true] at h
    obtain ⟨h1, a, ha, h2⟩ := h
    simp at h2
    obtain ⟨rfl, h3⟩ := h2
    exact ⟨_, h1, ha, by simpa [List.getD] using h3⟩
  · rintro ⟨x, h1, h2, h3⟩
    have := hI x h1
    refine ⟨(x + 1).toNat, List.mem_range.2 (by omega), ?_⟩
    have e : (((x + 1).toNat : Nat) : Int) - 1 = x := by omega
    rw [e, Bool.and_eq_true, List.any_eq_true]
    exact ⟨h1, y, h2, by simp [h3]; simpa [List.getD] using h3⟩
theorem foldS_in {ts fs : List (List Int)} {p : Part} (hM : MOk ts fs p) : ∀ (word : List Int) (S : Int → Bool), InS ts.length S → InS ts.length (foldS ts fs p S word) := by
  intro word
  induction word with
  | nil => intro S h; exact h
  | cons t r ih => intro S h; exact ih _ (stepS_in hM S t)
theorem foldS_snoc (ts fs : List (List Int)) (p : Part) (S : Int → Bool) (w : List Int) (t : Int) : foldS ts fs p S (w ++ [t]) = stepS ts fs p (foldS ts fs p S w) t := by
  unfold foldS
  rw [List.foldl_append]
  rfl
theorem rev_ind {P : List Int → Prop} (h0 : P []) (h1 : ∀ w t, P w → P (w ++ [t])) : ∀ w, P w := by
  intro w
  suffices ∀ q : List Int, P q.reverse by simpa using this w.reverse
  intro q
  induction q with
  | nil => exact h0
  | cons t q ih => rw [List.reverse_cons]; exact h1 _ _ ih
theorem foldS_iff {ts fs : List (List Int)} {p : Part} (hM : MOk ts fs p) : ∀ (w : List Int) (y : Int), foldS ts fs p startS w y = true ↔ Path ts fs p w y := by
  refine rev_ind (fun y => ?_) (fun w t ih y => ?_)
  · constructor
    · intro h
      have : y = -1 := by simpa [foldS, startS] using h
      subst this
      exact .nil
    · intro h
      rw [h.nil_inv]
      rfl
  · rw [foldS_snoc, stepS_iff (foldS_in hM w _ (startS_in _))]
    constructor
    · rintro ⟨x, h1, h2, h3⟩
      exact .snoc w x y t ((ih x).1 h1) h2 h3
    · intro h
      obtain ⟨x, h1, h2, h3⟩ := h.snoc_inv
      exact ⟨x, (ih x).2 h1, h2, h3⟩
theorem emptyS_iff {T : Nat} {S : Int → Bool} (hI : InS T S) : emptyS T S = true ↔ ∀ x, S x = false := by
  unfold emptyS
  rw [Bool.not_eq_true', List.any_eq_false]
  constructor
  · intro h x
    cases hx : S x
    · rfl
    · have h1 := hI x hx
      have := h (x + 1).toNat (List.mem_range.2 (by omega))
      have e : (((x + 1).toNat : Nat) : Int) - 1 = x := by omega
      rw [e] at this
      exact absurd hx this
  · intro h i _
    rw [h]
    simp
/-- A word may go on. -/
def Live (ts fs : List (List Int)) (p : Part) (w : List Int) : Prop := ∃ x, Path ts fs p w x
theorem Live.nil (ts fs : List (List Int)) (p : Part) : Live ts fs p [] := ⟨-1, .nil⟩
theorem Live.init {ts fs : List (List Int)} {p : Part} {w : List Int} {t : Int} (h : Live ts fs p (w ++ [t])) : Live ts fs p w := by
  obtain ⟨y, h⟩ := h
  obtain ⟨x, h, _⟩ := h.snoc_inv
  exact ⟨x, h⟩
theorem Live.app {ts fs : List (List Int)} {p : Part} {w : List Int} : ∀ v, Live ts fs p (w ++ v) → Live ts fs p w := by
  refine rev_ind (fun h => by simpa using h) (fun v t ih h => ?_)
  rw [← List.append_assoc] at h
  exact ih h.init
theorem Live.take {ts fs : List (List Int)} {p : Part} {w : List Int} {k n : Nat} (h : Live ts fs p (w.take n)) (hk : k ≤ n) : Live ts fs p (w.take k) := by
  have : w.take n = w.take k ++ (w.take n).drop k := by
    conv => lhs; rw [← List.take_append_drop k (w.take n)]
    rw [List.take_take, Nat.min_eq_left hk]
  rw [this] at h
  exact Live.app _ h
theorem runS_go {ts fs : List (List Int)} {p : Part} (hM : MOk ts fs p) : ∀ (r w : List Int), Live ts fs p w →
    runS ts fs p (foldS ts fs p startS w) r = (foldS ts fs p startS (w ++ r.take (runS ts fs p (foldS ts fs p startS w) r).2), (runS ts fs p (foldS ts fs p startS w) r).2) ∧
    (runS ts fs p (foldS ts fs p startS w) r).2 ≤ r.length ∧ Live ts fs p (w ++ r.take (runS ts fs p (foldS ts fs p startS w) r).2) ∧ ((runS ts fs p (foldS ts fs p startS w) r).2 < r.length → ¬ Live ts fs p (w ++ r.take ((runS ts fs p (foldS ts fs p startS w) r).2 + 1))) := by
  intro r
  induction r with
  | nil =>
    intro w hw
    refine ⟨?_, Nat.le_refl _, by simpa [runS] using hw, fun h => absurd h (Nat.lt_irrefl _)⟩
    simp [runS]
  | cons t r ih =>
    intro w hw
    have e : stepS ts fs p (foldS ts fs p startS w) t = foldS ts fs p startS (w ++ [t]) := (foldS_snoc ..).symm
    cases hq : emptyS ts.length (stepS ts fs p (foldS ts fs p startS w) t)
    · have hl : Live ts fs p (w ++ [t]) := by
        rw [← Bool.not_eq_true, emptyS_iff (stepS_in hM _ t)] at hq
        simp only [Classical.not_forall, Bool.not_eq_false] at hq
        obtain ⟨x, hx⟩ := hq
        rw [e] at hx
        exact ⟨x, (foldS_iff hM _ _).1 hx⟩
      have e2 : runS ts fs p (foldS ts fs p startS w) (t :: r) = ((runS ts fs p (foldS ts fs p startS (w ++ [t])) r).1, (runS ts fs p (foldS ts fs p startS (w ++ [t])) r).2 + 1) := by
        rw [runS, if_neg (by rw [hq]; simp), e]
      obtain ⟨h1, h2, h3, h4⟩ := ih (w ++ [t]) hl
      rw [e2]
      simp only [List.append_assoc, List.cons_append, List.nil_append] at h1 h3 h4
      refine ⟨?_, by simp only [List.length_cons]; omega, by simpa using h3, fun h => by simpa using h4 (by simp at h; exact h)⟩
      simp only [List.take_succ_cons, Prod.mk.injEq, and_true]
      rw [h1]
    · have e2 : runS ts fs p (foldS ts fs p startS w) (t :: r) = (foldS ts fs p startS w, 0) := by
        rw [runS, if_pos hq]
      rw [e2]
      refine ⟨by simp, Nat.zero_le _, by simpa using hw, fun _ h => ?_⟩
      obtain ⟨x, hx⟩ := h
      have hx' : Path ts fs p (w ++ [t]) x := by simpa using hx
      have := (foldS_iff hM _ _).2 hx'
      rw [← e, (emptyS_iff (stepS_in hM _ t)).1 hq x] at this
      cases this
/-- What a run is. -/
theorem run_spec {g : List Grp} {e : Ex} (h : regCheck e g = 0) (w : List Int) :
    regRun e g w = (foldS (mcT g e) (mcF g e) (mcP g e) startS (w.take (regRun e g w).2), (regRun e g w).2) ∧ (regRun e g w).2 ≤ w.length ∧ Live (mcT g e) (mcF g e) (mcP g e) (w.take (regRun e g w).2) ∧
      ((regRun e g w).2 < w.length → ¬ Live (mcT g e) (mcF g e) (mcP g e) (w.take ((regRun e g w).2 + 1))) := by
  have := runS_go (mc_ok h) w [] (Live.nil _ _ _)
  simpa [regRun, foldS] using this
abbrev LiveE (e : Ex) (g : List Grp) (w : List Int) : Prop := Live (mcT g e) (mcF g e) (mcP g e) w
/-- A word of the language. -/
def AccE (e : Ex) (g : List Grp) (w : List Int) : Prop := ∃ x, Path (mcT g e) (mcF g e) (mcP g e) w x ∧ endS (mcP g e) x = true
theorem run_eq {g : List Grp} {e : Ex} (h : regCheck e g = 0) (w : List Int) (n : Nat) (hn : n ≤ w.length) (h1 : LiveE e g (w.take n)) (h2 : n < w.length → ¬ LiveE e g (w.take (n + 1))) : (regRun e g w).2 = n := by
  obtain ⟨_, a, b, c⟩ := run_spec h w
  rcases Nat.lt_trichotomy (regRun e g w).2 n with hl | hl | hl
  · exact absurd (Live.take h1 (by omega : (regRun e g w).2 + 1 ≤ n)) (c (by omega))
  · exact hl
  · exact absurd (Live.take b (by omega : n + 1 ≤ (regRun e g w).2)) (h2 (by omega))
theorem run_full {g : List Grp} {e : Ex} (h : regCheck e g = 0) (w : List Int) : (regRun e g w).2 = w.length ↔ LiveE e g w := by
  constructor
  · intro hl
    have := (run_spec h w).2.2.1
    rw [hl, List.take_length] at this
    exact this
  · intro hl
    exact run_eq h w _ (Nat.le_refl _) (by rw [List.take_length]; exact hl) (fun h => absurd h (Nat.lt_irrefl _))
theorem accepts_iff {g : List Grp} {e : Ex} (w : List Int) : regAccepts e g w = true ↔ regCheck e g = 0 ∧ AccE e g w := by
  unfold regAccepts
  rw [Bool.and_eq_true, Bool.and_eq_true, decide_eq_true_eq, decide_eq_true_eq]
  constructor
  · rintro ⟨h, h1, h2⟩
    refine ⟨h, ?_⟩
    have hM := mc_ok h
    have hS := (run_spec h w).1
    rw [h1, List.take_length] at hS
    rw [hS] at h2
    unfold endsS at h2
    rw [Bool.or_eq_true, Bool.and_eq_true, List.any_eq_true] at h2
    rcases h2 with ⟨h3, h4⟩ | ⟨a, h3, h4⟩
    · exact ⟨-1, (foldS_iff hM _ _).1 h3, by simp [endS, h4]⟩
    · have := hM.last a h3
      exact ⟨a, (foldS_iff hM _ _).1 h4, by simp [endS, h3]; right; omega⟩
  · rintro ⟨h, x, h1, h2⟩
    have hM := mc_ok h
    have hl := (run_full h w).2 ⟨x, h1⟩
    have hS := (run_spec h w).1
    rw [hl, List.take_length] at hS
    refine ⟨h, hl, ?_⟩
    rw [hS]
    exact endsS_true ((foldS_iff hM _ _).2 h1) h2
theorem begins_eq {g : List Grp} {e : Ex} (h : regCheck e g = 0) (w : List Int) : regBegins e g w = (regRun e g w).2 := by unfold regBegins; rw [if_pos h]
end Go.Proofs.YtofjodppljnlaaaGreatDoor
namespace Go.Proofs.YtofjodppljnlaaaGreatDoor
open Go.RowKit
set_option linter.unusedVariables false
set_option linter.unusedSimpArgs false
def ptGo : Nat → Int → List Tok → Option Nat
  | _, _, [] => none
  | k, d, x :: r => if x.k = 1 then ptGo (k + 1) (d + 1) r else if x.k = 2 then (if d - 1 = 0 then some k else ptGo (k + 1) (d - 1) r) else ptGo (k + 1) d r
/-- The partner of what opens at i. -/
def partL (l : List Tok) (i : Nat) : Int := match ptGo 0 0 (l.drop i) with
  | some k => (i : Int) + k
  | none => -1
end Go.Proofs.YtofjodppljnlaaaGreatDoor
namespace Go.Proofs.YtofjodppljnlaaaGreatDoor
open Go.RowKit
set_option linter.unusedVariables false
set_option linter.unusedSimpArgs false
def kdGo (i : Int) : Nat → Nat → List Tok → List Int
  | _, _, [] => []
  | k, d, x :: r =>
    if x.k = 2 then (if d = 0 ∧ 0 ≤ i then [] else kdGo i (k + 1) (d - 1) r)
    else (if d = 0 ∧ 0 ≤ x.k ∧ x.k ≤ 3 then [(k : Int)] else []) ++ kdGo i (k + 1) (if x.k = 1 then d + 1 else d) r
/-- The places of what stands in i. -/
def kidsL (l : List Tok) (i : Int) : List Int := kdGo i (i + 1).toNat 0 (l.drop (i + 1).toNat)
def KdRel (w wr : World) (l : List Tok) (i : Int) (k d : Nat) (v : Value) : Prop :=
  ∃ s : List Int, intRS.own 3 wr (fun q => w.heap.size ≤ q) v s ∧ s.length ≤ k ∧ s ++ kdGo i k d (l.drop k) = kidsL l i ∧ Pure w wr
set_option maxRecDepth 100000 in
set_option maxHeartbeats 4000000 in
theorem Kids_whole {F : Nat → Prop} {A : Option Addr} {c : Nat} {l : List Tok} {w : World} (hr : tokR.row w F A l) (hb : l.length ≤ 1048576 * 4) :
    Calls Tryz.prog 76 #[.slice A l.length c, .int .i64 (-1)] w fun e w' => ∃ v, e = .returned v ∧ intRS.own 3 w' (fun k => w.heap.size ≤ k) v (kidsL l (-1)) ∧ Pure w w' := by
  have HR := As.mk hr
  have HS0 := As.mk (show KdRel w w l (-1) 0 0 (.slice none 0 0) from ⟨[], Rp.own_nil _ _ _ _, Nat.zero_le _, rfl, Upd.refl _ _⟩)
  have t2 : decide ((-1 : Int) ≥ (l.length : Int)) = false := by simp; omega
  have t3 : decide ((l.length : Int) ≤ -1) = false := by simp; omega
  clear hr
  go_enter Tryz.func76, Tryz.ntmps76
  go_wp2
  go_loopg [5, 6, 7] l.length (fun gg v dv kv wr => ∃ k d : Nat, k + gg = l.length ∧ dv = .int .i64 d ∧ kv = .int .i64 k ∧ d ≤ k ∧ As (KdRel w wr l (-1) k d v))
  case atStart => exact ⟨0, 0, by omega, rfl, rfl, by omega, HS0⟩
  case round =>
    obtain ⟨k, d, hk, rfl, rfl, hdk, HC⟩ := hrel
    by_cases hlt : k < l.length
    · obtain ⟨x, hx⟩ : ∃ x, l[k]? = some x := ⟨_, List.getElem?_eq_getElem hlt⟩
      obtain ⟨s, hown, hsl, heq, hp⟩ := HC.out
      obtain ⟨b, o, rfl, hFb, hbb, d0, d1, d2, d3⟩ := tok_at (Rp.row_pure HR.out hp) hx
      obtain ⟨g1, rfl⟩ : ∃ m, gk = m + 1 := ⟨gk - 1, by omega⟩
      rw [drop_cons hx, kdGo] at heq
      have HO := As.mk hown
      have HP := As.mk hp
      have HK := As.mk hk
      have HSL := As.mk hsl
      have hdec : decide (k < l.length) = true := by simpa using hlt
      have hwk : IntKind.i64.wrap ((k : Int) + 1) = (k : Int) + 1 := IntWalk.i64_in _ (by omega)
      clear hown hp hk hx HC hsl
      by_cases h2 : x.k = 2
      · have e2 : (x.k == 2) = true := by simp [h2]
        rw [if_pos h2] at heq
        by_cases hd : d = 0
        · subst hd
          rw [if_neg (by omega)] at heq
          have HE := As.mk heq
          have hmx : max ((0 : Int) - 1) 0 = 0 := by decide
          have hmy : max (-1 : Int) 0 = 0 := by decide
          clear heq h2
          go_wp2
          go_roundg g1
          case measure => omega
          case rel => exact ⟨k + 1, 0, by have := HK.out; omega, by first | rfl | go_num, by go_num, by omega, ⟨s, HO.out, by have := HSL.out; omega, HE.out, HP.out⟩⟩
        · obtain ⟨d', rfl⟩ : ∃ d', d = d' + 1 := ⟨d - 1, by omega⟩
          rw [if_neg (by omega)] at heq
          have HE := As.mk heq
          have e0 : (((d' + 1 : Nat) : Int) == 0) = false := by simp; omega
          have e00 : (((d' : Nat) : Int) + 1 == 0) = false := by simp; omega
          have hmx : max (d' : Int) 0 = d' := by omega
          clear heq h2 hd
          go_wp2
          go_roundg g1
          case measure => omega
          case rel => exact ⟨k + 1, d', by have := HK.out; omega, by first | rfl | go_num, by go_num, by omega, ⟨s, HO.out, by have := HSL.out; omega, HE.out, HP.out⟩⟩
      · have e2 : (x.k == 2) = false := by simp [h2]
        rw [if_neg h2] at heq
        have hw1 : IntKind.i64.wrap ((d : Int) + 1) = (d : Int) + 1 := IntWalk.i64_in _ (by omega)
        have hd1 : ∀ (d2 : Nat) (v2 : Value) (w2 : World) (s2 : List Int), s ++ ((if d = 0 ∧ 0 ≤ x.k ∧ x.k ≤ 3 then [(k : Int)] else []) ++ kdGo (-1 : Int) (k + 1) d2 (l.drop (k + 1))) = kidsL l (-1 : Int) → intRS.own 3 w2 (fun q => w.heap.size ≤ q) v2 s2 → s2 = s ++ (if d = 0 ∧ 0 ≤ x.k ∧ x.k ≤ 3 then [(k : Int)] else []) → Pure w w2 → KdRel w w2 l (-1 : Int) (k + 1) d2 v2 := fun d2 v2 w2 s2 h1 h3 h4 h5 => ⟨s2, h3, by subst h4; rw [List.length_append]; have := HSL.out; split <;> simp <;> omega, by rw [h4, List.append_assoc]; exact h1, h5⟩
        have HD1 := As.mk hd1
        have HE := As.mk heq
        clear heq hd1
        by_cases hin : d = 0 ∧ 0 ≤ x.k ∧ x.k ≤ 3
        · obtain ⟨rfl, hin1, hin2⟩ := hin
          rw [if_pos ⟨rfl, hin1, hin2⟩] at HE HD1
          have f1 : decide (x.k ≥ 0) = true := by simpa using hin1
          have f2 : decide (0 ≤ x.k) = true := by simpa using hin1
          have f3 : decide (x.k ≤ 3) = true := by simpa using hin2
          clear hin1 hin2 h2
          by_cases h1 : x.k = 1
          · have e1 : (x.k == 1) = true := by simp [h1]
            rw [if_pos h1] at HE
            clear h1
            go_wp2_with (at_builtin; refine Rp.own_append intRS HO.out (k : Int) [.int .i64 k] rfl (Fp := fun _ => False) (G := fun q => w.heap.size ≤ q) (fun _ h => h.elim) (fun _ h _ => h) (fun q hq => by have := HP.out.size; omega) rfl _ _ 83 _ 8 rfl Tryz.underlying83 int_infoS rfl (by decide) (by decide) rfl (by simp [Act.eval]) (by have := HSL.out; omega) ?_; intro v1 w1 ho1 hu1; have HO1 := As.mk ho1; have HU1 := As.mk (HP.out.trans hu1 (fun q hq h => by have := Rp.own_block_lt HO.out q h; omega)); clear ho1 hu1)
            go_roundg g1
            case measure => omega
            case rel => exact ⟨k + 1, 1, by have := HK.out; omega, by first | rfl | go_num, by go_num, by omega, ⟨HD1.out _ _ _ _ HE.out HO1.out rfl HU1.out⟩⟩
          · have e1 : (x.k == 1) = false := by simp [h1]
            rw [if_neg h1] at HE
            clear h1
            go_wp2_with (at_builtin; refine Rp.own_append intRS HO.out (k : Int) [.int .i64 k] rfl (Fp := fun _ => False) (G := fun q => w.heap.size ≤ q) (fun _ h => h.elim) (fun _ h _ => h) (fun q hq => by have := HP.out.size; omega) rfl _ _ 83 _ 8 rfl Tryz.underlying83 int_infoS rfl (by decide) (by decide) rfl (by simp [Act.eval]) (by have := HSL.out; omega) ?_; intro v1 w1 ho1 hu1; have HO1 := As.mk ho1; have HU1 := As.mk (HP.out.trans hu1 (fun q hq h => by have := Rp.own_block_lt HO.out q h; omega)); clear ho1 hu1)
            go_roundg g1
            case measure => omega
            case rel => exact ⟨k + 1, 0, by have := HK.out; omega, by first | rfl | go_num, by go_num, by omega, ⟨HD1.out _ _ _ _ HE.out HO1.out rfl HU1.out⟩⟩
        · rw [if_neg hin] at HE HD1
          have hcond : (decide ((d : Int) = 0) && (decide (0 ≤ x.k) && decide (x.k ≤ 3))) = false := by
            rw [← Bool.not_eq_true]
            simp only [Bool.and_eq_true, decide_eq_true_eq]
            omega
          have HCOND := As.mk hcond
          clear hin hcond
          cases c0 : decide ((d : Int) = 0) <;> cases c1 : decide (0 ≤ x.k) <;> cases c2 : decide (x.k ≤ 3) <;> cases c3 : decide (x.k = 1)
          all_goals first
            | (exfalso; rw [c0, c1, c2] at HCOND; exact absurd HCOND.out (by decide))
            | skip
          all_goals
            have c4 : ((d : Int) == 0) = decide ((d : Int) = 0) := rfl
            have c5 : (x.k == 1) = decide (x.k = 1) := rfl
            have c6 : decide (x.k ≥ 0) = decide (0 ≤ x.k) := rfl
            have c7 : decide (d = 0) = decide ((d : Int) = 0) := by simp
            rw [c0] at c4 c7
            rw [c3] at c5
            rw [c1] at c6
            have HC3 := As.mk c3
            clear HCOND c3
            go_wp2
            go_roundg g1
            case measure => omega
            case rel => exact ⟨k + 1, if x.k = 1 then d + 1 else d, by have := HK.out; omega, by first | (rw [if_pos (of_decide_eq_true HC3.out)]; go_num) | (rw [if_neg (of_decide_eq_false HC3.out)]; go_num) | (rw [if_neg (of_decide_eq_false HC3.out)]), by go_num, by split <;> omega, ⟨HD1.out _ _ _ _ HE.out HO.out (by simp) HP.out⟩⟩
    · obtain rfl : k = l.length := by omega
      obtain ⟨s, hown, hsl, heq, hp⟩ := HC.out
      rw [List.drop_length, kdGo, List.append_nil] at heq
      have HO := As.mk hown
      have HP := As.mk hp
      have HE := As.mk heq
      clear hown hp heq HC hsl
      go_wp2
      go_ret
      exact ⟨_, rfl, by rw [← HE.out]; exact HO.out, HP.out⟩
set_option maxRecDepth 100000 in
set_option maxHeartbeats 4000000 in
theorem Kids_in {F : Nat → Prop} {A : Option Addr} {c : Nat} {l : List Tok} {w : World} {j : Nat} {y : Tok} (hr : tokR.row w F A l) (hb : l.length ≤ 1048576 * 4) (hy : l[j]? = some y) (hy1 : y.k = 1) :
    Calls Tryz.prog 76 #[.slice A l.length c, .int .i64 j] w fun e w' => ∃ v, e = .returned v ∧ intRS.own 3 w' (fun k => w.heap.size ≤ k) v (kidsL l j) ∧ Pure w w' := by
  have HR := As.mk hr
  have hjl : j < l.length := (List.getElem?_eq_some_iff.1 hy).1
  have HS0 := As.mk (show KdRel w w l j (j + 1) 0 (.slice none 0 0) from ⟨[], Rp.own_nil _ _ _ _, Nat.zero_le _, rfl, Upd.refl _ _⟩)
  obtain ⟨by', oy', rfl, _, hby, f0, f1, f2, f3⟩ := tok_at hr hy
  rw [hy1] at f0
  have t1 : decide ((j : Int) < -1) = false := by rw [decide_eq_false_iff_not]; omega
  have t2 : decide ((j : Int) ≥ (l.length : Int)) = false := by simp; omega
  have t3 : decide ((l.length : Int) ≤ (j : Int)) = false := by simp; omega
  have t4 : decide ((j : Int) ≥ 0) = true := by simp
  have t5 : decide ((0 : Int) ≤ (j : Int)) = true := by simp
  have t6 : decide (l.length ≤ j) = false := by simp; omega
  have hwj : IntKind.i64.wrap ((j : Int) + 1) = (j : Int) + 1 := IntWalk.i64_in _ (by omega)
  clear hr hy hy1
  go_enter Tryz.func76, Tryz.ntmps76
  go_wp2
  go_loopg [5, 6, 7] (l.length - (j + 1)) (fun gg v dv kv wr => ∃ k d : Nat, k + gg = l.length ∧ dv = .int .i64 d ∧ kv = .int .i64 k ∧ d ≤ k ∧ As (KdRel w wr l j k d v))
  case atStart => exact ⟨j + 1, 0, by omega, rfl, by go_num, by omega, HS0⟩
  case round =>
    obtain ⟨k, d, hk, rfl, rfl, hdk, HC⟩ := hrel
    by_cases hlt : k < l.length
    · obtain ⟨x, hx⟩ : ∃ x, l[k]? = some x := ⟨_, List.getElem?_eq_getElem hlt⟩
      obtain ⟨s, hown, hsl, heq, hp⟩ := HC.out
      obtain ⟨b, o, hA, hFb, hbb, d0, d1, d2, d3⟩ := tok_at (Rp.row_pure HR.out hp) hx
      simp only [Option.some.injEq, Addr.mk.injEq] at hA
      obtain ⟨rfl, rfl, _⟩ := hA
      obtain ⟨g1, rfl⟩ : ∃ m, gk = m + 1 := ⟨gk - 1, by omega⟩
      rw [drop_cons hx, kdGo] at heq
      have HO := As.mk hown
      have HP := As.mk hp
      have HK := As.mk hk
      have HSL := As.mk hsl
      have hdec : decide (k < l.length) = true := by simpa using hlt
      have hwk : IntKind.i64.wrap ((k : Int) + 1) = (k : Int) + 1 := IntWalk.i64_in _ (by omega)
      clear hown hp hk hx HC hsl
      by_cases h2 : x.k = 2
      · have e2 : (x.k == 2) = true := by simp [h2]
        rw [if_pos h2] at heq
        by_cases hd : d = 0
        · subst hd
          rw [if_pos ⟨rfl, by omega⟩, List.append_nil] at heq
          have HE := As.mk heq
          clear heq h2
          go_wp2
          go_ret
          exact ⟨_, rfl, by rw [← HE.out]; exact HO.out, HP.out⟩
        · obtain ⟨d', rfl⟩ : ∃ d', d = d' + 1 := ⟨d - 1, by omega⟩
          rw [if_neg (by omega)] at heq
          have HE := As.mk heq
          have e0 : (((d' + 1 : Nat) : Int) == 0) = false := by simp; omega
          have e00 : (((d' : Nat) : Int) + 1 == 0) = false := by simp; omega
          have hmx : max (d' : Int) 0 = d' := by omega
          clear heq h2 hd
          go_wp2
          go_roundg g1
          case measure => omega
          case rel => exact ⟨k + 1, d', by have := HK.out; omega, by first | rfl | go_num, by go_num, by omega, ⟨s, HO.out, by have := HSL.out; omega, HE.out, HP.out⟩⟩
      · have e2 : (x.k == 2) = false := by simp [h2]
        rw [if_neg h2] at heq
        have hw1 : IntKind.i64.wrap ((d : Int) + 1) = (d : Int) + 1 := IntWalk.i64_in _ (by omega)
        have hd1 : ∀ (d2 : Nat) (v2 : Value) (w2 : World) (s2 : List Int), s ++ ((if d = 0 ∧ 0 ≤ x.k ∧ x.k ≤ 3 then [(k : Int)] else []) ++ kdGo (j : Int) (k + 1) d2 (l.drop (k + 1))) = kidsL l (j : Int) → intRS.own 3 w2 (fun q => w.heap.size ≤ q) v2 s2 → s2 = s ++ (if d = 0 ∧ 0 ≤ x.k ∧ x.k ≤ 3 then [(k : Int)] else []) → Pure w w2 → KdRel w w2 l (j : Int) (k + 1) d2 v2 := fun d2 v2 w2 s2 h1 h3 h4 h5 => ⟨s2, h3, by subst h4; rw [List.length_append]; have := HSL.out; split <;> simp <;> omega, by rw [h4, List.append_assoc]; exact h1, h5⟩
        have HD1 := As.mk hd1
        have HE := As.mk heq
        clear heq hd1
        by_cases hin : d = 0 ∧ 0 ≤ x.k ∧ x.k ≤ 3
        · obtain ⟨rfl, hin1, hin2⟩ := hin
          rw [if_pos ⟨rfl, hin1, hin2⟩] at HE HD1
          have f1 : decide (x.k ≥ 0) = true := by simpa using hin1
          have f2 : decide (0 ≤ x.k) = true := by simpa using hin1
          have f3 : decide (x.k ≤ 3) = true := by simpa using hin2
          clear hin1 hin2 h2
          by_cases h1 : x.k = 1
          · have e1 : (x.k == 1) = true := by simp [h1]
            rw [if_pos h1] at HE
            clear h1
            go_wp2_with (at_builtin; refine Rp.own_append intRS HO.out (k : Int) [.int .i64 k] rfl (Fp := fun _ => False) (G := fun q => w.heap.size ≤ q) (fun _ h => h.elim) (fun _ h _ => h) (fun q hq => by have := HP.out.size; omega) rfl _ _ 83 _ 8 rfl Tryz.underlying83 int_infoS rfl (by decide) (by decide) rfl (by simp [Act.eval]) (by have := HSL.out; omega) ?_; intro v1 w1 ho1 hu1; have HO1 := As.mk ho1; have HU1 := As.mk (HP.out.trans hu1 (fun q hq h => by have := Rp.own_block_lt HO.out q h; omega)); clear ho1 hu1)
            go_roundg g1
            case measure => omega
            case rel => exact ⟨k + 1, 1, by have := HK.out; omega, by first | rfl | go_num, by go_num, by omega, ⟨HD1.out _ _ _ _ HE.out HO1.out rfl HU1.out⟩⟩
          · have e1 : (x.k == 1) = false := by simp [h1]
            rw [if_neg h1] at HE
            clear h1
            go_wp2_with (at_builtin; refine Rp.own_append intRS HO.out (k : Int) [.int .i64 k] rfl (Fp := fun _ => False) (G := fun q => w.heap.size ≤ q) (fun _ h => h.elim) (fun _ h _ => h) (fun q hq => by have := HP.out.size; omega) rfl _ _ 83 _ 8 rfl Tryz.underlying83 int_infoS rfl (by decide) (by decide) rfl (by simp [Act.eval]) (by have := HSL.out; omega) ?_; intro v1 w1 ho1 hu1; have HO1 := As.mk ho1; have HU1 := As.mk (HP.out.trans hu1 (fun q hq h => by have := Rp.own_block_lt HO.out q h; omega)); clear ho1 hu1)
            go_roundg g1
            case measure => omega
            case rel => exact ⟨k + 1, 0, by have := HK.out; omega, by first | rfl | go_num, by go_num, by omega, ⟨HD1.out _ _ _ _ HE.out HO1.out rfl HU1.out⟩⟩
        · rw [if_neg hin] at HE HD1
          have hcond : (decide ((d : Int) = 0) && (decide (0 ≤ x.k) && decide (x.k ≤ 3))) = false := by
            rw [← Bool.not_eq_true]
            simp only [Bool.and_eq_true, decide_eq_true_eq]
            omega
          have HCOND := As.mk hcond
          clear hin hcond
          cases c0 : decide ((d : Int) = 0) <;> cases c1 : decide (0 ≤ x.k) <;> cases c2 : decide (x.k ≤ 3) <;> cases c3 : decide (x.k = 1)
          all_goals first
            | (exfalso; rw [c0, c1, c2] at HCOND; exact absurd HCOND.out (by decide))
            | skip
          all_goals
            have c4 : ((d : Int) == 0) = decide ((d : Int) = 0) := rfl
            have c5 : (x.k == 1) = decide (x.k = 1) := rfl
            have c6 : decide (x.k ≥ 0) = decide (0 ≤ x.k) := rfl
            have c7 : decide (d = 0) = decide ((d : Int) = 0) := by simp
            rw [c0] at c4 c7
            rw [c3] at c5
            rw [c1] at c6
            have HC3 := As.mk c3
            clear HCOND c3
            go_wp2
            go_roundg g1
            case measure => omega
            case rel => exact ⟨k + 1, if x.k = 1 then d + 1 else d, by have := HK.out; omega, by first | (rw [if_pos (of_decide_eq_true HC3.out)]; go_num) | (rw [if_neg (of_decide_eq_false HC3.out)]; go_num) | (rw [if_neg (of_decide_eq_false HC3.out)]), by go_num, by split <;> omega, ⟨HD1.out _ _ _ _ HE.out HO.out (by simp) HP.out⟩⟩
    · obtain rfl : k = l.length := by omega
      obtain ⟨s, hown, hsl, heq, hp⟩ := HC.out
      rw [List.drop_length, kdGo, List.append_nil] at heq
      have HO := As.mk hown
      have HP := As.mk hp
      have HE := As.mk heq
      clear hown hp heq HC hsl
      go_wp2
      go_ret
      exact ⟨_, rfl, by rw [← HE.out]; exact HO.out, HP.out⟩
end Go.Proofs.YtofjodppljnlaaaGreatDoor
namespace Go.Proofs.YtofjodppljnlaaaGreatDoor
open Go.RowKit
set_option linter.unusedVariables false
set_option linter.unusedSimpArgs false
theorem kdGo_len (i : Int) : ∀ (l : List Tok) (k d : Nat), (kdGo i k d l).length ≤ l.length := by
  intro l
  induction l with
  | nil => intro k d; simp [kdGo]
  | cons x r ih =>
    intro k d
    rw [kdGo]
    split
    · split
      · simp
      · have := ih (k + 1) (d - 1)
        simp only [List.length_cons]
        omega
    · rw [List.length_append]
      have h1 := ih (k + 1) (if x.k = 1 then d + 1 else d)
      have h2 : (if d = 0 ∧ 0 ≤ x.k ∧ x.k ≤ 3 then [(k : Int)] else []).length ≤ 1 := by split <;> simp
      simp only [List.length_cons]
      omega
theorem kidsL_len (l : List Tok) (i : Int) : (kidsL l i).length ≤ l.length := by
  unfold kidsL
  have := kdGo_len i (l.drop (i + 1).toNat) (i + 1).toNat 0
  rw [List.length_drop] at this
  omega
theorem Rp.own_empty0 {α : Type} (d : Rp α) {e : Nat} {w : World} {F : Nat → Prop} {b : Nat} (hb : w.heap[b]? = some (.cells #[] e (0, 0))) (hF : F b) : d.own e w F (.slice (some ⟨b, 0, none⟩) 0 0) [] :=
  ⟨[], ⟨by simp, .inr ⟨b, 0, #[], rfl, Nat.zero_le _, hb, Nat.le_refl _, Nat.zero_le _, by simp, by simp⟩⟩, fun k hk => by simp [Value.ownBlock] at hk; subst hk; exact hF, Reps.nil _ _⟩
end Go.Proofs.YtofjodppljnlaaaGreatDoor
namespace Go.Proofs.YtofjodppljnlaaaGreatDoor
open Go.RowKit
set_option linter.unusedVariables false
set_option linter.unusedSimpArgs false
theorem one_path {ty : List Int} {nn : Bool} : ∀ (w : List Int) (x : Int), Path [ty] [[0]] ⟨nn, [0], [0]⟩ w x ↔ (w = [] ∧ x = -1) ∨ (w ≠ [] ∧ x = 0 ∧ ∀ t ∈ w, t ∈ ty) := by
  refine rev_ind (fun x => ?_) (fun w t ih x => ?_)
  · constructor
    · exact fun h => .inl ⟨rfl, h.nil_inv⟩
    · rintro (⟨_, rfl⟩ | ⟨h, _⟩)
      · exact .nil
      · exact absurd rfl h
  · constructor
    · intro h
      obtain ⟨y, h1, h2, h3⟩ := h.snoc_inv
      have hx : x = 0 := by
        rcases (ih y).1 h1 with ⟨_, rfl⟩ | ⟨_, rfl, _⟩
        · simpa [nextsOf] using h2
        · simpa [nextsOf] using h2
      subst hx
      refine .inr ⟨by simp, rfl, fun u hu => ?_⟩
      rcases List.mem_append.1 hu with hu | hu
      · rcases (ih y).1 h1 with ⟨rfl, _⟩ | ⟨_, _, h4⟩
        · cases hu
        · exact h4 u hu
      · rw [List.mem_singleton.1 hu]
        simpa using h3
    · rintro (⟨h, _⟩ | ⟨_, rfl, h⟩)
      · simp at h
      · have ht : t ∈ ty := h t (by simp)
        by_cases hw : w = []
        · subst hw
          exact .snoc [] (-1) 0 t .nil (by simp [nextsOf]) (by simpa using ht)
        · exact .snoc w 0 0 t ((ih 0).2 (.inr ⟨hw, rfl, fun u hu => h u (by simp [hu])⟩)) (by simp [nextsOf]) (by simpa using ht)
theorem none_path {p : Part} (hp : p.first = []) : ∀ (w : List Int) (x : Int), Path [] [] p w x ↔ (w = [] ∧ x = -1) := by
  refine rev_ind (fun x => ?_) (fun w t ih x => ?_)
  · constructor
    · exact fun h => ⟨rfl, h.nil_inv⟩
    · rintro ⟨_, rfl⟩
      exact .nil
  · constructor
    · intro h
      obtain ⟨y, h1, h2, h3⟩ := h.snoc_inv
      simp at h3
    · rintro ⟨h, _⟩
      simp at h
def tyOf (g : List Grp) (e : Ex) : List Int := (mcT g e).headD []
def nnOf (g : List Grp) (e : Ex) : Bool := (mcP g e).none
structure Sig (g : List Grp) (e : Ex) : Prop where
  live : ∀ w : List Int, w.length ≤ regBegins e g w ↔ ∀ t ∈ w, t ∈ tyOf g e
  acc : ∀ w : List Int, regAccepts e g w = true ↔ (w = [] → nnOf g e = true) ∧ ∀ t ∈ w, t ∈ tyOf g e
theorem begins_iff {g : List Grp} {e : Ex} (hc : regCheck e g = 0) (w : List Int) : w.length ≤ regBegins e g w ↔ LiveE e g w := by
  rw [begins_eq hc, ← run_full hc]
  have := (run_spec hc w).2.1
  omega
theorem sig_one {g : List Grp} {e : Ex} (hc : regCheck e g = 0) {ty : List Int} {nn : Bool} (h1 : mcT g e = [ty]) (h2 : mcF g e = [[0]]) (h3 : mcP g e = ⟨nn, [0], [0]⟩) : Sig g e := by
  have hty : tyOf g e = ty := by unfold tyOf; rw [h1]; rfl
  have hnn : nnOf g e = nn := by unfold nnOf; rw [h3]
  have hp : ∀ w x, Path (mcT g e) (mcF g e) (mcP g e) w x ↔ (w = [] ∧ x = -1) ∨ (w ≠ [] ∧ x = 0 ∧ ∀ t ∈ w, t ∈ ty) := by
    rw [h1, h2, h3]
    exact one_path
  refine ⟨fun w => ?_, fun w => ?_⟩
  · rw [begins_iff hc, hty]
    constructor
    · rintro ⟨x, hx⟩ t ht
      rcases (hp w x).1 hx with ⟨rfl, _⟩ | ⟨_, _, h⟩
      · cases ht
      · exact h t ht
    · intro h
      by_cases hw : w = []
      · exact ⟨-1, (hp w _).2 (.inl ⟨hw, rfl⟩)⟩
      · exact ⟨0, (hp w _).2 (.inr ⟨hw, rfl, h⟩)⟩
  · rw [accepts_iff, hty, hnn]
    constructor
    · rintro ⟨_, x, hx, he⟩
      rcases (hp w x).1 hx with ⟨rfl, rfl⟩ | ⟨hw, rfl, h⟩
      · refine ⟨fun _ => ?_, fun t ht => by cases ht⟩
        rw [h3] at he
        simpa [endS] using he
      · exact ⟨fun e => absurd e hw, h⟩
    · rintro ⟨ha, h⟩
      refine ⟨hc, ?_⟩
      by_cases hw : w = []
      · exact ⟨-1, (hp w _).2 (.inl ⟨hw, rfl⟩), by rw [h3]; simp [endS, ha hw]⟩
      · exact ⟨0, (hp w _).2 (.inr ⟨hw, rfl, h⟩), by rw [h3]; simp [endS]⟩
theorem sig_none {g : List Grp} {e : Ex} (hc : regCheck e g = 0) (h1 : mcT g e = []) (h2 : mcF g e = []) (h3 : (mcP g e).first = []) (h4 : (mcP g e).none = true) : Sig g e := by
  have hty : tyOf g e = [] := by unfold tyOf; rw [h1]; rfl
  have hp : ∀ w x, Path (mcT g e) (mcF g e) (mcP g e) w x ↔ (w = [] ∧ x = -1) := by
    rw [h1, h2]
    exact none_path h3
  refine ⟨fun w => ?_, fun w => ?_⟩
  · rw [begins_iff hc, hty]
    constructor
    · rintro ⟨x, hx⟩ t ht
      rw [((hp w x).1 hx).1] at ht
      cases ht
    · intro h
      have hw : w = [] := List.eq_nil_iff_forall_not_mem.2 (fun t ht => by have := h t ht; cases this)
      exact ⟨-1, (hp w _).2 ⟨hw, rfl⟩⟩
  · rw [accepts_iff, hty]
    constructor
    · rintro ⟨_, x, hx, he⟩
      obtain ⟨rfl, _⟩ := (hp w x).1 hx
      exact ⟨fun _ => h4, fun t ht => by cases ht⟩
    · rintro ⟨ha, h⟩
      have hw : w = [] := List.eq_nil_iff_forall_not_mem.2 (fun t ht => by have := h t ht; cases this)
      exact ⟨hc, -1, (hp w _).2 ⟨hw, rfl⟩, by simp [endS, h4]⟩
theorem house_check_all : ((List.range 9).all fun i => decide (regCheck (ruleOf houseRules i).2 houseGroups = 0)) = true := by kernel_rfl
theorem house_rule (t : Int) : ∃ i : Nat, i < 9 ∧ ruleOf houseRules t = ruleOf houseRules (i : Int) := by
  by_cases h : t.toNat < 9
  · refine ⟨t.toNat, h, ?_⟩
    unfold ruleOf
    rfl
  · refine ⟨8, by omega, ?_⟩
    unfold ruleOf
    rw [List.getElem?_eq_none (by rw [house_len]; omega), List.getElem?_eq_none (by rw [house_len]; decide)]
theorem sig_nat (i : Nat) (hi : i < 9) : Sig houseGroups (ruleOf houseRules (i : Int)).2 := by
  have hc : regCheck (ruleOf houseRules (i : Int)).2 houseGroups = 0 := by simpa using List.all_eq_true.1 house_check_all i (List.mem_range.2 hi)
  have h : i = 0 ∨ i = 1 ∨ i = 2 ∨ i = 3 ∨ i = 4 ∨ i = 5 ∨ i = 6 ∨ i = 7 ∨ i = 8 := by omega
  rcases h with rfl | rfl | rfl | rfl | rfl | rfl | rfl | rfl | rfl
  · exact sig_one hc (ty := [1, 2, 3, 4, 5, 7]) (nn := false) (by kernel_rfl) (by kernel_rfl) (by kernel_rfl)
  · exact sig_one hc (ty := [0]) (nn := true) (by kernel_rfl) (by kernel_rfl) (by kernel_rfl)
  · exact sig_one hc (ty := [0]) (nn := true) (by kernel_rfl) (by kernel_rfl) (by kernel_rfl)
  · exact sig_one hc (ty := [1, 2, 3, 4, 5, 7]) (nn := false) (by kernel_rfl) (by kernel_rfl) (by kernel_rfl)
  · exact sig_one hc (ty := [0]) (nn := true) (by kernel_rfl) (by kernel_rfl) (by kernel_rfl)
  · exact sig_one hc (ty := [6]) (nn := false) (by kernel_rfl) (by kernel_rfl) (by kernel_rfl)
  · exact sig_one hc (ty := [1, 2, 3, 4, 5, 7]) (nn := false) (by kernel_rfl) (by kernel_rfl) (by kernel_rfl)
  · exact sig_none hc (by kernel_rfl) (by kernel_rfl) (by kernel_rfl) (by kernel_rfl)
  · exact sig_none hc (by kernel_rfl) (by kernel_rfl) (by kernel_rfl) (by kernel_rfl)
theorem house_sig (t : Int) : Sig houseGroups (ruleOf houseRules t).2 := by
  obtain ⟨i, hi, h⟩ := house_rule t
  rw [h]
  exact sig_nat i hi
end Go.Proofs.YtofjodppljnlaaaGreatDoor
namespace Go.Proofs.YtofjodppljnlaaaGreatDoor
open Go.RowKit
set_option linter.unusedVariables false
set_option linter.unusedSimpArgs false
/-- flat.Check's depth. -/
def fcRun : Nat → List Tok → Option Nat
  | n, [] => some n
  | n, x :: r => if rightB x = false then none else if x.k = 2 then (if n = 0 then none else fcRun (n - 1) r) else if x.k = 1 then (if n = 32 then none else fcRun (n + 1) r) else fcRun n r
theorem fcGo_run : ∀ (l : List Tok) (k n : Nat), (fcGo k n l).2 = 0 ↔ fcRun n l = some 0 := by
  intro l
  induction l with
  | nil =>
    intro k n
    unfold fcGo fcRun
    by_cases h : n = 0 <;> simp [h]
  | cons x r ih =>
    intro k n
    unfold fcGo fcRun
    by_cases hr : rightB x = false
    · simp [hr]
    · rw [if_neg hr]
      by_cases h2 : x.k = 2
      · rw [if_pos h2]
        by_cases h0 : n = 0
        · simp [h0, h2]
        · rw [if_neg h0, if_neg (by simp [h0, hr]), if_neg (by omega), if_pos h2]
          exact ih _ _
      · rw [if_neg (by simp [h2, hr])]
        simp only [if_neg h2]
        by_cases h1 : x.k = 1
        · simp only [if_pos h1]
          by_cases h3 : n = 32
          · simp [h3]
          · simp only [if_neg h3]
            exact ih _ _
        · simp only [if_neg h1]
          exact ih _ _
theorem fcRun_app : ∀ (a b : List Tok) (n : Nat), fcRun n (a ++ b) = (fcRun n a).bind (fun m => fcRun m b) := by
  intro a b
  induction a with
  | nil => intro n; rfl
  | cons x r ih =>
    intro n
    rw [List.cons_append, fcRun, fcRun]
    split
    · rfl
    · split
      · split
        · rfl
        · exact ih _
      · split
        · split
          · rfl
          · exact ih _
        · exact ih _
section
variable (rs : List (Spec × Ex)) (gs : List Grp)
/-- The levels behind some tokens. -/
def ckRun : Lev → List Lev → List Tok → Option (Lev × List Lev)
  | top, below, [] => some (top, below)
  | top, below, x :: r =>
    if x.k = 2 then (match below with | [] => none | p :: q => if regAccepts top.1.2 gs top.2 = true then ckRun p q r else none)
    else if stepOk rs gs top x = true then
      (if x.k = 1 then ckRun (ruleOf rs x.t, []) ((top.1, top.2 ++ [x.t]) :: below) r else ckRun (top.1, top.2 ++ [x.t]) below r)
    else none
end
section
variable {rs : List (Spec × Ex)} {gs : List Grp}
theorem ckRun_cons (top : Lev) (below : List Lev) (x : Tok) (r : List Tok) : ckRun rs gs top below (x :: r) =
    if x.k = 2 then (match below with | [] => none | p :: q => if regAccepts top.1.2 gs top.2 = true then ckRun rs gs p q r else none)
    else if stepOk rs gs top x = true then
      (if x.k = 1 then ckRun rs gs (ruleOf rs x.t, []) ((top.1, top.2 ++ [x.t]) :: below) r else ckRun rs gs (top.1, top.2 ++ [x.t]) below r)
    else none := by
  rw [ckRun.eq_def]
theorem ckRun_app : ∀ (a b : List Tok) (top : Lev) (below : List Lev), ckRun rs gs top below (a ++ b) = (ckRun rs gs top below a).bind (fun s => ckRun rs gs s.1 s.2 b) := by
  intro a b
  induction a with
  | nil => intro top below; rfl
  | cons x r ih =>
    intro top below
    rw [List.cons_append, ckRun_cons, ckRun_cons]
    split
    · cases below with
      | nil => rfl
      | cons p q =>
        simp only
        split
        · exact ih _ _
        · rfl
    · split
      · split
        · exact ih _ _
        · exact ih _ _
      · rfl
/-- What Check says, as a run. -/
theorem ckGo_run : ∀ (l : List Tok) (k : Nat) (top : Lev) (below : List Lev), fcRun below.length l = some 0 → ((ckGo rs gs k top below l).2 = 0 ↔ ∃ t, ckRun rs gs top below l = some (t, []) ∧ regAccepts t.1.2 gs t.2 = true) := by
  intro l
  induction l with
  | nil =>
    intro k top below hf
    simp only [fcRun, Option.some.injEq] at hf
    obtain rfl : below = [] := List.eq_nil_of_length_eq_zero hf
    rw [ck_end]
    constructor
    · intro h
      refine ⟨top, rfl, ?_⟩
      by_cases ha : regAccepts top.1.2 gs top.2 = true
      · exact ha
      · simp only [if_neg ha] at h
        omega
    · rintro ⟨t, h, ha⟩
      simp only [ckRun, Option.some.injEq, Prod.mk.injEq] at h
      obtain ⟨rfl, _⟩ := h
      simp only [if_pos ha]
  | cons x r ih =>
    intro k top below hf
    unfold fcRun at hf
    split at hf
    · cases hf
    · by_cases h2 : x.k = 2
      · rw [if_pos h2] at hf
        cases below with
        | nil => simp at hf
        | cons p q =>
          rw [if_neg (by simp)] at hf
          cases ha : regAccepts top.1.2 gs top.2
          · rw [ck_noclose h2 ha, ckRun_cons, if_pos h2]
            simp [ha]
          · rw [ck_close h2 ha, ckRun_cons, if_pos h2, ih (k + 1) p q (by simpa using hf)]
            simp only [ha, if_true]
      · rw [if_neg h2] at hf
        cases hs : stepOk rs gs top x
        · rw [ck_bad h2 hs, ckRun_cons, if_neg h2]
          simp [hs]
        · by_cases h1 : x.k = 1
          · rw [if_pos h1] at hf
            split at hf
            · cases hf
            · rw [ck_open h1 hs, ckRun_cons, if_neg h2, if_pos hs, if_pos h1]
              exact ih _ _ _ (by simpa using hf)
          · rw [if_neg h1] at hf
            rw [ck_leaf h2 h1 hs, ckRun_cons, if_neg h2, if_pos hs, if_neg h1]
            exact ih _ _ _ hf
end
abbrev hRun (top : Lev) (below : List Lev) (l : List Tok) : Option (Lev × List Lev) := ckRun houseRules houseGroups top below l
abbrev hAcc (t : Lev) : Bool := regAccepts t.1.2 houseGroups t.2
abbrev hTop : Lev := (ruleOf houseRules 0, [])
/-- What it is for a document to be the house's. -/
theorem house_iff (l : List Tok) : (houseCheck l).2 = 0 ↔ l.length ≤ 2048 ∧ fcRun 0 l = some 0 ∧ ∃ t, hRun hTop [] l = some (t, []) ∧ hAcc t = true := by
  unfold houseCheck schemaCheck
  by_cases hl : l.length > 2048
  · have h1 : (flatCheck l).2 ≠ 0 := by unfold flatCheck; rw [if_pos hl]; decide
    rw [if_neg h1]
    constructor
    · exact fun h => absurd h h1
    · rintro ⟨h, _⟩
      omega
  · have h1 : flatCheck l = fcGo 0 0 l := by unfold flatCheck; rw [if_neg hl]
    by_cases hf : (flatCheck l).2 = 0
    · rw [if_pos hf]
      rw [h1, fcGo_run] at hf
      rw [ckGo_run l 0 hTop [] hf]
      constructor
      · exact fun h => ⟨by omega, hf, h⟩
      · exact fun h => h.2.2
    · rw [if_neg hf]
      constructor
      · exact fun h => absurd h hf
      · rintro ⟨_, h, _⟩
        rw [h1, fcGo_run] at hf
        exact absurd h hf
abbrev tyR (r : Spec × Ex) : List Int := tyOf houseGroups r.2
/-- A level of the house whose word may be so far. -/
def Wd (a : Lev) : Prop := (∃ t, a.1 = ruleOf houseRules t) ∧ ∀ t ∈ a.2, t ∈ tyR a.1
theorem Wd.sig {a : Lev} (h : Wd a) : Sig houseGroups a.1.2 := by
  obtain ⟨⟨t, ht⟩, _⟩ := h
  rw [ht]
  exact house_sig t
theorem wd_new (t : Int) : Wd (ruleOf houseRules t, []) := ⟨⟨t, rfl⟩, fun t ht => by cases ht⟩
theorem stepOk_iff {a : Lev} (h : Wd a) (x : Tok) : stepOk houseRules houseGroups a x = true ↔ mayT houseRules a.1.1 x = true ∧ x.t ∈ tyR a.1 := by
  unfold stepOk
  rw [Bool.and_eq_true, decide_eq_true_eq]
  have := h.sig.live (a.2 ++ [x.t])
  rw [List.length_append, List.length_singleton] at this
  rw [this]
  constructor
  · exact fun ⟨h1, h2⟩ => ⟨h1, h2 x.t (by simp)⟩
  · exact fun ⟨h1, h2⟩ => ⟨h1, fun t ht => by
      rcases List.mem_append.1 ht with ht | ht
      · exact h.2 t ht
      · rw [List.mem_singleton.1 ht]; exact h2⟩
theorem Wd.snoc {a : Lev} (h : Wd a) {t : Int} (ht : t ∈ tyR a.1) : Wd (a.1, a.2 ++ [t]) := ⟨h.1, fun u hu => by
  rcases List.mem_append.1 hu with hu | hu
  · exact h.2 u hu
  · rw [List.mem_singleton.1 hu]; exact ht⟩
theorem acc_snoc {a : Lev} (h : Wd a) (hn : a.2 ≠ []) : hAcc a = true := (h.sig.acc a.2).2 ⟨fun e => absurd e hn, h.2⟩
/-- Two stacks of the same rules, alike but for the words. -/
inductive Rl : Lev → List Lev → Lev → List Lev → Prop
  | bot {a b : Lev} : a.1 = b.1 → Wd a → Wd b → Rl a [] b []
  | up {a b p p' : Lev} {q q' : List Lev} : a.1 = b.1 → Wd a → Wd b → hAcc a = hAcc b → Rl p q p' q' → Rl a (p :: q) b (p' :: q')
theorem Rl.snoc {a b : Lev} {q q' : List Lev} (h : Rl a q b q') {t : Int} (ht : t ∈ tyR a.1) : Rl (a.1, a.2 ++ [t]) q (b.1, b.2 ++ [t]) q' := by
  cases h with
  | bot h1 h2 h3 => exact .bot h1 (h2.snoc ht) (h3.snoc (by rw [← h1]; exact ht))
  | up h1 h2 h3 _ h5 => exact .up h1 (h2.snoc ht) (h3.snoc (by rw [← h1]; exact ht)) (by rw [acc_snoc (h2.snoc ht) (by simp), acc_snoc (h3.snoc (by rw [← h1]; exact ht)) (by simp)]) h5
theorem Rl.wd {a b : Lev} {q q' : List Lev} (h : Rl a q b q') : a.1 = b.1 ∧ Wd a ∧ Wd b := by
  cases h with
  | bot h1 h2 h3 => exact ⟨h1, h2, h3⟩
  | up h1 h2 h3 _ _ => exact ⟨h1, h2, h3⟩
/-- Stacks that are alike run alike. -/
theorem run_rl : ∀ (l : List Tok) {a b t : Lev} {q q' z : List Lev}, Rl a q b q' → hRun a q l = some (t, z) → ∃ t' z', hRun b q' l = some (t', z') ∧ Rl t z t' z' := by
  intro l
  induction l with
  | nil =>
    intro a b t q q' z h hr
    simp only [hRun, ckRun, Option.some.injEq, Prod.mk.injEq] at hr
    obtain ⟨rfl, rfl⟩ := hr
    exact ⟨b, q', rfl, h⟩
  | cons x r ih =>
    intro a b t q q' z h hr
    unfold hRun at hr ⊢
    rw [ckRun_cons] at hr ⊢
    obtain ⟨h1, h2, h3⟩ := h.wd
    by_cases hk : x.k = 2
    · rw [if_pos hk] at hr ⊢
      cases h with
      | bot => cases hr
      | up _ _ _ h4 h5 =>
        simp only at hr ⊢
        split at hr
        · rename_i ha
          have hb : regAccepts b.1.2 houseGroups b.2 = true := h4.symm.trans ha
          rw [if_pos hb]
          exact ih h5 hr
        · cases hr
    · rw [if_neg hk] at hr ⊢
      split at hr
      · rename_i hs
        have hs2 := (stepOk_iff h2 x).1 hs
        rw [if_pos ((stepOk_iff h3 x).2 (by rw [← h1]; exact hs2))]
        split at hr
        · rename_i hk1
          rw [if_pos hk1]
          exact ih (.up rfl (wd_new _) (wd_new _) rfl (h.snoc hs2.2)) hr
        · rename_i hk1
          rw [if_neg hk1]
          exact ih (h.snoc hs2.2) hr
      · cases hr
end Go.Proofs.YtofjodppljnlaaaGreatDoor
namespace Go.Proofs.YtofjodppljnlaaaGreatDoor
open Go.RowKit
set_option linter.unusedVariables false
set_option linter.unusedSimpArgs false
def botOf : Lev → List Lev → Lev
  | t, [] => t
  | _, p :: q => botOf p q
theorem run_bot : ∀ (l : List Tok) (top t : Lev) (below z : List Lev), hRun top below l = some (t, z) → (botOf t z).1 = (botOf top below).1 ∧ ∃ v, (botOf t z).2 = (botOf top below).2 ++ v := by
  intro l
  induction l with
  | nil =>
    intro top t below z h
    simp only [hRun, ckRun, Option.some.injEq, Prod.mk.injEq] at h
    obtain ⟨rfl, rfl⟩ := h
    exact ⟨rfl, [], by simp⟩
  | cons x r ih =>
    intro top t below z h
    unfold hRun at h
    rw [ckRun_cons] at h
    have hsn : ∀ u : Int, (botOf (top.1, top.2 ++ [u]) below).1 = (botOf top below).1 ∧ ∃ v, (botOf (top.1, top.2 ++ [u]) below).2 = (botOf top below).2 ++ v := by
      intro u
      cases below with
      | nil => exact ⟨rfl, [u], rfl⟩
      | cons p q => exact ⟨rfl, [], by simp [botOf]⟩
    split at h
    · cases below with
      | nil => cases h
      | cons p q =>
        simp only at h
        split at h
        · have h9 := ih _ _ _ _ h
          exact h9
        · cases h
    · split at h
      · have key : ∃ top2 below2, hRun top2 below2 r = some (t, z) ∧ botOf top2 below2 = botOf (top.1, top.2 ++ [x.t]) below := by
          split at h
          · exact ⟨_, _, h, rfl⟩
          · exact ⟨_, _, h, rfl⟩
        obtain ⟨top2, below2, h2, hb⟩ := key
        obtain ⟨e1, v1, e2⟩ := ih _ _ _ _ h2
        obtain ⟨e3, v2, e4⟩ := hsn x.t
        rw [hb] at e1 e2
        exact ⟨e1.trans e3, v2 ++ v1, by rw [e2, e4, List.append_assoc]⟩
      · cases h
theorem hTop_wd : Wd hTop := wd_new 0
end Go.Proofs.YtofjodppljnlaaaGreatDoor
namespace Go.Proofs.YtofjodppljnlaaaGreatDoor
open Go.RowKit
set_option linter.unusedVariables false
set_option linter.unusedSimpArgs false
/-- What is open: the places fit the levels. -/
inductive Mt (l : List Tok) : List Int → Lev → List Lev → Prop
  | nil {t : Lev} : t.1 = ruleOf houseRules 0 → Mt l [] t []
  | snoc {s : List Int} {j yt : Nat} {y : Tok} {t p : Lev} {q : List Lev} : l[j]? = some y → y.k = 1 → y.t = yt → 1 ≤ yt → houseRules[yt]? = some t.1 → Mt l s p q → Mt l (s ++ [(j : Int)]) t (p :: q)
theorem Mt.word {l : List Tok} {s : List Int} {t : Lev} {q : List Lev} (h : Mt l s t q) (w : List Int) : Mt l s (t.1, w) q := by
  cases h with
  | nil h => exact .nil h
  | snoc h1 h2 h3 h4 h5 h6 => exact .snoc h1 h2 h3 h4 h5 h6
theorem mayT_open1 {rs : List (Spec × Ex)} {s : Spec} {x : Tok} (h1 : x.k = 1) (h : mayT rs s x = true) : ∃ j : Nat, x.t = j ∧ 1 ≤ j ∧ rs[j]? = some (ruleOf rs x.t) := by
  obtain ⟨j, hj, y, e, hy, hr⟩ := mayT_open h1 h
  refine ⟨j, hj, ?_, by rw [hr]; exact hy⟩
  unfold mayT at h
  rw [if_neg (by omega)] at h
  cases hs : specOf rs x.t with
  | none => simp [hs] at h
  | some y =>
    unfold specOf at hs
    split at hs
    · cases hs
    · omega
theorem run_mt (l : List Tok) : ∀ (r : List Tok) (k : Nat) (s : List Int) (top t : Lev) (below z : List Lev), (∀ j x, r[j]? = some x → l[k + j]? = some x) → Mt l s top below → hRun top below r = some (t, z) → Mt l (stkGo k r s) t z := by
  intro r
  induction r with
  | nil =>
    intro k s top t below z _ h hr
    simp only [hRun, ckRun, Option.some.injEq, Prod.mk.injEq] at hr
    obtain ⟨rfl, rfl⟩ := hr
    exact h
  | cons x r ih =>
    intro k s top t below z hl h hr
    unfold hRun at hr
    rw [ckRun_cons] at hr
    rw [stkGo]
    have hl2 : ∀ j y, r[j]? = some y → l[k + 1 + j]? = some y := fun j y hy => by
      have := hl (j + 1) y (by simpa using hy)
      rw [show k + 1 + j = k + (j + 1) by omega]
      exact this
    by_cases h2 : x.k = 2
    · rw [if_pos h2] at hr
      cases h with
      | nil => cases hr
      | snoc h3 h4 h5 h6 h7 h8 =>
        simp only at hr
        split at hr
        · refine ih _ _ _ _ _ _ hl2 ?_ hr
          unfold stkStep
          rw [if_neg (by omega), if_pos h2, List.dropLast_concat]
          exact h8
        · cases hr
    · rw [if_neg h2] at hr
      split at hr
      · rename_i hs
        have hm : mayT houseRules top.1.1 x = true := by
          unfold stepOk at hs
          rw [Bool.and_eq_true] at hs
          exact hs.1
        split at hr
        · rename_i h1
          refine ih _ _ _ _ _ _ hl2 ?_ hr
          unfold stkStep
          rw [if_pos h1]
          obtain ⟨j, hj, hj1, hrj⟩ := mayT_open1 h1 hm
          exact .snoc (by have := hl 0 x rfl; simpa using this) h1 hj hj1 hrj (h.word _)
        · rename_i h1
          refine ih _ _ _ _ _ _ hl2 ?_ hr
          unfold stkStep
          rw [if_neg h1, if_neg h2]
          exact h.word _
      · cases hr
/-- The level at a place of a document. -/
theorem at_level {l : List Tok} (ok : (houseCheck l).2 = 0) {n : Nat} (hn : n ≤ l.length) : ∃ top below, hRun hTop [] (l.take n) = some (top, below) ∧ (∃ t, hRun top below (l.drop n) = some (t, []) ∧ hAcc t = true) ∧ Rl top below top below ∧ Mt l (stackL l n) top below := by
  rw [house_iff] at ok
  obtain ⟨hl, fa, t, ra, aa⟩ := ok
  have h := ra
  rw [← List.take_append_drop n l] at h
  unfold hRun at h
  rw [ckRun_app] at h
  obtain ⟨s, h1, h2⟩ := Option.bind_eq_some_iff.1 h
  obtain ⟨top, below⟩ := s
  obtain ⟨t', z', h3, h4⟩ := run_rl (l.take n) (.bot rfl hTop_wd hTop_wd) h1
  have e : some (t', z') = some (top, below) := h3.symm.trans h1
  simp only [Option.some.injEq, Prod.mk.injEq] at e
  obtain ⟨rfl, rfl⟩ := e
  refine ⟨_, _, h1, ⟨t, h2, aa⟩, h4, ?_⟩
  unfold stackL
  rw [if_neg (by omega), show (max (n : Int) 0).toNat = n by omega]
  refine run_mt l _ 0 [] hTop _ [] _ (fun j x hx => ?_) (.nil rfl) h1
  rw [List.getElem?_take] at hx
  split at hx
  · rw [Nat.zero_add]; exact hx
  · cases hx
theorem run_ne {x : Tok} {s : List Tok} {u : Lev} (h : hRun hTop [] (x :: s) = some (u, [])) : u.2 ≠ [] := by
  unfold hRun at h
  rw [ckRun_cons] at h
  split at h
  · cases h
  · split at h
    · have key : ∃ top2 below2, hRun top2 below2 s = some (u, []) ∧ botOf top2 below2 = (hTop.1, hTop.2 ++ [x.t]) := by
        split at h
        · exact ⟨_, _, h, rfl⟩
        · exact ⟨_, _, h, rfl⟩
      obtain ⟨top2, below2, h3, hb⟩ := key
      obtain ⟨_, v, hv⟩ := run_bot s _ _ _ _ h3
      rw [hb] at hv
      have hv2 : u.2 = [x.t] ++ v := hv
      rw [hv2]
      simp
    · cases h
theorem text_nn : ∀ i : Nat, i < 9 → (0 : Int) ∈ tyR (ruleOf houseRules (i : Int)) → nnOf houseGroups (ruleOf houseRules (i : Int)).2 = true ∧ (ruleOf houseRules (i : Int)).1.expr = textStar ∧ tyR (ruleOf houseRules (i : Int)) = [0] := by
  intro i hi h0
  have h : i = 0 ∨ i = 1 ∨ i = 2 ∨ i = 3 ∨ i = 4 ∨ i = 5 ∨ i = 6 ∨ i = 7 ∨ i = 8 := by omega
  have e0 : tyR (ruleOf houseRules ((0 : Nat) : Int)) = [1, 2, 3, 4, 5, 7] := by kernel_rfl
  have e3 : tyR (ruleOf houseRules ((3 : Nat) : Int)) = [1, 2, 3, 4, 5, 7] := by kernel_rfl
  have e5 : tyR (ruleOf houseRules ((5 : Nat) : Int)) = [6] := by kernel_rfl
  have e6 : tyR (ruleOf houseRules ((6 : Nat) : Int)) = [1, 2, 3, 4, 5, 7] := by kernel_rfl
  have e7 : tyR (ruleOf houseRules ((7 : Nat) : Int)) = [] := by kernel_rfl
  have e8 : tyR (ruleOf houseRules ((8 : Nat) : Int)) = [] := by kernel_rfl
  rcases h with rfl | rfl | rfl | rfl | rfl | rfl | rfl | rfl | rfl
  · rw [e0] at h0; exact absurd h0 (by decide)
  · exact ⟨by kernel_rfl, by kernel_rfl, by kernel_rfl⟩
  · exact ⟨by kernel_rfl, by kernel_rfl, by kernel_rfl⟩
  · rw [e3] at h0; exact absurd h0 (by decide)
  · exact ⟨by kernel_rfl, by kernel_rfl, by kernel_rfl⟩
  · rw [e5] at h0; exact absurd h0 (by decide)
  · rw [e6] at h0; exact absurd h0 (by decide)
  · rw [e7] at h0; exact absurd h0 (by decide)
  · rw [e8] at h0; exact absurd h0 (by decide)
theorem text_rule {a : Lev} (h : Wd a) (h0 : (0 : Int) ∈ tyR a.1) : nnOf houseGroups a.1.2 = true ∧ a.1.1.expr = textStar ∧ tyR a.1 = [0] := by
  obtain ⟨t, ht⟩ := h.1
  obtain ⟨i, hi, hr⟩ := house_rule t
  rw [ht, hr] at h0 ⊢
  exact text_nn i hi h0
abbrev letter : Tok := ⟨0, 0, 120, 0⟩
theorem letter_may (s : Spec) (hm : s.marks = 0 ∨ s.marks = 7) : mayT houseRules s letter = true := by
  unfold mayT runeB marksIn
  rw [if_pos rfl]
  rcases hm with h | h <;> rw [h] <;> rfl
theorem house_marks : ((List.range 9).all fun i => decide ((ruleOf houseRules (i : Int)).1.marks = 0 ∨ (ruleOf houseRules (i : Int)).1.marks = 7)) = true := by kernel_rfl
theorem wd_marks {a : Lev} (h : Wd a) : a.1.1.marks = 0 ∨ a.1.1.marks = 7 := by
  obtain ⟨t, ht⟩ := h.1
  obtain ⟨i, hi, hr⟩ := house_rule t
  rw [ht, hr]
  simpa using List.all_eq_true.1 house_marks i (List.mem_range.2 hi)
/-- A letter may be put where the level's types have text. -/
theorem put_iff {l : List Tok} (ok : (houseCheck l).2 = 0) (hl : l.length ≤ 2047) {n : Nat} {top : Lev} {below : List Lev} (h1 : hRun hTop [] (l.take n) = some (top, below)) (h2 : ∃ t, hRun top below (l.drop n) = some (t, []) ∧ hAcc t = true) (hR : Rl top below top below) :
    (houseCheck (l.take n ++ letter :: l.drop n)).2 = 0 ↔ (0 : Int) ∈ tyR top.1 := by
  have hw := hR.wd.2.1
  have hstep := stepOk_iff hw letter
  rw [house_iff]
  have hrun : hRun hTop [] (l.take n ++ letter :: l.drop n) = if stepOk houseRules houseGroups top letter = true then hRun (top.1, top.2 ++ [0]) below (l.drop n) else none := by
    unfold hRun
    rw [ckRun_app, show ckRun houseRules houseGroups hTop [] (l.take n) = some (top, below) from h1]
    show ckRun houseRules houseGroups top below (letter :: l.drop n) = _
    rw [ckRun_cons, if_neg (by decide)]
    split
    · rw [if_neg (by decide)]
    · rfl
  constructor
  · rintro ⟨_, _, t, hr, _⟩
    rw [hrun] at hr
    split at hr
    · rename_i hs
      exact (hstep.1 hs).2
    · cases hr
  · intro h0
    have hs := hstep.2 ⟨letter_may _ (wd_marks hw), h0⟩
    rw [if_pos hs] at hrun
    obtain ⟨hnn, _, _⟩ := text_rule hw h0
    obtain ⟨t, hr, ha⟩ := h2
    have hR2 : Rl top below (top.1, top.2 ++ [0]) below := by
      cases hR with
      | bot e1 e2 e3 => exact .bot rfl e2 (e2.snoc h0)
      | up e1 e2 e3 e4 e5 => exact .up rfl e2 (e2.snoc h0) (by rw [show hAcc top = true from (e2.sig.acc top.2).2 ⟨fun _ => hnn, e2.2⟩, acc_snoc (e2.snoc h0) (by simp)]) e5
    obtain ⟨t', z', hr', hrl⟩ := run_rl _ hR2 hr
    cases hrl with
    | bot e1 e2 e3 =>
      have hfin : hRun hTop [] (l.take n ++ letter :: l.drop n) = some (t', []) := hrun.trans hr'
      rw [house_iff] at ok
      obtain ⟨_, fa, _⟩ := ok
      refine ⟨by simp; omega, ?_, t', hfin, acc_snoc e3 ?_⟩
      · rw [← List.take_append_drop n l, fcRun_app] at fa
        obtain ⟨m, f1, f2⟩ := Option.bind_eq_some_iff.1 fa
        rw [fcRun_app, f1]
        show fcRun m (letter :: l.drop n) = _
        rw [fcRun, if_neg (by rw [show rightB letter = true by decide]; decide), if_neg (by decide), if_neg (by decide)]
        exact f2
      · cases hd : l.take n ++ letter :: l.drop n with
        | nil => simp at hd
        | cons x s =>
          rw [hd] at hfin
          exact run_ne hfin
/-- What stands in a level is of its types. -/
theorem kids_ty (i : Int) (R : Spec × Ex) : ∀ (l : List Tok) (k d : Nat) (top : Lev) (below : List Lev) (S : Lev × List Lev), (∀ a ∈ top :: below, Wd a) → (0 ≤ i ∨ d = below.length) → ((top :: below)[d]?).map (·.1) = some R → hRun top below l = some S → ∀ p ∈ kdGo i k d l, ∃ (j : Nat) (x : Tok), p = ((k + j : Nat) : Int) ∧ l[j]? = some x ∧ x.t ∈ tyR R := by
  intro l
  induction l with
  | nil =>
    intro k d top below S _ _ _ _ p hp
    cases hp
  | cons x r ih =>
    intro k d top below S hW hd hR h p hp
    unfold hRun at h
    rw [ckRun_cons] at h
    rw [kdGo] at hp
    have wrap : ∀ (k' d' : Nat) (top2 : Lev) (below2 : List Lev), k' = k + 1 → (∀ a ∈ top2 :: below2, Wd a) → (0 ≤ i ∨ d' = below2.length) → ((top2 :: below2)[d']?).map (·.1) = some R → hRun top2 below2 r = some S → p ∈ kdGo i k' d' r → ∃ (j : Nat) (y : Tok), p = ((k + j : Nat) : Int) ∧ (x :: r)[j]? = some y ∧ y.t ∈ tyR R := by
      intro k' d' top2 below2 hk' g1 g2 g3 g4 g5
      obtain ⟨j, y, h3, h4, h5⟩ := ih k' d' top2 below2 S g1 g2 g3 g4 p g5
      exact ⟨j + 1, y, by rw [h3, hk']; congr 1; omega, by simpa using h4, h5⟩
    by_cases h2 : x.k = 2
    · rw [if_pos h2] at h hp
      cases below with
      | nil => cases h
      | cons q qs =>
        simp only at h
        split at h
        · by_cases hd0 : d = 0
          · subst hd0
            rcases hd with hd | hd
            · rw [if_pos ⟨rfl, hd⟩] at hp
              cases hp
            · simp at hd
          · rw [if_neg (fun e => hd0 e.1)] at hp
            obtain ⟨d', rfl⟩ : ∃ d', d = d' + 1 := ⟨d - 1, by omega⟩
            refine wrap _ _ q qs rfl (fun a ha => hW a (List.mem_cons_of_mem _ ha)) ?_ ?_ h hp
            · rcases hd with hd | hd
              · exact .inl hd
              · exact .inr (by simpa using hd)
            · simpa using hR
        · cases h
    · rw [if_neg h2] at h hp
      split at h
      · rename_i hs
        have hwt := hW top List.mem_cons_self
        have hx := (stepOk_iff hwt x).1 hs
        have hp0 := hp
        clear hp
        rcases List.mem_append.1 hp0 with hp | hp
        · clear hp0
          split at hp
          · rename_i hc
            obtain ⟨rfl, _⟩ := hc
            have e : top.1 = R := by simpa using hR
            exact ⟨0, x, by simpa using hp, rfl, by rw [← e]; exact hx.2⟩
          · cases hp
        · have hsn : ∀ a ∈ ((top.1, top.2 ++ [x.t]) : Lev) :: below, Wd a := fun a ha => by
            rcases List.mem_cons.1 ha with rfl | ha
            · exact hwt.snoc hx.2
            · exact hW a (List.mem_cons_of_mem _ ha)
          have hR2 : ((((top.1, top.2 ++ [x.t]) : Lev) :: below)[d]?).map (·.1) = some R := by
            cases d with
            | zero => simpa using hR
            | succ d => simpa using hR
          by_cases h1 : x.k = 1
          · rw [if_pos h1] at h hp
            refine wrap _ _ _ _ rfl (fun a ha => ?_) ?_ ?_ h hp
            · rcases List.mem_cons.1 ha with rfl | ha
              · exact wd_new _
              · exact hsn a ha
            · rcases hd with hd | hd
              · exact .inl hd
              · exact .inr (by simp [hd])
            · simpa using hR2
          · rw [if_neg h1] at h hp
            exact wrap _ _ _ _ rfl hsn hd hR2 h hp
      · cases h
theorem rl_all {a b : Lev} {q q' : List Lev} (h : Rl a q b q') : ∀ x ∈ a :: q, Wd x := by
  induction h with
  | bot h1 h2 h3 =>
    intro x hx
    rw [List.mem_singleton.1 hx]
    exact h2
  | up h1 h2 h3 h4 h5 ih =>
    intro x hx
    rcases List.mem_cons.1 hx with rfl | hx
    · exact h2
    · exact ih x hx
/-- What May asks: the rule at a place, and the kids' types. -/
structure AtP (l : List Tok) (n : Nat) (R : Spec × Ex) : Prop where
  whole : aroundL l n = -1 ∧ houseRules[0]? = some R ∨ ∃ (j yt : Nat) (y : Tok), aroundL l n = j ∧ l[j]? = some y ∧ y.k = 1 ∧ y.t = yt ∧ 1 ≤ yt ∧ houseRules[yt]? = some R
  kids : ∀ p ∈ kidsL l (aroundL l n), ∃ (i : Nat) (x : Tok), p = i ∧ l[i]? = some x ∧ x.t ∈ tyR R
  wd : Wd (R, [])
  put : (houseCheck (l.take n ++ letter :: l.drop n)).2 = 0 ↔ (0 : Int) ∈ tyR R
theorem at_place2 {l : List Tok} (ok : (houseCheck l).2 = 0) (hl : l.length ≤ 2047) {n : Nat} (hn : n ≤ l.length) : ∃ R, AtP l n R := by
  obtain ⟨top, below, h1, h2, hR, hM⟩ := at_level ok hn
  have hw := hR.wd.2.1
  have hput := put_iff ok hl h1 h2 hR
  have hwd : Wd (top.1, []) := ⟨hw.1, fun t ht => by cases ht⟩
  generalize hs : stackL l n = s at hM
  cases hM with
  | nil ht =>
    have ha : aroundL l n = -1 := by unfold aroundL; rw [hs]; rfl
    have h0 : houseRules[0]? = some top.1 := by
      rw [ht]
      unfold ruleOf
      obtain ⟨y, hy⟩ : ∃ y, houseRules[0]? = some y := ⟨_, List.getElem?_eq_getElem (by rw [house_len]; decide)⟩
      rw [show (0 : Int).toNat = 0 from rfl, hy]
      rfl
    refine ⟨top.1, .inl ⟨ha, h0⟩, ?_, hwd, hput⟩
    rw [ha]
    intro p hp
    rw [house_iff] at ok
    obtain ⟨_, _, t, ra, _⟩ := ok
    obtain ⟨j, x, e, hx, hxt⟩ := kids_ty (-1) top.1 l 0 0 hTop [] _ (fun a ha => by rw [List.mem_singleton.1 ha]; exact hTop_wd) (.inr rfl) (by rw [ht]; rfl) ra p hp
    exact ⟨j, x, by rw [e, Nat.zero_add], hx, hxt⟩
  | @snoc s' j yt y _ p q hy hy1 hyt hyt1 hRr hM' =>
    have ha : aroundL l n = j := by unfold aroundL; rw [hs]; simp
    refine ⟨top.1, .inr ⟨j, yt, y, ha, hy, hy1, hyt, hyt1, hRr⟩, ?_, hwd, hput⟩
    rw [ha]
    intro p' hp'
    obtain ⟨top3, below3, g1, ⟨t3, g2, _⟩, gR, _⟩ := at_level ok (n := j + 1) (by have := (List.getElem?_eq_some_iff.1 hy).1; omega)
    have g3 : hRun hTop [] (l.take j ++ [y]) = some (top3, below3) := by
      have e : l.take (j + 1) = l.take j ++ [y] := by rw [List.take_add_one, hy]; rfl
      rw [← e]; exact g1
    have htop : top3.1 = top.1 := by
      unfold hRun at g3
      rw [ckRun_app] at g3
      obtain ⟨S, _, g5⟩ := Option.bind_eq_some_iff.1 g3
      rw [ckRun_cons, if_neg (by omega)] at g5
      split at g5
      · try rw [if_pos hy1] at g5
        simp only [ckRun, Option.some.injEq, Prod.mk.injEq] at g5
        rw [← g5.1]
        show ruleOf houseRules y.t = top.1
        unfold ruleOf
        rw [hyt, Int.toNat_natCast, hRr]
        rfl
      · cases g5
    unfold kidsL at hp'
    rw [show ((j : Int) + 1).toNat = j + 1 by omega] at hp'
    obtain ⟨j2, x, e, hx, hxt⟩ := kids_ty (j : Int) top.1 (l.drop (j + 1)) (j + 1) 0 top3 below3 _ (rl_all gR) (.inl (by omega)) (by rw [← htop]; rfl) g2 p' hp'
    rw [List.getElem?_drop] at hx
    exact ⟨j + 1 + j2, x, e, hx, hxt⟩
theorem at_place {l : List Tok} (ok : (houseCheck l).2 = 0) (hl : l.length ≤ 200) {n : Nat} (hn : n ≤ l.length) : ∃ R, AtP l n R := at_place2 ok (by omega) hn
def tyAt (l : List Tok) (p : Int) : Int := (l[p.toNat]?.map (·.t)).getD 0
/-- The word of a level with one more put in. -/
def mayGo (l : List Tok) (at' t : Int) : List Int → Bool → List Int
  | [], put => if put = true then [] else [t]
  | p :: r, put => if at' ≤ p ∧ put = false then t :: tyAt l p :: mayGo l at' t r true else tyAt l p :: mayGo l at' t r put
theorem mayGo_mem (l : List Tok) (at' t : Int) : ∀ (ks : List Int) (put : Bool), ∀ u ∈ mayGo l at' t ks put, u = t ∨ ∃ p ∈ ks, u = tyAt l p := by
  intro ks
  induction ks with
  | nil =>
    intro put u hu
    rw [mayGo] at hu
    split at hu
    · cases hu
    · exact .inl (List.mem_singleton.1 hu)
  | cons p r ih =>
    intro put u hu
    rw [mayGo] at hu
    split at hu
    · rcases List.mem_cons.1 hu with rfl | hu
      · exact .inl rfl
      · rcases List.mem_cons.1 hu with rfl | hu
        · exact .inr ⟨p, by simp, rfl⟩
        · rcases ih _ u hu with h | ⟨q, hq, h⟩
          · exact .inl h
          · exact .inr ⟨q, by simp [hq], h⟩
    · rcases List.mem_cons.1 hu with rfl | hu
      · exact .inr ⟨p, by simp, rfl⟩
      · rcases ih _ u hu with h | ⟨q, hq, h⟩
        · exact .inl h
        · exact .inr ⟨q, by simp [hq], h⟩
theorem mayGo_in (l : List Tok) (at' t : Int) : ∀ (ks : List Int), t ∈ mayGo l at' t ks false := by
  intro ks
  induction ks with
  | nil => simp [mayGo]
  | cons p r ih =>
    rw [mayGo]
    split
    · simp
    · simp [ih]
/-- May's answer at text. -/
theorem may_iff {l : List Tok} {n : Nat} {R : Spec × Ex} (h : AtP l n R) : regAccepts R.2 houseGroups (mayGo l n 0 (kidsL l (aroundL l n)) false) = decide ((houseCheck (l.take n ++ letter :: l.drop n)).2 = 0) := by
  rw [Bool.eq_iff_iff, decide_eq_true_eq, h.put, h.wd.sig.acc]
  constructor
  · exact fun ⟨_, h1⟩ => h1 0 (mayGo_in l n 0 _)
  · intro h0
    refine ⟨fun e => ?_, fun u hu => ?_⟩
    · have := mayGo_in l n 0 (kidsL l (aroundL l n))
      rw [e] at this
      cases this
    · rcases mayGo_mem l n 0 _ _ u hu with rfl | ⟨p, hp, rfl⟩
      · exact h0
      · obtain ⟨i, x, rfl, hx, hxt⟩ := h.kids p hp
        unfold tyAt
        rw [Int.toNat_natCast, hx]
        exact hxt
end Go.Proofs.YtofjodppljnlaaaGreatDoor
namespace Go.Proofs.YtofjodppljnlaaaGreatDoor
open Go.RowKit
set_option linter.unusedVariables false
set_option linter.unusedSimpArgs false
theorem stk_app6 : ∀ (a b : List Tok) (k : Nat) (s : List Int), stkGo k (a ++ b) s = stkGo (k + a.length) b (stkGo k a s) := by
  intro a
  induction a with
  | nil => intro b k s; rfl
  | cons x r ih =>
    intro b k s
    rw [List.cons_append, stkGo, stkGo, ih, List.length_cons]
    congr 1
    omega
theorem stack_at6 {l : List Tok} {n : Nat} (hn : n ≤ l.length) : stackL l (n : Int) = stkGo 0 (l.take n) [] := by
  unfold stackL
  rw [if_neg (by omega), show (max (n : Int) 0).toNat = n by omega]
theorem stack_succ {l : List Tok} {n : Nat} {x : Tok} (hx : l[n]? = some x) : stackL l ((n + 1 : Nat) : Int) = stkStep n x (stackL l (n : Int)) := by
  have hn : n < l.length := (List.getElem?_eq_some_iff.1 hx).1
  rw [stack_at6 (by omega), stack_at6 (by omega), List.take_add_one, hx, stk_app6]
  have : (l.take n).length = n := by rw [List.length_take]; omega
  rw [this, Nat.zero_add]
  rfl
/-- A word as emenderref07.word gathers it: depth, types. -/
def wdStep (s : Int × List Int) (x : Tok) : Int × List Int := (if x.k = 1 then s.1 + 1 else if x.k = 2 then s.1 - 1 else s.1, if s.1 = 0 ∧ x.k ≠ 2 then s.2 ++ [x.t] else s.2)
def wdGo (l : List Tok) (i to' : Int) : Int × List Int := ((l.take to'.toNat).drop (i + 1).toNat).foldl wdStep (0, [])
def wordL (l : List Tok) (i to' : Int) : List Int := (wdGo l i to').2
theorem wd_succ {l : List Tok} {k : Nat} {x : Tok} (hx : l[k]? = some x) {i : Int} (hi : i < k) (h1 : -1 ≤ i) : wdGo l i ((k + 1 : Nat) : Int) = wdStep (wdGo l i (k : Int)) x := by
  have hk : k < l.length := (List.getElem?_eq_some_iff.1 hx).1
  unfold wdGo
  rw [Int.toNat_natCast, Int.toNat_natCast, List.take_add_one, hx, List.drop_append_of_le_length (by rw [List.length_take]; omega), List.foldl_append]
  rfl
theorem wd_none (l : List Tok) (k : Nat) : wdGo l (k : Int) ((k + 1 : Nat) : Int) = (0, []) := by
  unfold wdGo
  rw [Int.toNat_natCast, show ((k : Int) + 1).toNat = k + 1 by omega, List.drop_eq_nil_of_le (by rw [List.length_take]; omega)]
  rfl
theorem wd_none0 (l : List Tok) : wdGo l (-1) ((0 : Nat) : Int) = (0, []) := by
  unfold wdGo
  simp
/-- The levels at a place: their places, their words. -/
inductive Lv (l : List Tok) (k : Nat) : Nat → List Int → Lev → List Lev → Prop
  | bot {h : Nat} {t : Lev} : t.1 = ruleOf houseRules 0 → wdGo l (-1) k = ((h : Int), t.2) → Lv l k h [] t []
  | up {h : Nat} {s : List Int} {j yt : Nat} {y : Tok} {t p : Lev} {q : List Lev} : l[j]? = some y → y.k = 1 → y.t = yt → 1 ≤ yt → houseRules[yt]? = some t.1 → j < k → wdGo l (j : Int) k = ((h : Int), t.2) → Lv l k (h + 1) s p q → Lv l k h (s ++ [(j : Int)]) t (p :: q)
theorem Lv.next {l : List Tok} {k : Nat} {x : Tok} (hx : l[k]? = some x) (h2 : x.k ≠ 2) {h : Nat} {s : List Int} {t : Lev} {q : List Lev} (H : Lv l k h s t q) :
    Lv l (k + 1) (if x.k = 1 then h + 1 else h) s (t.1, if h = 0 then t.2 ++ [x.t] else t.2) q := by
  induction H with
  | @bot h t h1 hw =>
    refine .bot h1 ?_
    rw [wd_succ hx (by omega) (by omega), hw]
    unfold wdStep
    by_cases hk : x.k = 1 <;> by_cases hh : h = 0 <;> simp [hk, hh, h2]
  | @up h s j yt y t p q hy hy1 hyt hyt1 hR hj hw _ ih =>
    have ih' : Lv l (k + 1) ((if x.k = 1 then h + 1 else h) + 1) s p q := by
      rw [if_neg (by omega : ¬ h + 1 = 0)] at ih
      by_cases hk : x.k = 1
      · rw [if_pos hk] at ih ⊢; exact ih
      · rw [if_neg hk] at ih ⊢; exact ih
    refine .up hy hy1 hyt hyt1 hR (by omega) ?_ ih'
    rw [wd_succ hx (by omega) (by omega), hw]
    unfold wdStep
    by_cases hk : x.k = 1 <;> by_cases hh : h = 0 <;> simp [hk, hh, h2]
theorem Lv.prev {l : List Tok} {k : Nat} {x : Tok} (hx : l[k]? = some x) (h2 : x.k = 2) {h' h : Nat} {s : List Int} {t : Lev} {q : List Lev} (H : Lv l k h' s t q) (hh : h' = h + 1) :
    Lv l (k + 1) h s t q := by
  induction H generalizing h with
  | @bot h' t h1 hw =>
    subst hh
    refine .bot h1 ?_
    rw [wd_succ hx (by omega) (by omega), hw]
    unfold wdStep
    simp [h2]
  | @up h' s j yt y t p q hy hy1 hyt hyt1 hR hj hw _ ih =>
    subst hh
    refine .up hy hy1 hyt hyt1 hR (by omega) ?_ (ih rfl)
    rw [wd_succ hx (by omega) (by omega), hw]
    unfold wdStep
    simp [h2]
theorem Lv.inv {l : List Tok} {k : Nat} {s : List Int} {t : Lev} {q : List Lev} (H : Lv l k 0 s t q) :
    (s.getLast?.getD (-1) = -1 ∧ t.1 = ruleOf houseRules 0 ∧ wdGo l (-1) k = (0, t.2)) ∨
    ∃ (j yt : Nat) (y : Tok), s.getLast?.getD (-1) = (j : Int) ∧ l[j]? = some y ∧ y.k = 1 ∧ y.t = yt ∧ 1 ≤ yt ∧ houseRules[yt]? = some t.1 ∧ j < k ∧ wdGo l (j : Int) k = (0, t.2) := by
  cases H with
  | bot h1 hw => exact .inl ⟨rfl, h1, hw⟩
  | @up _ s j yt y t p q hy hy1 hyt hyt1 hR hj hw _ => exact .inr ⟨j, yt, y, by simp, hy, hy1, hyt, hyt1, hR, hj, hw⟩
theorem Lv.whole {l : List Tok} {k h : Nat} {s : List Int} {t : Lev} (H : Lv l k h s t []) : t.1 = ruleOf houseRules 0 ∧ wdGo l (-1) k = ((h : Int), t.2) := by
  generalize hz : ([] : List Lev) = z at H
  cases H with
  | bot h1 hw => exact ⟨h1, hw⟩
  | up => cases hz
theorem rule_get {yt : Nat} {r : Spec × Ex} (h : houseRules[yt]? = some r) : ruleOf houseRules (yt : Int) = r := by
  unfold ruleOf
  rw [Int.toNat_natCast, h]
  rfl
theorem lv_step {l : List Tok} {k : Nat} {x : Tok} (hx : l[k]? = some x) {s : List Int} {top t : Lev} {below z : List Lev} (H : Lv l k 0 s top below) (h : hRun top below [x] = some (t, z)) : Lv l (k + 1) 0 (stkStep k x s) t z := by
  unfold hRun at h
  rw [ckRun_cons] at h
  unfold stkStep
  by_cases h2 : x.k = 2
  · rw [if_pos h2] at h
    rw [if_neg (by omega), if_pos h2]
    cases H with
    | bot => cases h
    | @up _ s j yt y t' p q hy hy1 hyt hyt1 hR hj hw H' =>
      simp only at h
      split at h
      · simp only [ckRun, Option.some.injEq, Prod.mk.injEq] at h
        obtain ⟨rfl, rfl⟩ := h
        rw [List.dropLast_concat]
        exact H'.prev hx h2 rfl
      · cases h
  · rw [if_neg h2] at h
    rw [if_neg h2]
    have HN := H.next hx h2
    rw [if_pos rfl] at HN
    split at h
    · rename_i hs
      have hm : mayT houseRules top.1.1 x = true := by
        unfold stepOk at hs
        rw [Bool.and_eq_true] at hs
        exact hs.1
      by_cases h1 : x.k = 1
      · rw [if_pos h1] at h HN ⊢
        simp only [ckRun, Option.some.injEq, Prod.mk.injEq] at h
        obtain ⟨rfl, rfl⟩ := h
        obtain ⟨j, hj, hj1, hrj⟩ := mayT_open1 h1 hm
        exact .up hx h1 hj hj1 hrj (by omega) (wd_none l k) HN
      · rw [if_neg h1] at h HN ⊢
        simp only [ckRun, Option.some.injEq, Prod.mk.injEq] at h
        obtain ⟨rfl, rfl⟩ := h
        exact HN
    · cases h
theorem run_lv {l : List Tok} : ∀ {k : Nat}, k ≤ l.length → ∀ {top : Lev} {below : List Lev}, hRun hTop [] (l.take k) = some (top, below) → Lv l k 0 (stackL l k) top below := by
  intro k
  induction k with
  | zero =>
    intro _ top below h
    rw [List.take_zero] at h
    simp only [hRun, ckRun, Option.some.injEq, Prod.mk.injEq] at h
    obtain ⟨rfl, rfl⟩ := h
    rw [stack_at6 (Nat.zero_le _)]
    exact .bot rfl (wd_none0 l)
  | succ k ih =>
    intro hk top below h
    obtain ⟨x, hx⟩ : ∃ x, l[k]? = some x := ⟨_, List.getElem?_eq_getElem (by omega)⟩
    rw [List.take_add_one, hx] at h
    unfold hRun at h
    rw [ckRun_app] at h
    obtain ⟨S, h1, h2⟩ := Option.bind_eq_some_iff.1 h
    rw [stack_succ hx]
    exact lv_step hx (ih (by omega) h1) h2
/-- The rule at a place, as the reference reads it. -/
def rule6 (l : List Tok) (at' : Int) : Spec × Ex := if at' < 0 then ruleOf houseRules 0 else ruleOf houseRules (tyAt l at')
def specAt (l : List Tok) (n : Int) : Spec := if n < 0 then zeroSpec else (specOf houseRules (tyAt l n)).getD zeroSpec
def token6 (s : Spec) (x : Tok) : Bool :=
  if x.k = 0 then decide (bits .and .i64 x.m s.marks = x.m) && (decide (x.n ≠ 10) || s.lines)
  else match specOf houseRules x.t with | some s => decide (x.n ≥ s.least) && decide (x.n ≤ s.most) && (s.leaf == decide (x.k = 3)) | none => false
def one6 (l : List Tok) (i : Nat) (x : Tok) : Bool :=
  if x.k = 2 then regAccepts (rule6 l (aroundL l i)).2 houseGroups (wordL l (aroundL l i) i)
  else token6 (specAt l (aroundL l i)) x && decide (regBegins (rule6 l (aroundL l i)).2 houseGroups (wordL l (aroundL l i) i ++ [x.t]) = (wordL l (aroundL l i) i).length + 1)
def ck6 (l : List Tok) : Nat → List Tok → Int × Int
  | i, [] => (i, if regAccepts (ruleOf houseRules 0).2 houseGroups (wordL l (-1) l.length) = true then 0 else 9)
  | i, x :: r => if one6 l i x = true then ck6 l (i + 1) r else (i, 9)
def check6 (l : List Tok) : Int × Int := if (flatCheck l).2 = 0 then ck6 l 0 l else flatCheck l
theorem marks_and : ∀ m : Int, 0 ≤ m → m ≤ 4 → ∀ s : Int, s = 0 ∨ s = 7 → decide (bits .and .i64 m s = m) = decide (bits .andNot .i64 m s = 0) := by
  intro m h0 h4 s hs
  have hm : m = 0 ∨ m = 1 ∨ m = 2 ∨ m = 3 ∨ m = 4 := by omega
  rcases hm with rfl | rfl | rfl | rfl | rfl <;> rcases hs with rfl | rfl <;> rfl
theorem token_may {s : Spec} {x : Tok} (hs : s.marks = 0 ∨ s.marks = 7) (hx : rightB x = true) : token6 s x = mayT houseRules s x := by
  unfold token6 mayT
  by_cases h0 : x.k = 0
  · rw [if_pos h0, if_pos h0]
    unfold runeB marksIn
    have hm : 0 ≤ x.m ∧ x.m ≤ 4 := by
      have := of_decide_eq_true hx
      unfold RightP MarkP at this
      omega
    rw [marks_and x.m hm.1 hm.2 _ hs]
    congr 1
    by_cases h : x.n = 10 <;> simp [h]
  · rw [if_neg h0, if_neg h0]
    rfl
theorem house_specs_marks (i : Nat) : (ruleOf houseRules (i : Int)).1.marks = 0 ∨ (ruleOf houseRules (i : Int)).1.marks = 7 := by
  obtain ⟨j, hj, h⟩ := house_rule (i : Int)
  rw [h]
  simpa using List.all_eq_true.1 house_marks j (List.mem_range.2 hj)
theorem rule0_marks : (ruleOf houseRules 0).1.marks = 0 ∧ (ruleOf houseRules 0).1.lines = false := by
  constructor <;> kernel_rfl
theorem begins_le {t : Lev} (h : Wd t) (x : Int) : regBegins t.1.2 houseGroups (t.2 ++ [x]) ≤ t.2.length + 1 := by
  obtain ⟨⟨u, hu⟩, _⟩ := h
  obtain ⟨i, hi, hr⟩ := house_rule u
  have hc : regCheck t.1.2 houseGroups = 0 := by
    rw [hu, hr]
    simpa using List.all_eq_true.1 house_check_all i (List.mem_range.2 hi)
  rw [begins_eq hc]
  have := (run_spec hc (t.2 ++ [x])).2.1
  simpa using this
/-- What the reference asks of a token is what the program asks of it at its level. -/
theorem one_step {l : List Tok} {k : Nat} {x : Tok} {top : Lev} {below : List Lev} (hx : l[k]? = some x) (hr : rightB x = true) (h : hRun hTop [] (l.take k) = some (top, below)) :
    one6 l k x = if x.k = 2 then hAcc top else stepOk houseRules houseGroups top x := by
  have hk : k < l.length := (List.getElem?_eq_some_iff.1 hx).1
  have HL := run_lv (by omega) h
  have hwd : Wd top := by
    obtain ⟨t', z', h3, h4⟩ := run_rl (l.take k) (.bot rfl hTop_wd hTop_wd) h
    exact h4.wd.2.1
  have key : (rule6 l (aroundL l k)).2 = top.1.2 ∧ wordL l (aroundL l k) k = top.2 ∧ (x.k ≠ 2 → token6 (specAt l (aroundL l k)) x = mayT houseRules top.1.1 x) := by
    unfold aroundL
    rcases HL.inv with ⟨h1, h2, h3⟩ | ⟨j, yt, y, h1, hy, hy1, hyt, hyt1, hR, hj, h3⟩
    · rw [h1]
      refine ⟨by unfold rule6; rw [if_pos (by decide), h2], by unfold wordL; rw [h3], fun _ => ?_⟩
      unfold specAt
      rw [if_pos (by decide), token_may (.inl rfl) hr, h2]
      obtain ⟨e1, e2⟩ := rule0_marks
      unfold mayT runeB
      rw [e1, e2]
    · rw [h1]
      have hty : tyAt l (j : Int) = (yt : Int) := by unfold tyAt; rw [Int.toNat_natCast, hy]; exact hyt
      refine ⟨by unfold rule6; rw [if_neg (by omega), hty, rule_get hR], by unfold wordL; rw [h3], fun _ => ?_⟩
      unfold specAt
      have hs : (specOf houseRules (tyAt l (j : Int))).getD zeroSpec = top.1.1 := by
        rw [hty]
        unfold specOf
        rw [if_neg (by omega), Int.toNat_natCast, hR]
        rfl
      rw [if_neg (by omega), hs]
      have := house_specs_marks yt
      rw [rule_get hR] at this
      exact token_may this hr
  obtain ⟨k1, k2, k3⟩ := key
  unfold one6
  rw [k1, k2]
  by_cases h2 : x.k = 2
  · rw [if_pos h2, if_pos h2]
  · rw [if_neg h2, if_neg h2, k3 h2]
    unfold stepOk
    congr 1
    have := begins_le hwd x.t
    rw [Bool.eq_iff_iff]
    simp only [decide_eq_true_eq]
    omega
theorem whole_step {l : List Tok} {top : Lev} (h : hRun hTop [] l = some (top, [])) : regAccepts (ruleOf houseRules 0).2 houseGroups (wordL l (-1) l.length) = hAcc top := by
  have HL := run_lv (Nat.le_refl l.length) (by rw [List.take_length]; exact h)
  have hw := HL.whole
  unfold wordL
  rw [hw.2, ← hw.1]
theorem ck6_eq {l : List Tok} : ∀ (r : List Tok) (k : Nat) (top : Lev) (below : List Lev), l.drop k = r → k ≤ l.length → hRun hTop [] (l.take k) = some (top, below) → (fcGo k below.length r).2 = 0 → ck6 l k r = ckGo houseRules houseGroups k top below r := by
  intro r
  induction r with
  | nil =>
    intro k top below hd hk h hf
    have hkl : k = l.length := by
      have := List.length_drop (i := k) (l := l)
      rw [hd] at this
      simp at this
      omega
    subst hkl
    unfold fcGo at hf
    have hb : below = [] := by
      cases below with
      | nil => rfl
      | cons p q => simp at hf
    subst hb
    rw [List.take_length] at h
    rw [ck_end, ck6, whole_step h]
  | cons x r ih =>
    intro k top below hd hk h hf
    have hx : l[k]? = some x := by
      have : (l.drop k)[0]? = some x := by rw [hd]; rfl
      simpa using this
    have hk2 : k < l.length := (List.getElem?_eq_some_iff.1 hx).1
    have hd2 : l.drop (k + 1) = r := by
      have : (l.drop k).drop 1 = r := by rw [hd]; rfl
      rwa [List.drop_drop] at this
    have hf' : fcGo k below.length (x :: r) = ((fcGo k below.length (x :: r)).1, 0) := by rw [← hf]
    have hr := fc_right hf'
    have hone := one_step hx hr h
    rw [ck6, hone]
    have hrun : ∀ (t : Lev) (z : List Lev), hRun top below [x] = some (t, z) → hRun hTop [] (l.take (k + 1)) = some (t, z) := by
      intro t z e
      rw [List.take_add_one, hx]
      unfold hRun at h e ⊢
      rw [ckRun_app, h]
      exact e
    by_cases h2 : x.k = 2
    · rw [if_pos h2]
      cases ha : hAcc top
      · rw [ck_noclose h2 ha]
        rfl
      · obtain ⟨hn, hf2⟩ := fc_close hf' h2
        cases below with
        | nil => simp at hn
        | cons p q =>
          rw [ck_close h2 ha]
          simp only [if_true]
          refine ih (k + 1) p q hd2 (by omega) (hrun p q ?_) ?_
          · unfold hRun
            rw [ckRun_cons, if_pos h2]
            simp only
            rw [if_pos ha]
            rfl
          · have : (p :: q).length - 1 = q.length := by simp
            rw [this] at hf2
            rw [hf2]
    · rw [if_neg h2]
      cases hs : stepOk houseRules houseGroups top x
      · rw [ck_bad h2 hs]
        rfl
      · simp only [if_true]
        by_cases h1 : x.k = 1
        · obtain ⟨_, hf2⟩ := fc_open hf' h1
          rw [ck_open h1 hs]
          refine ih (k + 1) _ _ hd2 (by omega) (hrun _ _ ?_) (by rw [List.length_cons, hf2])
          unfold hRun
          rw [ckRun_cons, if_neg h2, if_pos hs, if_pos h1]
          rfl
        · have hf2 := fc_else hf' h1 h2
          rw [ck_leaf h2 h1 hs]
          refine ih (k + 1) _ _ hd2 (by omega) (hrun _ _ ?_) (by rw [hf2])
          unfold hRun
          rw [ckRun_cons, if_neg h2, if_pos hs, if_neg h1]
          rfl
theorem check6_eq (l : List Tok) : check6 l = houseCheck l := by
  unfold check6 houseCheck schemaCheck
  by_cases hf : (flatCheck l).2 = 0
  · rw [if_pos hf, if_pos hf]
    have hl : ¬ l.length > 2048 := by
      intro h
      unfold flatCheck at hf
      rw [if_pos h] at hf
      cases hf
    have h1 : flatCheck l = fcGo 0 0 l := by unfold flatCheck; rw [if_neg hl]
    rw [h1] at hf
    exact ck6_eq l 0 hTop [] rfl (Nat.zero_le _) rfl hf
  · rw [if_neg hf, if_neg hf]
end Go.Proofs.YtofjodppljnlaaaGreatDoor
namespace Go.Proofs.YtofjodppljnlaaaGreatDoor
open Go.RowKit
set_option linter.unusedVariables false
set_option linter.unusedSimpArgs false
theorem spec_some {k : Nat} {x : Spec} {e : Ex} (h : houseRules[k + 1]? = some (x, e)) : specOf houseRules ((k + 1 : Nat) : Int) = some x := by
  unfold specOf
  rw [if_neg (by omega), Int.toNat_natCast, h]
  rfl
theorem spec_low {t : Int} (h : t < 1) : specOf houseRules t = none := by
  unfold specOf
  rw [if_pos h]
theorem spec_high {t : Int} (h : 7 < t) : specOf houseRules t = none := by
  unfold specOf
  rw [if_neg (by omega), List.getElem?_eq_none (by rw [house_len]; omega)]
  rfl
set_option maxRecDepth 100000 in
set_option maxHeartbeats 4000000 in
theorem Spec6_in {w : World} {cb : Nat} (h : H6 w cb) {k : Nat} (hk : k < 7) {x : Spec} (hx : houseSpecs[k]? = some x) : Calls Tryz.prog 75 #[.pointer (some ⟨cb, 0, none⟩), .int .i64 ((k + 1 : Nat) : Int)] w fun r w' => r = .returned (.tuple #[x.val, .bool true]) ∧ Pure w w' := by
  obtain ⟨AW, cW, AL, cL, AE, cE, AG, cG, hcb, c0, c1, c2, c3, c4, c5, hw, hl, he, hg⟩ := h.cells
  obtain ⟨b, o, rfl, _, hbl, d0, d1, d2, d3, d4, d5, d6⟩ := spec_at hl hx
  rw [h6_len] at c3
  have t1 : decide (((k + 1 : Nat) : Int) < 1) = false := decide_eq_false (by omega)
  have t3 : decide ((7 : Int) < ((k + 1 : Nat) : Int)) = false := decide_eq_false (by omega)
  have t4 : IntKind.i64.wrap (((k + 1 : Nat) : Int) - 1) = (k : Int) := by rw [show ((k + 1 : Nat) : Int) - 1 = (k : Int) by omega]; exact IntWalk.i64_in _ (by omega)
  generalize ((k + 1 : Nat) : Int) = kk at *
  clear hw hl he hg h hx
  go_enter Tryz.func75, Tryz.ntmps75
  go_wp2
  exact bodyPost_ret (v := .tuple #[x.val, .bool true]) (by simp [results, Tryz.results75, go_sem, Spec.val]) rfl ⟨rfl, Upd.alloc1 _ _ _⟩
set_option maxRecDepth 100000 in
set_option maxHeartbeats 4000000 in
theorem Spec6_out {w : World} {cb : Nat} (h : H6 w cb) {t : Int} (ht : t < 1 ∨ 7 < t) : Calls Tryz.prog 75 #[.pointer (some ⟨cb, 0, none⟩), .int .i64 t] w fun r w' => r = .returned (.tuple #[zeroSpec.val, .bool false]) ∧ Pure w w' := by
  obtain ⟨AW, cW, AL, cL, AE, cE, AG, cG, hcb, c0, c1, c2, c3, c4, c5, hw, hl, he, hg⟩ := h.cells
  rw [h6_len] at c3
  by_cases h1 : t < 1
  · have t1 : decide (t < 1) = true := by simpa using h1
    clear hw hl he hg h ht h1
    go_enter Tryz.func75, Tryz.ntmps75
    go_wp2
    exact bodyPost_ret (v := .tuple #[zeroSpec.val, .bool false]) (by simp [results, Tryz.results75, go_sem, Spec.val]) rfl ⟨rfl, Upd.alloc1 _ _ _⟩
  · have t1 : decide (t < 1) = false := by simpa using h1
    have t3 : decide ((7 : Int) < t) = true := decide_eq_true (by omega)
    clear hw hl he hg h ht h1
    go_enter Tryz.func75, Tryz.ntmps75
    go_wp2
    exact bodyPost_ret (v := .tuple #[zeroSpec.val, .bool false]) (by simp [results, Tryz.results75, go_sem, Spec.val]) rfl ⟨rfl, Upd.alloc1 _ _ _⟩
theorem Spec6_calls {w : World} {cb : Nat} (h : H6 w cb) (t : Int) : Calls Tryz.prog 75 #[.pointer (some ⟨cb, 0, none⟩), .int .i64 t] w fun r w' => r = .returned (.tuple #[((specOf houseRules t).getD zeroSpec).val, .bool (specOf houseRules t).isSome]) ∧ Pure w w' := by
  by_cases h1 : t < 1
  · rw [spec_low h1]; exact Spec6_out h (.inl h1)
  · by_cases h2 : 7 < t
    · rw [spec_high h2]; exact Spec6_out h (.inr h2)
    · obtain ⟨k, rfl⟩ : ∃ k : Nat, t = ((k + 1 : Nat) : Int) := ⟨(t - 1).toNat, by omega⟩
      have hk : k < 7 := by omega
      obtain ⟨x, e, hx, _, hR⟩ := h6_at k hk
      rw [spec_some hR]
      exact Spec6_in h hk hx
set_option maxRecDepth 100000 in
set_option maxHeartbeats 4000000 in
theorem rule6_whole {w : World} {cb : Nat} {A : Option Addr} {n c : Nat} (h : H6 w cb) {t : Int} (ht : t < 0) : Calls Tryz.prog 78 #[.pointer (some ⟨cb, 0, none⟩), .slice A n c, .int .i64 t] w fun r w' => (∃ A1 c1, r = .returned (houseE0.val A1 c1) ∧ exR.row w' AnyB A1 houseE0.l) ∧ Pure w w' := by
  obtain ⟨AW, cW, AL, cL, AE, cE, AG, cG, hcb, c0, c1, c2, c3, c4, c5, hw, hl, he, hg⟩ := h.cells
  have HW := As.mk hw
  have t1 : decide (t < 0) = true := by simpa using ht
  clear hw hl he hg h ht
  generalize houseE0 = e0 at *
  obtain ⟨k0, nm, l⟩ := e0
  unfold Ex.val at *
  go_enter Tryz.func78, Tryz.ntmps78
  go_wp2
  have hu : Pure w (w.alloc (.cells #[.int .i64 k0, .string nm, .slice AW l.length cW] 92)) := Upd.alloc1 _ _ _
  exact bodyPost_ret (v := .agg #[.int .i64 k0, .string nm, .slice AW l.length cW]) (by simp [results, Tryz.results78, go_sem]) rfl ⟨⟨AW, cW, rfl, Rp.row_pure HW.out hu⟩, hu⟩
set_option maxRecDepth 100000 in
set_option maxHeartbeats 4000000 in
theorem rule6_in {w : World} {cb : Nat} {F : Nat → Prop} {A : Option Addr} {c : Nat} {l : List Tok} (h : H6 w cb) (hr : tokR.row w F A l) {i k : Nat} {y : Tok} (hy : l[i]? = some y) (hk : k < 7) (hyt : y.t = ((k + 1 : Nat) : Int)) {e : Ex} (he : houseE7[k]? = some e) : Calls Tryz.prog 78 #[.pointer (some ⟨cb, 0, none⟩), .slice A l.length c, .int .i64 i] w fun r w' => (∃ A1 c1, r = .returned (e.val A1 c1) ∧ exR.row w' AnyB A1 e.l) ∧ Pure w w' := by
  obtain ⟨AW, cW, AL, cL, AE, cE, AG, cG, hcb, c0, c1, c2, c3, c4, c5, hw, hl, hE, hg⟩ := h.cells
  obtain ⟨be, oe, A1, n1, rfl, _, hbe, e0, e1, e2, hle, hrow⟩ := ex_at6 hE he
  obtain ⟨bt, ot, rfl, _, hbt, q0, q1, q2, q3⟩ := tok_at hr hy
  rw [hyt] at q1
  rw [h6_lenE] at c4
  have hil : i < l.length := (List.getElem?_eq_some_iff.1 hy).1
  have HR := As.mk hrow
  have t1 : decide ((i : Int) < 0) = false := by simp
  have t4 : IntKind.i64.wrap (((k + 1 : Nat) : Int) - 1) = (k : Int) := by rw [show ((k + 1 : Nat) : Int) - 1 = (k : Int) by omega]; exact IntWalk.i64_in _ (by omega)
  generalize ((k + 1 : Nat) : Int) = kk at *
  have hk7 : (k : Int) < 7 := by omega
  obtain ⟨k0, nm, l0⟩ := e
  have HS : As (∀ v, Pure w v → v.cell? ⟨cb, 4, none⟩ = some (.slice (some ⟨be, oe, none⟩) 7 cE) ∧ v.cell? ⟨bt, ot + i * 4 + 1, none⟩ = some (.int .i64 kk) ∧ v.cell? ⟨be, oe + k * 3, none⟩ = some (.int .i64 k0) ∧ v.cell? ⟨be, oe + k * 3 + 1, none⟩ = some (.string nm) ∧ v.cell? ⟨be, oe + k * 3 + 2, none⟩ = some (.slice A1 l0.length n1)) := ⟨fun v hu => ⟨(hu.cell hcb (fun h => h)).trans c4, (hu.cell hbt (fun h => h)).trans q1, (hu.cell hbe (fun h => h)).trans e0, (hu.cell hbe (fun h => h)).trans e1, (hu.cell hbe (fun h => h)).trans e2⟩⟩
  unfold Ex.val at *
  clear hw hl hE hg h hr hy hyt he hrow hle c0 c1 c2 c3 c4 c5 q0 q1 q2 q3 e0 e1 e2
  go_enter Tryz.func78, Tryz.ntmps78
  go_wp2
  refine wp_region_T (P := Tryz.prog) (fun v => v.cell? ⟨cb, 4, none⟩ = some (.slice (some ⟨be, oe, none⟩) 7 cE) ∧ v.cell? ⟨bt, ot + i * 4 + 1, none⟩ = some (.int .i64 kk) ∧ v.cell? ⟨be, oe + k * 3, none⟩ = some (.int .i64 k0) ∧ v.cell? ⟨be, oe + k * 3 + 1, none⟩ = some (.string nm) ∧ v.cell? ⟨be, oe + k * 3 + 2, none⟩ = some (.slice A1 l0.length n1)) 12 (by kernel_rfl) ?_ (fun hHeld => ?_)
  · exact HS.out _ (Upd.alloc1 _ _ _).drew
  refine zT 0 ?_
  (try simp only [Act.put, sA, sB, sC])
  refine zT 1 ?_
  (try simp only [Act.put, sA, sB, sC])
  refine zT 2 ?_
  (try simp only [Act.put, sA, sB, sC])
  refine zT 3 ?_
  (try simp only [Act.put, sA, sB, sC])
  refine zT 4 ?_
  (try simp only [Act.put, sA, sB, sC])
  refine zT 5 ?_
  (try simp only [Act.put, sA, sB, sC])
  refine zT 6 ?_
  (try simp only [Act.put, sA, sB, sC])
  refine zT 7 ?_
  (try simp only [Act.put, sA, sB, sC])
  refine zT 8 ?_
  (try simp only [Act.put, sA, sB, sC])
  refine zT 9 ?_
  (try simp only [Act.put, sA, sB, sC])
  refine zT 10 ?_
  (try simp only [Act.put, sA, sB, sC])
  refine zT 11 ?_
  (try simp only [Act.put, sA, sB, sC])
  refine oT 12 (fun K hK => ?_)
  go_simp
  refine hK.out _ _ (fun h => absurd rfl h) (fun hHeld => ?_)
  clear hK K
  (try simp only [Act.put, sA, sB, sC])
  refine wpAnyT_done (by kernel_rfl) ?_ _
  go_wp2
  have hu : Pure w (w.alloc (.cells #[.int .i64 k0, .string nm, .slice A1 l0.length n1] 92)).drew := (Upd.alloc1 _ _ _).drew
  exact bodyPost_ret (v := .agg #[.int .i64 k0, .string nm, .slice A1 l0.length n1]) (by simp [results, Tryz.results78, go_sem]) rfl ⟨⟨A1, n1, rfl, Rp.row_pure HR.out hu⟩, hu⟩
theorem wd_shut {d : Int} {s : List Int} {x : Tok} (h : x.k = 2) : wdStep (d, s) x = (d - 1, s) := by unfold wdStep; simp [h]
theorem wd_open0 {s : List Int} {x : Tok} (h : x.k = 1) : wdStep (0, s) x = (1, s ++ [x.t]) := by unfold wdStep; simp [h]
theorem wd_open {d : Int} {s : List Int} {x : Tok} (h : x.k = 1) (hd : d ≠ 0) : wdStep (d, s) x = (d + 1, s) := by unfold wdStep; simp [h, hd]
theorem wd_else0 {s : List Int} {x : Tok} (h : x.k ≠ 1) (h2 : x.k ≠ 2) : wdStep (0, s) x = (0, s ++ [x.t]) := by unfold wdStep; simp [h, h2]
theorem wd_else {d : Int} {s : List Int} {x : Tok} (h : x.k ≠ 1) (h2 : x.k ≠ 2) (hd : d ≠ 0) : wdStep (d, s) x = (d, s) := by unfold wdStep; simp [h, h2, hd]
/-- What the loop of word keeps. -/
def WdRel (w wr : World) (l : List Tok) (a : Int) (b k : Nat) (d : Int) (v : Value) : Prop :=
  ∃ s : List Int, intRS.own 3 wr (fun q => w.heap.size ≤ q) v s ∧ s.length ≤ k ∧ -(k : Int) ≤ d ∧ d ≤ k ∧ ((l.take b).drop k).foldl wdStep (d, s) = wdGo l a b ∧ Pure w wr
set_option maxRecDepth 100000 in
set_option maxHeartbeats 4000000 in
theorem word6_calls {F : Nat → Prop} {A : Option Addr} {c : Nat} {l : List Tok} {w : World} {a b : Nat} (hr : tokR.row w F A l) (hb : l.length ≤ 1048576) (hbl : b ≤ l.length) (hab : a ≤ b) {i : Int} (hi : i = (a : Int) - 1) :
    Calls Tryz.prog 71 #[.slice A l.length c, .int .i64 i, .int .i64 b] w fun e w' => ∃ v, e = .returned v ∧ intRS.own 3 w' (fun k => w.heap.size ≤ k) v (wordL l i b) ∧ (wordL l i b).length ≤ b ∧ Pure w w' := by
  have HR := As.mk hr
  have hw0 : IntKind.i64.wrap (i + 1) = (a : Int) := by rw [show i + 1 = (a : Int) by omega]; exact IntWalk.i64_in _ (by omega)
  have HS0 := As.mk (show WdRel w w l i b a 0 (.slice none 0 0) from ⟨[], Rp.own_nil _ _ _ _, Nat.zero_le _, by omega, by omega, by unfold wdGo; rw [show (i + 1).toNat = a by omega, Int.toNat_natCast], Upd.refl _ _⟩)
  clear hr hi
  go_enter Tryz.func71, Tryz.ntmps71
  go_wp2
  go_loopg [7, 8, 9] (b - a) (fun gg v dv kv wr => ∃ (k : Nat) (d : Int), k + gg = b ∧ dv = .int .i64 d ∧ kv = .int .i64 k ∧ As (WdRel w wr l i b k d v))
  case atStart => exact ⟨a, 0, by omega, rfl, rfl, HS0⟩
  case round =>
    clear HS0
    obtain ⟨k, d, hk, rfl, rfl, HC⟩ := hrel
    by_cases hlt : k < b
    · obtain ⟨x, hx⟩ : ∃ x, l[k]? = some x := ⟨_, List.getElem?_eq_getElem (by omega)⟩
      obtain ⟨s, hown, hsl, hd1, hd2, heq, hp⟩ := HC.out
      obtain ⟨bt, ot, rfl, hFb, hb0, p0, p1, p2, p3⟩ := tok_at HR.out hx
      have q0 := (hp.cell hb0 (fun h => h)).trans p0
      have q1 := (hp.cell hb0 (fun h => h)).trans p1
      have hbb := Nat.lt_of_lt_of_le hb0 hp.size
      obtain ⟨g1, rfl⟩ : ∃ m, gk = m + 1 := ⟨gk - 1, by omega⟩
      have hcons : (l.take b).drop k = x :: (l.take b).drop (k + 1) := drop_cons (by rw [List.getElem?_take, if_pos hlt]; exact hx)
      rw [hcons, List.foldl_cons] at heq
      have HNB := As.mk (fun h => (absurd (Rp.own_block_lt hown bt h).1 (by omega) : False))
      have HO := As.mk hown
      have HP := As.mk hp
      have HK := As.mk hk
      have HSL := As.mk hsl
      have hkl : (k : Int) < (l.length : Int) := by omega
      have hkb : decide ((k : Int) < (b : Int)) = true := decide_eq_true (by omega)
      have hwk : IntKind.i64.wrap ((k : Int) + 1) = (k : Int) + 1 := IntWalk.i64_in _ (by omega)
      have hwd : IntKind.i64.wrap (d + 1) = d + 1 := IntWalk.i64_in _ (by omega)
      have hwe : IntKind.i64.wrap (d - 1) = d - 1 := IntWalk.i64_in _ (by omega)
      clear hown hp hk hx HC hsl hcons p0 p1 p2 p3
      by_cases h2 : x.k = 2
      · have e2 : (x.k == 2) = true := by simp [h2]
        have e3 : (x.k != 2) = false := by simp [h2]
        have e1 : (x.k == 1) = false := by simp [h2]
        rw [wd_shut h2] at heq
        by_cases hd : d = 0
        · subst hd
          rw [show (0 : Int) - 1 = -1 from rfl] at heq
          have HE := As.mk heq
          clear heq h2
          go_wp2
          go_roundg g1
          case measure => omega
          case rel => exact ⟨k + 1, -1, by have := HK.out; omega, by first | rfl | go_num, by go_num, ⟨_, HO.out, by have := HSL.out; first | omega | (rw [List.length_append, List.length_singleton]; omega), by omega, by omega, HE.out, HP.out⟩⟩
        · have e0 : (d == 0) = false := by simp [hd]
          have HE := As.mk heq
          clear heq h2 hd
          go_wp2
          go_roundg g1
          case measure => omega
          case rel => exact ⟨k + 1, d - 1, by have := HK.out; omega, by first | rfl | go_num, by go_num, ⟨_, HO.out, by have := HSL.out; first | omega | (rw [List.length_append, List.length_singleton]; omega), by omega, by omega, HE.out, HP.out⟩⟩
      · have e2 : (x.k == 2) = false := by simp [h2]
        have e3 : (x.k != 2) = true := by simp [h2]
        by_cases h1 : x.k = 1
        · have e1 : (x.k == 1) = true := by simp [h1]
          by_cases hd : d = 0
          · subst hd
            rw [wd_open0 h1] at heq
            have HE := As.mk heq
            clear heq h2 h1
            go_wp2_with (at_builtin; refine Rp.own_append intRS HO.out x.t [.int .i64 x.t] rfl (Fp := fun _ => False) (G := fun q => w.heap.size ≤ q) (fun _ h => h.elim) (fun _ h _ => h) (fun q hq => by have := HP.out.size; omega) rfl _ _ 83 _ 8 rfl Tryz.underlying83 int_infoS rfl (by decide) (by decide) rfl (by simp [Act.eval]) (by have := HSL.out; omega) ?_; intro v1 w1 ho1 hu1; have HO1 := As.mk ho1; have HU1 := As.mk (HP.out.trans hu1 (fun q hq h => by have := Rp.own_block_lt HO.out q h; omega)); have HU0 := As.mk hu1; clear ho1 hu1; apply As.out)
            refine ⟨?_⟩
            have r0 := (HU0.out.cell hbb HNB.out).trans q0
            have hbb1 := Nat.lt_of_lt_of_le hbb HU0.out.size
            clear q0 q1
            go_wp2
            go_roundg g1
            case measure => omega
            case rel => exact ⟨k + 1, 1, by have := HK.out; omega, by first | rfl | go_num, by go_num, ⟨_, HO1.out, by have := HSL.out; first | omega | (rw [List.length_append, List.length_singleton]; omega), by omega, by omega, HE.out, HU1.out⟩⟩
          · have e0 : (d == 0) = false := by simp [hd]
            rw [wd_open h1 hd] at heq
            have HE := As.mk heq
            clear heq h2 hd h1
            go_wp2
            go_roundg g1
            case measure => omega
            case rel => exact ⟨k + 1, d + 1, by have := HK.out; omega, by first | rfl | go_num, by go_num, ⟨_, HO.out, by have := HSL.out; first | omega | (rw [List.length_append, List.length_singleton]; omega), by omega, by omega, HE.out, HP.out⟩⟩
        · have e1 : (x.k == 1) = false := by simp [h1]
          by_cases hd : d = 0
          · subst hd
            rw [wd_else0 h1 h2] at heq
            have HE := As.mk heq
            clear heq h2 h1
            go_wp2_with (at_builtin; refine Rp.own_append intRS HO.out x.t [.int .i64 x.t] rfl (Fp := fun _ => False) (G := fun q => w.heap.size ≤ q) (fun _ h => h.elim) (fun _ h _ => h) (fun q hq => by have := HP.out.size; omega) rfl _ _ 83 _ 8 rfl Tryz.underlying83 int_infoS rfl (by decide) (by decide) rfl (by simp [Act.eval]) (by have := HSL.out; omega) ?_; intro v1 w1 ho1 hu1; have HO1 := As.mk ho1; have HU1 := As.mk (HP.out.trans hu1 (fun q hq h => by have := Rp.own_block_lt HO.out q h; omega)); have HU0 := As.mk hu1; clear ho1 hu1; apply As.out)
            refine ⟨?_⟩
            have r0 := (HU0.out.cell hbb HNB.out).trans q0
            have hbb1 := Nat.lt_of_lt_of_le hbb HU0.out.size
            clear q0 q1
            go_wp2
            go_roundg g1
            case measure => omega
            case rel => exact ⟨k + 1, 0, by have := HK.out; omega, by first | rfl | go_num, by go_num, ⟨_, HO1.out, by have := HSL.out; first | omega | (rw [List.length_append, List.length_singleton]; omega), by omega, by omega, HE.out, HU1.out⟩⟩
          · have e0 : (d == 0) = false := by simp [hd]
            rw [wd_else h1 h2 hd] at heq
            have HE := As.mk heq
            clear heq h2 hd h1
            go_wp2
            go_roundg g1
            case measure => omega
            case rel => exact ⟨k + 1, d, by have := HK.out; omega, by first | rfl | go_num, by go_num, ⟨_, HO.out, by have := HSL.out; first | omega | (rw [List.length_append, List.length_singleton]; omega), by omega, by omega, HE.out, HP.out⟩⟩
    · obtain rfl : k = b := by omega
      obtain ⟨s, hown, hsl, hd1, hd2, heq, hp⟩ := HC.out
      rw [List.drop_eq_nil_of_le (by rw [List.length_take]; omega), List.foldl_nil] at heq
      have HE := As.mk (show s = wordL l i k by unfold wordL; rw [← heq])
      have HO := As.mk hown
      have HP := As.mk hp
      have HSL := As.mk hsl
      have hkb : decide ((k : Int) < (k : Int)) = false := decide_eq_false (by omega)
      clear hown hp heq HC hsl hd1 hd2
      go_wp2
      go_ret
      exact ⟨_, rfl, by rw [← HE.out]; exact HO.out, by rw [← HE.out]; exact HSL.out, HP.out⟩
end Go.Proofs.YtofjodppljnlaaaGreatDoor
namespace Go.Proofs.YtofjodppljnlaaaGreatDoor
open Go.RowKit
set_option linter.unusedVariables false
set_option linter.unusedSimpArgs false
theorem two_up6 {w V : World} {X Y : Obj} (h : Pure ((w.alloc X).alloc Y) V) : V.heap[w.heap.size]? = some X ∧ V.heap[w.heap.size + 1]? = some Y ∧ Pure w V := by
  have hz : (w.alloc X).heap.size = w.heap.size + 1 := by simp
  refine ⟨?_, ?_, ((Upd.alloc1 _ _ _).alloc _).trans h (fun _ _ h => h)⟩
  · refine (h.block _ (by simp; omega) (fun h => h)).trans ((Below.heap_alloc _ _ _ (by rw [hz]; omega)).trans (heap_alloc_new w X))
  · have := heap_alloc_new (w.alloc X) Y
    rw [hz] at this
    exact (h.block _ (by simp) (fun h => h)).trans this
theorem one_up6 {w V : World} {X : Obj} (h : Pure (w.alloc X) V) : V.heap[w.heap.size]? = some X ∧ Pure w V :=
  ⟨(h.block _ (by simp) (fun h => h)).trans (heap_alloc_new w X), (Upd.alloc1 _ _ _).trans h (fun _ _ h => h)⟩
theorem cells4_6 {w : World} {k : Nat} {x0 x1 x2 x3 : Value} {t : TypeId} (h : w.heap[k]? = some (.cells #[x0, x1, x2, x3] t (0, 0))) : w.cell? ⟨k, 0, none⟩ = some x0 ∧ w.cell? ⟨k, 1, none⟩ = some x1 ∧ w.cell? ⟨k, 2, none⟩ = some x2 ∧ w.cell? ⟨k, 3, none⟩ = some x3 ∧ k < w.heap.size := by
  refine ⟨?_, ?_, ?_, ?_, (Array.getElem?_eq_some_iff.1 h).1⟩
  all_goals (unfold World.cell?; simp only [h]; rfl)
theorem cells7_6 {w : World} {k : Nat} {x0 x1 x2 x3 x4 x5 x6 : Value} {t : TypeId} (h : w.heap[k]? = some (.cells #[x0, x1, x2, x3, x4, x5, x6] t (0, 0))) :
    (w.cell? ⟨k, 0, none⟩ = some x0 ∧ w.cell? ⟨k, 1, none⟩ = some x1 ∧ w.cell? ⟨k, 2, none⟩ = some x2 ∧ w.cell? ⟨k, 3, none⟩ = some x3 ∧ w.cell? ⟨k, 4, none⟩ = some x4 ∧ w.cell? ⟨k, 5, none⟩ = some x5 ∧ w.cell? ⟨k, 6, none⟩ = some x6) ∧
    (w.frozen? ⟨k, 0, none⟩ = false ∧ w.frozen? ⟨k, 1, none⟩ = false ∧ w.frozen? ⟨k, 2, none⟩ = false ∧ w.frozen? ⟨k, 3, none⟩ = false ∧ w.frozen? ⟨k, 4, none⟩ = false ∧ w.frozen? ⟨k, 5, none⟩ = false ∧ w.frozen? ⟨k, 6, none⟩ = false) ∧ k < w.heap.size := by
  refine ⟨⟨?_, ?_, ?_, ?_, ?_, ?_, ?_⟩, ⟨?_, ?_, ?_, ?_, ?_, ?_, ?_⟩, (Array.getElem?_eq_some_iff.1 h).1⟩
  all_goals first | (unfold World.cell?; simp only [h]; rfl) | simp [World.frozen?, h]
theorem set7_upd6 (w : World) (rb : Nat) (y0 y1 y2 y3 y4 y5 y6 : Value) : Upd (fun k => k = rb) w (((((((w.setCell ⟨rb, 0, none⟩ y0).setCell ⟨rb, 1, none⟩ y1).setCell ⟨rb, 2, none⟩ y2).setCell ⟨rb, 3, none⟩ y3).setCell ⟨rb, 4, none⟩ y4).setCell ⟨rb, 5, none⟩ y5).setCell ⟨rb, 6, none⟩ y6) :=
  (Upd.refl (fun k => k = rb) w)|>.setCell (p := ⟨rb, 0, none⟩) (fun _ => rfl) _ |>.setCell (p := ⟨rb, 1, none⟩) (fun _ => rfl) _ |>.setCell (p := ⟨rb, 2, none⟩) (fun _ => rfl) _ |>.setCell (p := ⟨rb, 3, none⟩) (fun _ => rfl) _ |>.setCell (p := ⟨rb, 4, none⟩) (fun _ => rfl) _ |>.setCell (p := ⟨rb, 5, none⟩) (fun _ => rfl) _ |>.setCell (p := ⟨rb, 6, none⟩) (fun _ => rfl) _ 
theorem token6_rune_b {s : Spec} {x : Tok} (h : x.k = 0) : token6 s x = ((bits .and .i64 x.m s.marks == x.m) && ((x.n != 10) || s.lines)) := by
  unfold token6
  rw [if_pos h]
  rw [Bool.eq_iff_iff]
  simp
theorem token6_else_b {s : Spec} {x : Tok} (h : x.k ≠ 0) : token6 s x = ((specOf houseRules x.t).isSome && (decide (((specOf houseRules x.t).getD zeroSpec).least ≤ x.n) && (decide (x.n ≤ ((specOf houseRules x.t).getD zeroSpec).most) && (((specOf houseRules x.t).getD zeroSpec).leaf == (x.k == 3))))) := by
  unfold token6
  rw [if_neg h]
  cases specOf houseRules x.t with
  | none => rfl
  | some s =>
    simp only [Option.isSome_some, Option.getD_some, Bool.true_and, Bool.and_assoc]
    rfl
set_option maxRecDepth 100000 in
set_option maxHeartbeats 4000000 in
theorem token6_rune_out {w : World} {cb : Nat} {F : Nat → Prop} {A : Option Addr} {c : Nat} {l : List Tok} (hr : tokR.row w F A l) {i : Nat} {x : Tok} (hx : l[i]? = some x) (h0 : x.k = 0) {n : Int} (hn : n < 0) : Calls Tryz.prog 131 #[.pointer (some ⟨cb, 0, none⟩), .slice A l.length c, .int .i64 i, .int .i64 n] w fun r w' => r = .returned (.bool (token6 zeroSpec x)) ∧ Pure w w' := by
  rw [token6_rune_b h0]
  obtain ⟨bt, ot, rfl, _, hbt, q0, q1, q2, q3⟩ := tok_at hr hx
  have hil : (i : Int) < (l.length : Int) := by have := (List.getElem?_eq_some_iff.1 hx).1; omega
  have t1 : decide (n ≥ 0) = false := decide_eq_false (by omega)
  have t2 : decide (0 ≤ n) = false := decide_eq_false (by omega)
  have e0 : (x.k == 0) = true := by simp [h0]
  clear hr hx hn h0
  cases b1 : (bits .and .i64 x.m 0 == x.m) <;> cases b2 : (x.n != 10)
  all_goals
    go_enter Tryz.func131, Tryz.ntmps131
    go_wp2
    go_ret
    exact ⟨by simp, (Upd.alloc1 _ _ _).alloc _⟩
set_option maxRecDepth 100000 in
set_option maxHeartbeats 4000000 in
theorem token6_rune_in {w : World} {cb : Nat} {F : Nat → Prop} {A : Option Addr} {c : Nat} {l : List Tok} (h : H6 w cb) (hr : tokR.row w F A l) {i j : Nat} {x y : Tok} (hx : l[i]? = some x) (h0 : x.k = 0) (hy : l[j]? = some y) : Calls Tryz.prog 131 #[.pointer (some ⟨cb, 0, none⟩), .slice A l.length c, .int .i64 i, .int .i64 j] w fun r w' => r = .returned (.bool (token6 ((specOf houseRules y.t).getD zeroSpec) x)) ∧ Pure w w' := by
  rw [token6_rune_b h0]
  have HSP := As.mk (fun (W : World) (hu : Pure w W) => Spec6_calls (h.pure hu) y.t)
  generalize (specOf houseRules y.t).getD zeroSpec = s at *
  generalize (specOf houseRules y.t).isSome = sb at *
  obtain ⟨bt, ot, rfl, _, hbt, q0, q1, q2, q3⟩ := tok_at hr hx
  obtain ⟨bt2, ot2, hA2, _, hbt2, p0, p1, p2, p3⟩ := tok_at hr hy
  obtain ⟨rfl, rfl⟩ : bt = bt2 ∧ ot = ot2 := by simpa using hA2
  have hil : (i : Int) < (l.length : Int) := by have := (List.getElem?_eq_some_iff.1 hx).1; omega
  have hjl : (j : Int) < (l.length : Int) := by have := (List.getElem?_eq_some_iff.1 hy).1; omega
  have t1 : decide ((j : Int) ≥ 0) = true := decide_eq_true (by omega)
  have t2 : decide (0 ≤ (j : Int)) = true := decide_eq_true (by omega)
  have e0 : (x.k == 0) = true := by simp [h0]
  clear hr hx hy h0 h hA2 p0 p2 p3
  cases b1 : (bits .and .i64 x.m s.marks == x.m) <;> cases b2 : (x.n != 10)
  all_goals
    go_enter Tryz.func131, Tryz.ntmps131
    go_wp2_with (go_at_call 75; refine (HSP.out _ ((Upd.alloc1 _ _ _).alloc _)).mono ?_; rintro r w1 ⟨rfl, hu⟩; have HU1 := As.mk hu; clear hu; apply As.out)
    refine ⟨?_⟩
    obtain ⟨hb1, hb2, hu1⟩ := two_up6 HU1.out
    obtain ⟨u0, u1, u2, u3, ul⟩ := cells4_6 hb1
    obtain ⟨⟨v0, v1, v2, v3, v4, v5, v6⟩, ⟨f0, f1, f2, f3, f4, f5, f6⟩, vl⟩ := cells7_6 hb2
    have HP1 := As.mk hu1
    clear hb1 hb2 hu1 q0 q1 q2 q3 p1
    go_wp2
    go_ret
    exact ⟨by simp, HP1.out.trans (set7_upd6 _ _ _ _ _ _ _ _ _) (fun q hq h => by omega)⟩
set_option maxRecDepth 100000 in
set_option maxHeartbeats 4000000 in
theorem token6_else {w : World} {cb : Nat} {F : Nat → Prop} {A : Option Addr} {c : Nat} {l : List Tok} (h : H6 w cb) (hr : tokR.row w F A l) {i : Nat} {x : Tok} (hx : l[i]? = some x) (h0 : x.k ≠ 0) {n : Int} {s0 : Spec} : Calls Tryz.prog 131 #[.pointer (some ⟨cb, 0, none⟩), .slice A l.length c, .int .i64 i, .int .i64 n] w fun r w' => r = .returned (.bool (token6 s0 x)) ∧ Pure w w' := by
  rw [token6_else_b h0]
  have HSP := As.mk (fun (W : World) (hu : Pure w W) => Spec6_calls (h.pure hu) x.t)
  generalize (specOf houseRules x.t).getD zeroSpec = s at *
  generalize (specOf houseRules x.t).isSome = sb at *
  obtain ⟨bt, ot, rfl, _, hbt, q0, q1, q2, q3⟩ := tok_at hr hx
  have hil : (i : Int) < (l.length : Int) := by have := (List.getElem?_eq_some_iff.1 hx).1; omega
  have e0 : (x.k == 0) = false := by simp [h0]
  clear hr hx h0 h
  cases sb <;> cases b1 : decide (s.least ≤ x.n) <;> cases b2 : decide (x.n ≤ s.most)
  all_goals
    have b3 : decide (x.n ≥ s.least) = decide (s.least ≤ x.n) := rfl
    rw [b1] at b3
    go_enter Tryz.func131, Tryz.ntmps131
    go_wp2_with (go_at_call 75; refine (HSP.out _ (Upd.alloc1 _ _ _)).mono ?_; rintro r w1 ⟨rfl, hu⟩; have HU1 := As.mk hu; clear hu; apply As.out)
    refine ⟨?_⟩
    obtain ⟨hb1, hu1⟩ := one_up6 HU1.out
    obtain ⟨u0, u1, u2, u3, ul⟩ := cells4_6 hb1
    have HP1 := As.mk hu1
    clear hb1 hu1 q0 q1 q2 q3
    go_wp2
    go_ret
    exact ⟨by simp, HP1.out.alloc _⟩
end Go.Proofs.YtofjodppljnlaaaGreatDoor
namespace Go.Proofs.YtofjodppljnlaaaGreatDoor
open Go.RowKit
set_option linter.unusedVariables false
set_option linter.unusedSimpArgs false
set_option maxRecDepth 100000 in
set_option maxHeartbeats 4000000 in
theorem markRight3_calls (s : Int) (w : World) : Calls Tryz.prog 141 #[.int .i64 s] w fun e w' => e = .returned (.bool (markB s)) ∧ w = w' := by
  go_enter Tryz.func141, Tryz.ntmps141
  go_wp2
  all_goals go_ret
  all_goals exact ⟨ret_bool (by rw [Bool.eq_iff_iff]; (try simp only [markB, decide_eq_true_eq, Bool.and_eq_true, Bool.or_eq_true, Bool.not_eq_true', Bool.not_eq_eq_eq_not, Bool.not_true, Bool.not_false, beq_iff_eq, bne_iff_ne, beq_eq_false_iff_ne, bne_eq_false_iff_eq, decide_eq_false_iff_not, Bool.false_eq_true, Bool.true_eq_false, ne_eq, iff_true, true_iff, iff_false, false_iff, eq_self_iff_true, Bool.and_true, Bool.true_and, Bool.and_false, Bool.false_and, Bool.or_true, Bool.true_or, Bool.or_false, Bool.false_or] at *); all_goals (try simp only [MarkP, decide_eq_true_eq, Bool.and_eq_true, Bool.or_eq_true, Bool.not_eq_true', Bool.not_eq_eq_eq_not, Bool.not_true, Bool.not_false, beq_iff_eq, bne_iff_ne, beq_eq_false_iff_ne, bne_eq_false_iff_eq, decide_eq_false_iff_not, Bool.false_eq_true, Bool.true_eq_false, ne_eq, iff_true, true_iff, iff_false, false_iff, eq_self_iff_true, Bool.and_true, Bool.true_and, Bool.and_false, Bool.false_and, Bool.or_true, Bool.true_or, Bool.or_false, Bool.false_or] at *); all_goals omega), rfl⟩
set_option maxRecDepth 100000 in
set_option maxHeartbeats 4000000 in
theorem point_calls (n : Int) (w : World) : Calls Tryz.prog 145 #[.int .i64 n] w fun e w' => e = .returned (.bool (pointB n)) ∧ w = w' := by
  go_enter Tryz.func145, Tryz.ntmps145
  go_wp2
  all_goals go_ret
  all_goals exact ⟨ret_bool (by rw [Bool.eq_iff_iff]; (try simp only [pointB, decide_eq_true_eq, Bool.and_eq_true, Bool.or_eq_true, Bool.not_eq_true', Bool.not_eq_eq_eq_not, Bool.not_true, Bool.not_false, beq_iff_eq, bne_iff_ne, beq_eq_false_iff_ne, bne_eq_false_iff_eq, decide_eq_false_iff_not, Bool.false_eq_true, Bool.true_eq_false, ne_eq, iff_true, true_iff, iff_false, false_iff, eq_self_iff_true, Bool.and_true, Bool.true_and, Bool.and_false, Bool.false_and, Bool.or_true, Bool.true_or, Bool.or_false, Bool.false_or] at *); all_goals (try simp only [PointP, decide_eq_true_eq, Bool.and_eq_true, Bool.or_eq_true, Bool.not_eq_true', Bool.not_eq_eq_eq_not, Bool.not_true, Bool.not_false, beq_iff_eq, bne_iff_ne, beq_eq_false_iff_ne, bne_eq_false_iff_eq, decide_eq_false_iff_not, Bool.false_eq_true, Bool.true_eq_false, ne_eq, iff_true, true_iff, iff_false, false_iff, eq_self_iff_true, Bool.and_true, Bool.true_and, Bool.and_false, Bool.false_and, Bool.or_true, Bool.true_or, Bool.or_false, Bool.false_or] at *); all_goals omega), rfl⟩
set_option maxRecDepth 100000 in
set_option maxHeartbeats 4000000 in
theorem flatRight4_calls (x : Tok) (w : World) : Calls Tryz.prog 97 #[x.val] w fun e w' => e = .returned (.bool (rightB x)) ∧ Pure w w' := by
  go_enter Tryz.func97, Tryz.ntmps97
  go_wp2_with (first | (go_at_call 141; refine (markRight3_calls _ _).mono ?_; rintro e w1 ⟨rfl, rfl⟩) | (go_at_call 145; refine (point_calls _ _).mono ?_; rintro e w1 ⟨rfl, rfl⟩))
  all_goals go_ret
  all_goals exact ⟨ret_bool (by rw [Bool.eq_iff_iff]; (try simp only [rightB, markB, pointB, decide_eq_true_eq, Bool.and_eq_true, Bool.or_eq_true, Bool.not_eq_true', Bool.not_eq_eq_eq_not, Bool.not_true, Bool.not_false, beq_iff_eq, bne_iff_ne, beq_eq_false_iff_ne, bne_eq_false_iff_eq, decide_eq_false_iff_not, Bool.false_eq_true, Bool.true_eq_false, ne_eq, iff_true, true_iff, iff_false, false_iff, eq_self_iff_true, Bool.and_true, Bool.true_and, Bool.and_false, Bool.false_and, Bool.or_true, Bool.true_or, Bool.or_false, Bool.false_or] at *); all_goals (try simp only [RightP, MarkP, PointP, decide_eq_true_eq, Bool.and_eq_true, Bool.or_eq_true, Bool.not_eq_true', Bool.not_eq_eq_eq_not, Bool.not_true, Bool.not_false, beq_iff_eq, bne_iff_ne, beq_eq_false_iff_ne, bne_eq_false_iff_eq, decide_eq_false_iff_not, Bool.false_eq_true, Bool.true_eq_false, ne_eq, iff_true, true_iff, iff_false, false_iff, eq_self_iff_true, Bool.and_true, Bool.true_and, Bool.and_false, Bool.false_and, Bool.or_true, Bool.true_or, Bool.or_false, Bool.false_or] at *); all_goals omega), (Upd.refl _ _).alloc _⟩
theorem flatRight4_is {x : Tok} {b : Bool} (h : rightB x = b) (w : World) : Calls Tryz.prog 97 #[x.val] w fun e w' => e = .returned (.bool b) ∧ Pure w w' := h ▸ flatRight4_calls x w
end Go.Proofs.YtofjodppljnlaaaGreatDoor
namespace Go.Proofs.YtofjodppljnlaaaGreatDoor
open Go.RowKit
set_option linter.unusedVariables false
set_option linter.unusedSimpArgs false
structure StepD where
  k : Int
  fr : Int
  tt : Int
  gf : Int
  gt : Int
  ins : Int
  sl : List Tok
  mark : Int
def StepD.val (s : StepD) (A : Option Addr) (c : Nat) : Value := .agg #[.int .i64 s.k, .int .i64 s.fr, .int .i64 s.tt, .int .i64 s.gf, .int .i64 s.gt, .int .i64 s.ins, .slice A s.sl.length c, .int .i64 s.mark]
def markOne (m : Int) : Prop := m = 1 ∨ m = 2 ∨ m = 4
instance (m : Int) : Decidable (markOne m) := by unfold markOne; infer_instance
/-- What a step of its kind must be. -/
def StepD.kindOk (s : StepD) : Prop :=
  (s.k = 1 ∧ s.fr ≤ s.gf ∧ s.gf < s.gt ∧ s.gt ≤ s.tt ∧ 0 ≤ s.ins ∧ s.ins ≤ s.sl.length ∧ s.mark = 0) ∨
  (s.k = 0 ∧ s.mark = 0 ∧ s.gf = 0 ∧ s.gt = 0 ∧ s.ins = 0) ∨
  ((s.k = 2 ∨ s.k = 3) ∧ s.fr < s.tt ∧ markOne s.mark ∧ s.sl = [] ∧ s.gf = 0 ∧ s.gt = 0 ∧ s.ins = 0)
instance (s : StepD) : Decidable s.kindOk := by unfold StepD.kindOk; infer_instance
def StepD.ok (s : StepD) : Prop := 0 ≤ s.fr ∧ s.fr ≤ s.tt ∧ s.tt ≤ 2048 ∧ s.kindOk ∧ ∀ x ∈ s.sl, rightB x = true
instance (s : StepD) : Decidable s.ok := by unfold StepD.ok; infer_instance
end Go.Proofs.YtofjodppljnlaaaGreatDoor
namespace Go.Proofs.YtofjodppljnlaaaGreatDoor
open Go.RowKit
set_option linter.unusedVariables false
set_option linter.unusedSimpArgs false
end Go.Proofs.YtofjodppljnlaaaGreatDoor
namespace Go.Proofs.YtofjodppljnlaaaGreatDoor
open Go.RowKit
set_option linter.unusedVariables false
set_option linter.unusedSimpArgs false
theorem stkGo_mem : ∀ (r : List Tok) (k : Nat) (s : List Int), ∀ p ∈ stkGo k r s, p ∈ s ∨ ∃ (j : Nat) (x : Tok), p = ((k + j : Nat) : Int) ∧ r[j]? = some x ∧ x.k = 1 := by
  intro r
  induction r with
  | nil => intro k s p hp; exact .inl hp
  | cons x r ih =>
    intro k s p hp
    rw [stkGo] at hp
    rcases ih (k + 1) _ p hp with h | ⟨j, y, h1, h2, h3⟩
    · unfold stkStep at h
      split at h
      · rename_i h1
        rcases List.mem_append.1 h with h | h
        · exact .inl h
        · exact .inr ⟨0, x, by rw [List.mem_singleton.1 h]; simp, rfl, h1⟩
      · split at h
        · exact .inl (List.dropLast_subset _ h)
        · exact .inl h
    · exact .inr ⟨j + 1, y, by rw [h1]; congr 1; omega, by simpa using h2, h3⟩
end Go.Proofs.YtofjodppljnlaaaGreatDoor
namespace Go.Proofs.YtofjodppljnlaaaGreatDoor
open Go.RowKit
set_option linter.unusedVariables false
set_option linter.unusedSimpArgs false
theorem stkGo_app : ∀ (a b : List Tok) (k : Nat) (s : List Int), stkGo k (a ++ b) s = stkGo (k + a.length) b (stkGo k a s) := by
  intro a
  induction a with
  | nil => intro b k s; rfl
  | cons x r ih =>
    intro b k s
    rw [List.cons_append, stkGo, stkGo, ih]
    congr 1
    simp; omega
theorem stack_at {l : List Tok} {n : Nat} (hn : n ≤ l.length) : stackL l (n : Int) = stkGo 0 (l.take n) [] := by
  unfold stackL
  rw [if_neg (by omega), show (max (n : Int) 0).toNat = n by omega]
theorem around_at {l : List Tok} {n : Nat} (hn : n ≤ l.length) : aroundL l (n : Int) = (stkGo 0 (l.take n) []).getLast?.getD (-1) := by
  unfold aroundL
  rw [stack_at hn]
end Go.Proofs.YtofjodppljnlaaaGreatDoor
namespace Go.Proofs.YtofjodppljnlaaaGreatDoor
open Go.RowKit
set_option linter.unusedVariables false
set_option linter.unusedSimpArgs false
/-- Is a mark in a set? -/
def bitP (set m : Int) : Prop := (m = 1 ∧ (set = 1 ∨ set = 3)) ∨ (m = 2 ∧ (set = 2 ∨ set = 3)) ∨ (m = 4 ∧ set = 4)
instance (set m : Int) : Decidable (bitP set m) := by unfold bitP; infer_instance
end Go.Proofs.YtofjodppljnlaaaGreatDoor
namespace Go.Proofs.YtofjodppljnlaaaGreatDoor
open Go.RowKit
set_option linter.unusedVariables false
set_option linter.unusedSimpArgs false
def hasP (set m : Int) : Prop := markOne m ∧ (0 ≤ set ∧ set ≤ 4) ∧ bitP set m
instance (set m : Int) : Decidable (hasP set m) := by unfold hasP; infer_instance
end Go.Proofs.YtofjodppljnlaaaGreatDoor
namespace Go.Proofs.YtofjodppljnlaaaGreatDoor
open Go.RowKit
set_option linter.unusedVariables false
set_option linter.unusedSimpArgs false
end Go.Proofs.YtofjodppljnlaaaGreatDoor
namespace Go.Proofs.YtofjodppljnlaaaGreatDoor
open Go.RowKit
set_option linter.unusedVariables false
set_option linter.unusedSimpArgs false
/-- How deep behind a piece that begins so deep; none: it falls below. -/
def dpt : Nat → List Tok → Option Nat
  | n, [] => some n
  | n, x :: r => if x.k = 1 then dpt (n + 1) r else if x.k = 2 then (if n = 0 then none else dpt (n - 1) r) else dpt n r
theorem dpt_app : ∀ (a b : List Tok) (n : Nat), dpt n (a ++ b) = (dpt n a).bind (fun m => dpt m b) := by
  intro a b
  induction a with
  | nil => intro n; rfl
  | cons x r ih =>
    intro n
    rw [List.cons_append, dpt, dpt]
    split
    · exact ih _
    · split
      · split
        · rfl
        · exact ih _
      · exact ih _
theorem dpt_fc : ∀ (l : List Tok) (n m : Nat), fcRun n l = some m → dpt n l = some m := by
  intro l
  induction l with
  | nil => intro n m h; exact h
  | cons x r ih =>
    intro n m h
    unfold fcRun at h
    unfold dpt
    split at h
    · cases h
    · by_cases h2 : x.k = 2
      · rw [if_pos h2] at h
        rw [if_neg (by omega), if_pos h2]
        split at h
        · cases h
        · rename_i h0
          rw [if_neg h0]
          exact ih _ _ h
      · rw [if_neg h2] at h
        by_cases h1 : x.k = 1
        · rw [if_pos h1] at h ⊢
          split at h
          · cases h
          · exact ih _ _ h
        · rw [if_neg h1] at h
          rw [if_neg h1, if_neg h2]
          exact ih _ _ h
theorem dpt_up : ∀ (B : List Tok) (a b n : Nat), dpt a B = some b → dpt (a + n) B = some (b + n) := by
  intro B
  induction B with
  | nil =>
    intro a b n h
    simp only [dpt, Option.some.injEq] at h ⊢
    omega
  | cons x r ih =>
    intro a b n h
    unfold dpt at h ⊢
    by_cases h1 : x.k = 1
    · rw [if_pos h1] at h ⊢
      have := ih _ _ n h
      rwa [show a + 1 + n = a + n + 1 by omega] at this
    · rw [if_neg h1] at h ⊢
      by_cases h2 : x.k = 2
      · rw [if_pos h2] at h ⊢
        split at h
        · cases h
        · rename_i h0
          rw [if_neg (by omega)]
          have := ih _ _ n h
          rwa [show a - 1 + n = a + n - 1 by omega] at this
      · rw [if_neg h2] at h ⊢
        exact ih _ _ n h
/-- The same of the places. -/
theorem dpt_stk : ∀ (B : List Tok) (a b : Nat), dpt a B = some b → ∀ (k : Nat) (u : List Int), u.length = a → ∀ S : List Int, stkGo k B (S ++ u) = S ++ stkGo k B u ∧ (stkGo k B u).length = b := by
  intro B
  induction B with
  | nil =>
    intro a b h k u hu S
    simp only [dpt, Option.some.injEq] at h
    exact ⟨rfl, by simp only [stkGo]; omega⟩
  | cons x r ih =>
    intro a b h k u hu S
    unfold dpt at h
    simp only [stkGo, stkStep]
    by_cases h1 : x.k = 1
    · rw [if_pos h1] at h
      simp only [if_pos h1, List.append_assoc]
      exact ih _ _ h _ _ (by simp [hu]) S
    · rw [if_neg h1] at h
      simp only [if_neg h1]
      by_cases h2 : x.k = 2
      · rw [if_pos h2] at h
        split at h
        · cases h
        · rename_i h0
          simp only [if_pos h2]
          have hne : u ≠ [] := by intro e; subst e; simp at hu; omega
          rw [List.dropLast_append_of_ne_nil hne]
          exact ih _ _ h _ _ (by rw [List.length_dropLast]; omega) S
      · rw [if_neg h2] at h
        simp only [if_neg h2]
        exact ih _ _ h _ _ hu S
theorem pt_split : ∀ (L : List Tok) (n j k : Nat), ptGo j ((n : Int) + 1) L = some k → ∃ B c R, L = B ++ c :: R ∧ c.k = 2 ∧ dpt n B = some 0 ∧ k = j + B.length := by
  intro L
  induction L with
  | nil => intro n j k h; cases h
  | cons x r ih =>
    intro n j k h
    rw [ptGo] at h
    by_cases h1 : x.k = 1
    · rw [if_pos h1] at h
      have h' : ptGo (j + 1) (((n + 1 : Nat) : Int) + 1) r = some k := by rw [show ((n + 1 : Nat) : Int) + 1 = (n : Int) + 1 + 1 by omega]; exact h
      obtain ⟨B, c, R, rfl, hc, hB, hk⟩ := ih _ _ _ h'
      exact ⟨x :: B, c, R, rfl, hc, by rw [dpt, if_pos h1]; exact hB, by simp; omega⟩
    · rw [if_neg h1] at h
      by_cases h2 : x.k = 2
      · rw [if_pos h2] at h
        split at h
        · simp only [Option.some.injEq] at h
          exact ⟨[], x, r, rfl, h2, by rw [dpt]; congr 1; omega, by simp; omega⟩
        · have h' : ptGo (j + 1) (((n - 1 : Nat) : Int) + 1) r = some k := by rw [show ((n - 1 : Nat) : Int) + 1 = (n : Int) + 1 - 1 by omega]; exact h
          obtain ⟨B, c, R, rfl, hc, hB, hk⟩ := ih _ _ _ h'
          exact ⟨x :: B, c, R, rfl, hc, by rw [dpt, if_neg h1, if_pos h2, if_neg (by omega)]; exact hB, by simp; omega⟩
      · rw [if_neg h2] at h
        obtain ⟨B, c, R, rfl, hc, hB, hk⟩ := ih _ _ _ h
        exact ⟨x :: B, c, R, rfl, hc, by rw [dpt, if_neg h1, if_neg h2]; exact hB, by simp; omega⟩
theorem stk_snoc {l : List Tok} {n : Nat} {x : Tok} (hx : l[n]? = some x) : stkGo 0 (l.take (n + 1)) [] = stkStep n x (stkGo 0 (l.take n) []) := by
  have hn := (List.getElem?_eq_some_iff.1 hx).1
  have : l.take (n + 1) = l.take n ++ [x] := by rw [List.take_add_one, hx]; rfl
  rw [this, stkGo_app]
  simp only [stkGo, List.length_take, Nat.zero_add]
  rw [Nat.min_eq_left (by omega)]
/-- Of a document: the innermost that is open, and what stands behind it. -/
theorem around_piece {l : List Tok} (hd : dpt 0 l = some 0) : ∀ (n : Nat), n ≤ l.length → ∀ (s : List Int) (p : Int), stkGo 0 (l.take n) [] = s ++ [p] → ∃ (i : Nat) (o : Tok) (B : List Tok), p = i ∧ i < n ∧ l[i]? = some o ∧ o.k = 1 ∧ l.take n = l.take i ++ o :: B ∧ dpt 0 B = some 0 ∧ stkGo 0 (l.take i) [] = s := by
  intro n
  induction n using Nat.strongRecOn with
  | _ n ih =>
    intro hn s p hs
    cases n with
    | zero => simp [stkGo] at hs
    | succ n =>
      obtain ⟨x, hx⟩ : ∃ x, l[n]? = some x := ⟨_, List.getElem?_eq_getElem (by omega)⟩
      have htk : l.take (n + 1) = l.take n ++ [x] := by rw [List.take_add_one, hx]; rfl
      rw [stk_snoc hx] at hs
      unfold stkStep at hs
      by_cases h1 : x.k = 1
      · rw [if_pos h1] at hs
        obtain ⟨rfl, h2⟩ := List.append_inj' hs rfl
        simp only [List.cons.injEq, and_true] at h2
        exact ⟨n, x, [], h2.symm, by omega, hx, h1, htk, rfl, rfl⟩
      · rw [if_neg h1] at hs
        by_cases h2 : x.k = 2
        · rw [if_pos h2] at hs
          -- one is open ahead of it
          have hd2 := hd
          rw [← List.take_append_drop n l, dpt_app] at hd2
          obtain ⟨m, hm, hm2⟩ := Option.bind_eq_some_iff.1 hd2
          rw [drop_cons hx, dpt, if_neg h1, if_pos h2] at hm2
          have hm0 : m ≠ 0 := by intro e; rw [if_pos e] at hm2; cases hm2
          obtain ⟨_, hlen⟩ := dpt_stk (l.take n) 0 m hm 0 [] rfl []
          have hne : stkGo 0 (l.take n) [] ≠ [] := by intro e; rw [e] at hlen; simp at hlen; omega
          have hlast := List.dropLast_concat_getLast hne
          rw [hs] at hlast
          obtain ⟨i, o, B, hi, hin, hio, ho1, hpi, hB, hsi⟩ := ih n (by omega) (by omega) (s ++ [p]) _ hlast.symm
          obtain ⟨i2, o2, B2, hi2, hin2, hio2, ho2, hpi2, hB2, hsi2⟩ := ih i (by omega) (by omega) s p hsi
          refine ⟨i2, o2, B2 ++ o :: (B ++ [x]), hi2, by omega, hio2, ho2, ?_, ?_, hsi2⟩
          · rw [htk, hpi, hpi2]
            simp
          · rw [dpt_app, hB2]
            simp only [Option.bind_some]
            rw [dpt, if_pos ho1, dpt_app]
            have := dpt_up B 0 0 1 hB
            simp only [Nat.zero_add] at this ⊢
            rw [this]
            simp only [Option.bind_some]
            rw [dpt, if_neg h1, if_pos h2, if_neg (by decide)]
            rfl
        · rw [if_neg h2] at hs
          obtain ⟨i, o, B, hi, hin, hio, ho1, hpi, hB, hsi⟩ := ih n (by omega) (by omega) s p hs
          refine ⟨i, o, B ++ [x], hi, by omega, hio, ho1, by rw [htk, hpi]; simp, ?_, hsi⟩
          rw [dpt_app, hB]
          simp only [Option.bind_some]
          rw [dpt, if_neg h1, if_neg h2]
          rfl
end Go.Proofs.YtofjodppljnlaaaGreatDoor
namespace Go.Proofs.YtofjodppljnlaaaGreatDoor
open Go.RowKit
set_option linter.unusedVariables false
set_option linter.unusedSimpArgs false
set_option maxRecDepth 100000 in
set_option maxHeartbeats 4000000 in
theorem Check4_calls {F : Nat → Prop} {A : Option Addr} {c : Nat} {l : List Tok} {w : World} (hr : tokR.row w F A l) (hb : l.length ≤ 1048576 * 4) :
    Calls Tryz.prog 68 #[.slice A l.length c] w fun e w' => e = .returned (.tuple #[.int .i64 (flatCheck l).1, .int .i64 (flatCheck l).2]) ∧ Pure w w' := by
  by_cases hbig : l.length > 2048
  · have he : flatCheck l = (0, 2) := by unfold flatCheck; rw [if_pos hbig]
    rw [he]
    have hgt : ((l.length : Int) > 2048) := by omega
    clear hbig
    go_enter Tryz.func68, Tryz.ntmps68
    go_wp2
    go_ret2
    exact ⟨rfl, Upd.refl _ _⟩
  · have hE : flatCheck l = fcGo 0 0 l := by unfold flatCheck; rw [if_neg hbig]
    rw [hE]
    have hgt : ¬ ((l.length : Int) > 2048) := by omega
    have HR := As.mk hr
    clear hr hbig hE
    generalize hT : fcGo 0 0 l = T
    go_enter Tryz.func68, Tryz.ntmps68
    go_wp2
    go_loopg [4, 5] l.length (fun g d i wr => ∃ k n : Nat, k + g = l.length ∧ d = .int .i64 n ∧ i = .int .i64 k ∧ n ≤ 32 ∧ As (fcGo k n (l.drop k) = T) ∧ As (Pure w wr))
    case atStart => exact ⟨0, 0, by omega, rfl, rfl, by omega, ⟨hT⟩, ⟨Upd.refl _ _⟩⟩
    case round =>
      obtain ⟨k, n, hk, rfl, rfl, hn, HS, HP⟩ := hrel
      by_cases hlt : k < l.length
      · obtain ⟨g1, rfl⟩ : ∃ m, gk = m + 1 := ⟨gk - 1, by omega⟩
        obtain ⟨x, hx⟩ : ∃ x, l[k]? = some x := ⟨_, List.getElem?_eq_getElem hlt⟩
        obtain ⟨b, o, rfl, hF, hbl, c0, c1, c2, c3⟩ := tok_at (Rp.row_pure HR.out HP.out) hx
        have hst := HS.out
        rw [drop_cons hx] at hst
        unfold fcGo at hst
        have HK := As.mk hk
        have HFR := As.mk (fun W (b : Bool) (h : rightB x = b) => flatRight4_is h W)
        have hbb : b < wr.heap.size := hbl
        have HTC := As.mk (fun v (hu : Pure wr v) => (hu.cell (b := b) (o := o + k * 4) hbb (fun h => h)).trans c0)
        clear hx hk HS hF
        cases hrt : rightB x
        · rw [if_pos (.inl hrt)] at hst
          subst hst
          have HR1 := As.mk hrt
          clear hrt
          go_wp2_with (go_at_call 97; refine (HFR.out _ _ HR1.out).mono ?_; rintro r w1 ⟨rfl, hu⟩; have HU1 := As.mk hu; clear hu)
          go_ret2
          exact ⟨rfl, HP.out.trans HU1.out (fun _ _ h => h)⟩
        · have HR1 := As.mk hrt
          by_cases h2 : x.k = 2
          · have e1 : (x.k == 1) = false := by simp [h2]
            have e2 : (x.k == 2) = true := by simp [h2]
            by_cases h0 : n = 0
            · rw [if_pos (.inr ⟨h2, h0⟩)] at hst
              subst hst h0
              clear hrt h2
              go_wp2_with (go_at_call 97; refine (HFR.out _ _ HR1.out).mono ?_; rintro r w1 ⟨rfl, hu⟩; have d0 := HTC.out _ hu; have HU1 := As.mk hu; clear hu)
              go_ret2
              exact ⟨rfl, HP.out.trans HU1.out (fun _ _ h => h)⟩
            · rw [if_neg (by simp [hrt, h0]), if_neg (by omega), if_pos h2] at hst
              have HV := As.mk hst
              have e3 : ((n : Int) == 0) = false := by simp; omega
              have e4 : decide ((32 : Int) < (n : Int) - 1) = false := by simp; omega
              have hw1 : IntKind.i64.wrap ((n : Int) - 1) = (n : Int) - 1 := IntWalk.i64_in _ (by omega)
              have i3 : ¬ ((32 : Int) < (n : Int) - 1) := by omega
              have i5 : (n == 0) = false := by simpa using h0
              have HN := As.mk h0
              clear hst hrt h2 h0
              go_wp2_with (go_at_call 97; refine (HFR.out _ _ HR1.out).mono ?_; rintro r w1 ⟨rfl, hu⟩; have d0 := HTC.out _ hu; have HU1 := As.mk hu; clear hu)
              go_roundg g1
              case measure => omega
              case rel => exact ⟨k + 1, n - 1, by have := HK.out; omega, by congr 1; have := HN.out; omega, by go_num, by omega, HV, ⟨HP.out.trans HU1.out (fun _ _ h => h)⟩⟩
          · have e2 : (x.k == 2) = false := by simpa using h2
            rw [if_neg (by simp [hrt, h2])] at hst
            by_cases h1 : x.k = 1
            · have e1 : (x.k == 1) = true := by simpa using h1
              rw [if_pos h1] at hst
              have hw1 : IntKind.i64.wrap ((n : Int) + 1) = (n : Int) + 1 := IntWalk.i64_in _ (by omega)
              by_cases h32 : n = 32
              · rw [if_pos h32] at hst
                subst hst h32
                clear hrt h2 h1
                go_wp2_with (go_at_call 97; refine (HFR.out _ _ HR1.out).mono ?_; rintro r w1 ⟨rfl, hu⟩; have d0 := HTC.out _ hu; have HU1 := As.mk hu; clear hu)
                go_ret2
                exact ⟨rfl, HP.out.trans HU1.out (fun _ _ h => h)⟩
              · rw [if_neg h32] at hst
                have HV := As.mk hst
                have i3 : ¬ ((32 : Int) < (n : Int) + 1) := by omega
                have i4 : ((n : Int) + 1 ≤ 32) := by omega
                have HN := As.mk h32
                clear hst hrt h2 h1 h32
                go_wp2_with (go_at_call 97; refine (HFR.out _ _ HR1.out).mono ?_; rintro r w1 ⟨rfl, hu⟩; have d0 := HTC.out _ hu; have HU1 := As.mk hu; clear hu)
                go_roundg g1
                case measure => omega
                case rel => exact ⟨k + 1, n + 1, by have := HK.out; omega, by go_num, by go_num, by have := HN.out; omega, HV, ⟨HP.out.trans HU1.out (fun _ _ h => h)⟩⟩
            · have e1 : (x.k == 1) = false := by simpa using h1
              rw [if_neg h1, if_neg h2] at hst
              have HV := As.mk hst
              have i3 : ¬ ((32 : Int) < (n : Int)) := by omega
              clear hst hrt h2 h1
              go_wp2_with (go_at_call 97; refine (HFR.out _ _ HR1.out).mono ?_; rintro r w1 ⟨rfl, hu⟩; have d0 := HTC.out _ hu; have HU1 := As.mk hu; clear hu)
              go_roundg g1
              case measure => omega
              case rel => exact ⟨k + 1, n, by have := HK.out; omega, rfl, by go_num, hn, HV, ⟨HP.out.trans HU1.out (fun _ _ h => h)⟩⟩
      · obtain rfl : k = l.length := by omega
        have hst := HS.out
        rw [List.drop_length] at hst
        unfold fcGo at hst
        clear HS
        by_cases h0 : n = 0
        · subst h0
          rw [if_pos rfl] at hst
          subst hst
          go_wp2
          go_ret2
          exact ⟨rfl, HP.out⟩
        · rw [if_neg h0] at hst
          subst hst
          have i3 : (0 : Int) < (n : Int) := by omega
          have i4 : 0 < n := by omega
          go_wp2
          go_ret2
          exact ⟨rfl, HP.out⟩
set_option maxRecDepth 100000 in
set_option maxHeartbeats 4000000 in
theorem open4_calls {F : Nat → Prop} {A : Option Addr} {c : Nat} {l : List Tok} {at' : Int} {w : World} (hr : tokR.row w F A l) (hb : l.length ≤ 1048576 * 4) (hlc : l.length ≤ c) :
    Calls Tryz.prog 137 #[.slice A l.length c, .int .i64 at'] w fun e w' => ∃ v, e = .returned v ∧ intRS.own 3 w' (fun k => w.heap.size ≤ k) v (stackL l at') ∧ Pure w w' := by
  have HR := As.mk hr
  clear hr
  by_cases h1 : at' > l.length
  · have HE := As.mk (show stackL l at' = [] by unfold stackL; rw [if_pos h1])
    have h2 : decide (at' ≤ (l.length : Int)) = false := decide_eq_false (by omega)
    have h3 : decide ((0 : Int) < at') = true := decide_eq_true (by omega)
    clear h1
    by_cases hz : l.length = 0
    · have hz2 : decide ((0 : Int) < (l.length : Int)) = false := decide_eq_false (by omega)
      have hz3 : decide (0 < l.length) = false := decide_eq_false (by omega)
      go_enter Tryz.func137, Tryz.ntmps137
      go_wp2
      go_loopg [5, 6] 0 (fun g v i wr => i = .int .i64 0 ∧ v = .slice none 0 0 ∧ As (wr = w))
      case atStart => exact ⟨rfl, rfl, ⟨rfl⟩⟩
      case round =>
        obtain ⟨rfl, rfl, HW⟩ := hrel
        obtain rfl := HW.out
        go_wp2
        go_ret
        exact ⟨_, rfl, by rw [HE.out]; exact Rp.own_nil _ _ _ _, Upd.refl _ _⟩
    · have hz2 : decide ((0 : Int) < (l.length : Int)) = true := decide_eq_true (by omega)
      have hz3 : decide (0 < l.length) = true := decide_eq_true (by omega)
      go_enter Tryz.func137, Tryz.ntmps137
      go_wp2
      go_loopg [5, 6] 0 (fun g v i wr => i = .int .i64 0 ∧ v = .slice none 0 0 ∧ As (wr = w))
      case atStart => exact ⟨rfl, rfl, ⟨rfl⟩⟩
      case round =>
        obtain ⟨rfl, rfl, HW⟩ := hrel
        obtain rfl := HW.out
        go_wp2
        go_ret
        exact ⟨_, rfl, by rw [HE.out]; exact Rp.own_nil _ _ _ _, Upd.refl _ _⟩
  · have HE := As.mk (show stackL l at' = stkGo 0 (l.take (max at' 0).toNat) [] by unfold stackL; rw [if_neg h1])
    by_cases hneg : at' ≤ 0
    · have hE : stackL l at' = [] := by rw [HE.out, show (max at' 0).toNat = 0 by omega]; rfl
      have HE2 := As.mk hE
      have hmx : decide ((0 : Int) < at') = false := by simp; omega
      clear HE hE h1 hneg
      go_enter Tryz.func137, Tryz.ntmps137
      go_wp2
      go_loopg [5, 6] 0 (fun g v i wr => i = .int .i64 0 ∧ v = .slice none 0 0 ∧ As (wr = w))
      case atStart => exact ⟨rfl, rfl, ⟨rfl⟩⟩
      case round =>
        obtain ⟨rfl, rfl, HW⟩ := hrel
        obtain rfl := HW.out
        go_wp2
        go_ret
        exact ⟨_, rfl, by rw [HE2.out]; exact Rp.own_nil _ _ _ _, Upd.refl _ _⟩
    · obtain ⟨m, rfl⟩ : ∃ m : Nat, at' = m := ⟨at'.toNat, by omega⟩
      have hml : m ≤ l.length := by omega
      have hml2 : m ≤ c := by omega
      have hmx : max (m : Int) 0 = m := by omega
      rw [hmx, Int.toNat_natCast] at HE
      have hle : decide ((m : Int) ≤ (l.length : Int)) = true := by simp; omega
      have hle2 : decide (m ≤ l.length) = true := by simp; omega
      clear hneg h1 hmx
      go_enter Tryz.func137, Tryz.ntmps137
      go_wp2
      go_loopg [5, 6] m (fun g v i wr => ∃ k : Nat, k + g = m ∧ i = .int .i64 k ∧ As (StkRel w wr l m k v))
      case atStart => exact ⟨0, by omega, rfl, ⟨[], Rp.own_nil _ _ _ _, by simp, by simp, Upd.refl _ _⟩⟩
      case round =>
        obtain ⟨k, hk, rfl, HS⟩ := hrel
        by_cases hlt : k < m
        · obtain ⟨s, hown, hsl, hse, hp⟩ := HS.out
          obtain ⟨x, hx⟩ : ∃ x, l[k]? = some x := ⟨_, List.getElem?_eq_getElem (by omega)⟩
          have hx2 : (l.take m)[k]? = some x := by rw [List.getElem?_take, if_pos hlt]; exact hx
          obtain ⟨b, o, rfl, hFb, hbw, d0w, _, _, _⟩ := tok_at HR.out hx
          have HD := As.mk (fun v (hu : Pure w v) => (hu.cell (b := b) (o := o + k * 4) hbw (fun h => h)).trans d0w)
          have d0 := HD.out _ hp
          obtain ⟨g1, rfl⟩ : ∃ m, gk = m + 1 := ⟨gk - 1, by omega⟩
          have hkl : k < l.length := by omega
          have hkl2 : decide ((k : Int) < (l.length : Int)) = true := by simp; omega
          have HX := As.mk (And.intro hx2 (And.intro hsl hse))
          have HO := As.mk hown
          have HP := As.mk hp
          have HK := As.mk hk
          clear hx hx2 hse hown hp hk HS d0w hFb hbw
          by_cases h1 : x.k = 1
          · have e1 : (x.k == 1) = true := by simp [h1]
            have e2 : (x.k == 2) = false := by simp [h1]
            have HST := As.mk (show stkStep k x s = s ++ [(k : Int)] by unfold stkStep; rw [if_pos h1])
            clear h1
            go_wp2_with (at_builtin; refine Rp.own_append intRS HO.out (k : Int) [.int .i64 k] rfl (Fp := fun _ => False) (G := fun q => w.heap.size ≤ q) (fun _ h => h.elim) (fun _ h _ => h) (fun q hq => by have := HP.out.size; omega) rfl _ _ 83 _ 8 rfl Tryz.underlying83 int_infoS rfl (by decide) (by decide) rfl (by simp [Act.eval]) (by omega) ?_; intro v1 w1 ho1 hu1; have HO1 := As.mk ho1; have HU1 := As.mk (Upd.trans HP.out hu1 (fun q hq h => by have := Rp.own_block_lt HO.out q h; omega)); have d0' := HD.out _ HU1.out; clear ho1 hu1)
            go_roundg g1
            case measure => omega
            case rel => exact ⟨k + 1, by have := HK.out; omega, by go_num, ⟨StkRel.step HX.out.1 HX.out.2.1 HX.out.2.2 (by rw [HST.out]; exact HO1.out) HU1.out⟩⟩
          · have e1 : (x.k == 1) = false := by simp [h1]
            by_cases h2 : x.k = 2
            · have e2 : (x.k == 2) = true := by simp [h2]
              have HST := As.mk (show stkStep k x s = s.dropLast by unfold stkStep; rw [if_neg h1, if_pos h2])
              clear h1 h2
              by_cases hs : s = []
              · subst hs
                rcases Rp.own_nil_val HO.out with rfl | ⟨a, cc, rfl⟩
                all_goals
                  go_wp2
                  go_roundg g1
                  case measure => omega
                  case rel => exact ⟨k + 1, by have := HK.out; omega, by go_num, ⟨StkRel.step HX.out.1 HX.out.2.1 HX.out.2.2 (by rw [HST.out]; exact HO.out) HP.out⟩⟩
              · obtain ⟨a, cc, rfl⟩ := Rp.own_val HO.out hs
                obtain ⟨n, hn⟩ : ∃ n, s.length = n + 1 := ⟨s.length - 1, by have := List.length_pos_iff.2 hs; omega⟩
                have hcut := Rp.own_take HO.out n (by omega)
                have hdl : s.take n = s.dropLast := by rw [List.dropLast_eq_take, hn]; rfl
                rw [hdl, ← HST.out] at hcut
                have HC := As.mk hcut
                obtain ⟨A1, c1, hv1, hle1, _⟩ := Rp.own_slice HO.out
                simp only [Value.slice.injEq] at hv1
                have hnc : n + 1 ≤ cc := by omega
                rw [hn]
                clear hcut hdl hs hv1 hle1
                go_wp2
                go_roundg g1
                case measure => omega
                case rel => exact ⟨k + 1, by have := HK.out; omega, by go_num, ⟨StkRel.step HX.out.1 HX.out.2.1 HX.out.2.2 HC.out HP.out⟩⟩
            · have e2 : (x.k == 2) = false := by simp [h2]
              have HST := As.mk (show stkStep k x s = s by unfold stkStep; rw [if_neg h1, if_neg h2])
              clear h1 h2
              go_wp2
              go_roundg g1
              case measure => omega
              case rel => exact ⟨k + 1, by have := HK.out; omega, by go_num, ⟨StkRel.step HX.out.1 HX.out.2.1 HX.out.2.2 (by rw [HST.out]; exact HO.out) HP.out⟩⟩
        · obtain rfl : k = m := by omega
          have hkk : decide ((k : Int) < (k : Int)) = false := by simp
          go_wp2
          go_ret
          obtain ⟨s, hown, hsl, hse, hp⟩ := HS.out
          refine ⟨_, rfl, ?_, hp⟩
          rw [List.drop_eq_nil_of_le (by rw [List.length_take]; omega)] at hse
          rw [HE.out, ← hse]
          exact hown
set_option maxRecDepth 100000 in
set_option maxHeartbeats 4000000 in
theorem around4_calls {F : Nat → Prop} {A : Option Addr} {c : Nat} {l : List Tok} {at' : Int} {w : World} (hr : tokR.row w F A l) (hb : l.length ≤ 1048576 * 4) (hlc : l.length ≤ c) :
    Calls Tryz.prog 74 #[.slice A l.length c, .int .i64 at'] w fun e w' => e = .returned (.int .i64 (aroundL l at')) ∧ Pure w w' := by
  have HC := As.mk (open4_calls (at' := at') hr hb hlc)
  have HE := As.mk (show aroundL l at' = (stackL l at').getLast?.getD (-1) from rfl)
  have hsl := stackL_len l at'
  clear hr
  generalize stackL l at' = s at *
  generalize aroundL l at' = r at *
  go_enter Tryz.func74, Tryz.ntmps74
  go_wp2_with (go_at_call 137; refine HC.out.mono ?_; rintro e w1 ⟨v, rfl, ho, hu⟩; have HO := As.mk ho; have HU := As.mk hu; clear ho hu; apply As.out)
  refine ⟨?_⟩
  by_cases hs : s = []
  · subst hs
    obtain ⟨A1, c1, rfl, hle, _⟩ := Rp.own_slice HO.out
    go_wp2
    go_ret
    exact ⟨by rw [HE.out]; rfl, HU.out⟩
  · obtain ⟨a, cc, rfl⟩ := Rp.own_val HO.out hs
    obtain ⟨n, hn⟩ : ∃ n, s.length = n + 1 := ⟨s.length - 1, by have := List.length_pos_iff.2 hs; omega⟩
    obtain ⟨x, hx⟩ : ∃ x, s[n]? = some x := ⟨_, List.getElem?_eq_getElem (by omega)⟩
    obtain ⟨b, rfl, hbb, hc⟩ := int_own_at HO.out hx
    have hlast : s.getLast?.getD (-1) = x := by rw [List.getLast?_eq_getElem?, hn]; simp [hx]
    rw [hlast] at HE
    rw [hn]
    clear hs hlast hx
    go_wp2
    go_ret
    exact ⟨by rw [HE.out]; rfl, HU.out⟩
/-- Behind what is open, so deep in it: is it the innermost? -/
theorem around_rel {l : List Tok} {i m n : Nat} {o : Tok} (hi : l[i]? = some o) (h1 : o.k = 1) (hm : i + 1 + m ≤ l.length) (hd : dpt 0 ((l.drop (i + 1)).take m) = some n) : aroundL l ((i + 1 + m : Nat) : Int) = (i : Int) ↔ n = 0 := by
  have hil := (List.getElem?_eq_some_iff.1 hi).1
  have htk : l.take (i + 1 + m) = l.take i ++ o :: (l.drop (i + 1)).take m := by
    rw [List.take_add, List.take_add_one, hi]
    simp
  have hli : (l.take i).length = i := by rw [List.length_take]; omega
  rw [around_at hm, htk, stkGo_app]
  simp only [stkGo, stkStep, if_pos h1, Nat.zero_add, hli]
  obtain ⟨e1, e2⟩ := dpt_stk ((l.drop (i + 1)).take m) 0 n hd (i + 1) [] rfl (stkGo 0 (l.take i) [] ++ [(i : Int)])
  rw [List.append_nil] at e1
  rw [e1]
  constructor
  · intro h
    rcases Nat.eq_zero_or_pos n with h0 | h0
    · exact h0
    · exfalso
      have hne : stkGo (i + 1) ((l.drop (i + 1)).take m) [] ≠ [] := by intro e; rw [e] at e2; simp at e2; omega
      rw [List.getLast?_append, List.getLast?_eq_some_getLast hne, Option.some_or, Option.getD_some] at h
      have hmem := List.getLast_mem hne
      rw [h] at hmem
      rcases stkGo_mem _ _ _ _ hmem with h9 | ⟨j, x, h9, _⟩
      · cases h9
      · omega
  · intro h0
    subst h0
    rw [List.eq_nil_of_length_eq_zero e2, List.append_nil]
    simp
set_option maxRecDepth 100000 in
set_option maxHeartbeats 4000000 in
theorem Partner4_open {F : Nat → Prop} {A : Option Addr} {c : Nat} {l : List Tok} {w : World} {i : Nat} {y : Tok} (hr : tokR.row w F A l) (hb : l.length ≤ 1048576 * 4) (hlc : l.length ≤ c) (hy : l[i]? = some y) (h1 : y.k = 1) :
    Calls Tryz.prog 77 #[.slice A l.length c, .int .i64 i] w fun e w' => e = .returned (.int .i64 (partL l i)) ∧ Pure w w' := by
  have HR := As.mk hr
  have HA := As.mk (fun W (hu : Pure w W) (q : Int) => around4_calls (c := c) (at' := q) (Rp.row_pure hr hu) hb hlc)
  have hil : i < l.length := (List.getElem?_eq_some_iff.1 hy).1
  obtain ⟨bA, oA, rfl, _, hby, f0, f1, f2, f3⟩ := tok_at hr hy
  rw [h1] at f0
  have t1 : decide ((i : Int) < 0) = false := by simp
  have t2 : decide ((i : Int) ≥ (l.length : Int)) = false := by simp; omega
  have t6 : decide (l.length ≤ i) = false := by simp; omega
  have hw0 : IntKind.i64.wrap ((i : Int) + 1) = (i : Int) + 1 := IntWalk.i64_in _ (by omega)
  have HREL := As.mk (fun (m n : Nat) (hm : i + 1 + m ≤ l.length) (hd : dpt 0 ((l.drop (i + 1)).take m) = some n) => around_rel hy h1 hm hd)
  have HPT := As.mk (show partL l i = match ptGo 1 1 (l.drop (i + 1)) with | some q => (i : Int) + q | none => -1 by
    unfold partL
    rw [drop_cons hy, ptGo, if_pos h1]
    rfl)
  clear hr hy h1
  go_enter Tryz.func77, Tryz.ntmps77
  go_wp2
  go_loopg [5] (l.length - (i + 1)) (fun g kv wr => ∃ m n : Nat, m + g = l.length - (i + 1) ∧ kv = .int .i64 ((i + 1 + m : Nat) : Int) ∧ As (dpt 0 ((l.drop (i + 1)).take m) = some n) ∧ As (ptGo (m + 1) ((n : Int) + 1) (l.drop (i + 1 + m)) = ptGo 1 1 (l.drop (i + 1))) ∧ As (Pure w wr))
  case atStart => exact ⟨0, 0, by omega, by go_num, ⟨rfl⟩, ⟨by simp⟩, ⟨Upd.refl _ _⟩⟩
  case round =>
    obtain ⟨m, n, hm, rfl, HD, HT, HP⟩ := hrel
    by_cases hlt : i + 1 + m < l.length
    · obtain ⟨g1, rfl⟩ : ∃ m, gk = m + 1 := ⟨gk - 1, by omega⟩
      obtain ⟨x, hx⟩ : ∃ x, l[i + 1 + m]? = some x := ⟨_, List.getElem?_eq_getElem hlt⟩
      obtain ⟨b, o, hA, hFb, hbb, d0, d1, d2, d3⟩ := tok_at (Rp.row_pure HR.out HP.out) hx
      simp only [Option.some.injEq, Addr.mk.injEq, and_true] at hA
      obtain ⟨rfl, rfl⟩ := hA
      have hrl := HREL.out m n (by omega) HD.out
      have hpt := HT.out
      rw [drop_cons hx, ptGo] at hpt
      have hdx : dpt 0 ((l.drop (i + 1)).take (m + 1)) = (dpt 0 ((l.drop (i + 1)).take m)).bind (fun q => dpt q [x]) := by
        rw [List.take_add_one, List.getElem?_drop, hx, dpt_app]
        rfl
      rw [HD.out] at hdx
      simp only [Option.bind_some, dpt] at hdx
      have i5 : ((i + 1 + m : Nat) : Int) < (l.length : Int) := by omega
      have hwk : IntKind.i64.wrap (((i + 1 + m : Nat) : Int) + 1) = ((i + 1 + (m + 1) : Nat) : Int) := by rw [IntWalk.i64_in _ (by omega)]; omega
      have HM := As.mk hm
      generalize hq : i + 1 + m = q at *
      have HQ := As.mk hq
      clear hx hFb HT HD hm hq
      by_cases h1 : x.k = 1
      · have e1 : (x.k == 2) = false := by simp [h1]
        rw [if_pos h1] at hpt hdx
        have HV := As.mk (And.intro hpt hdx)
        clear hpt hdx h1 hrl
        go_wp2
        go_roundg g1
        case measure => omega
        case rel => exact ⟨m + 1, n + 1, by have := HM.out; omega, by have h9 := HQ.out; congr 1 <;> omega, ⟨HV.out.2⟩, ⟨by rw [← HV.out.1, ← HQ.out]; congr 1 <;> omega⟩, HP⟩
      · rw [if_neg h1] at hpt hdx
        by_cases h2 : x.k = 2
        · have e1 : (x.k == 2) = true := by simp [h2]
          rw [if_pos h2] at hpt hdx
          by_cases hn : n = 0
          · have ha : aroundL l (q : Int) = (i : Int) := hrl.2 hn
            subst hn
            rw [if_pos (by omega)] at hpt
            have HAq := As.mk (fun W (hu : Pure w W) => (by have := HA.out W hu (q : Int); rw [ha] at this; exact this : Calls Tryz.prog 74 #[.slice (some ⟨bA, oA, none⟩) l.length c, .int .i64 (q : Nat)] W fun e w' => e = .returned (.int .i64 (i : Nat)) ∧ Pure W w'))
            have HV := As.mk (show partL l i = (q : Int) by rw [HPT.out, ← hpt]; simp only; have := HQ.out; omega)
            clear hpt hdx h1 h2 hrl ha
            go_wp2_with (go_at_call 74; refine (HAq.out _ HP.out).mono ?_; rintro r w1 ⟨rfl, hu⟩; have HU1 := As.mk hu; clear hu)
            go_ret
            exact ⟨by rw [HV.out]; rfl, HP.out.trans HU1.out (fun _ _ h => h)⟩
          · have ha : ¬ aroundL l (q : Int) = (i : Int) := fun e => hn (hrl.1 e)
            have e3 : (aroundL l (q : Int) == (i : Int)) = false := by simpa using ha
            rw [if_neg (by omega)] at hpt
            rw [if_neg hn] at hdx
            have HV := As.mk (And.intro hpt hdx)
            have HN := As.mk hn
            have HAq := As.mk (fun W (hu : Pure w W) => HA.out W hu (q : Int))
            generalize aroundL l (q : Int) = aq at *
            clear hpt hdx h1 h2 hrl ha hn
            go_wp2_with (go_at_call 74; refine (HAq.out _ HP.out).mono ?_; rintro r w1 ⟨rfl, hu⟩; have HU1 := As.mk hu; clear hu)
            go_roundg g1
            case measure => omega
            case rel => exact ⟨m + 1, n - 1, by have := HM.out; omega, by have h9 := HQ.out; congr 1 <;> omega, ⟨HV.out.2⟩, ⟨by rw [← HV.out.1, ← HQ.out]; have h8 := HN.out; congr 1 <;> omega⟩, ⟨HP.out.trans HU1.out (fun _ _ h => h)⟩⟩
        · have e1 : (x.k == 2) = false := by simp [h2]
          rw [if_neg h2] at hpt hdx
          have HV := As.mk (And.intro hpt hdx)
          clear hpt hdx h1 h2 hrl
          go_wp2
          go_roundg g1
          case measure => omega
          case rel => exact ⟨m + 1, n, by have := HM.out; omega, by have h9 := HQ.out; congr 1 <;> omega, ⟨HV.out.2⟩, ⟨by rw [← HV.out.1, ← HQ.out]; rfl⟩, HP⟩
    · have hml : i + 1 + m = l.length := by omega
      have hpt := HT.out
      rw [List.drop_eq_nil_of_le (by omega)] at hpt
      have HV := As.mk (show partL l i = -1 by rw [HPT.out, ← hpt]; rfl)
      have i5 : ¬ (((i + 1 + m : Nat) : Int) < (l.length : Int)) := by omega
      generalize hq : i + 1 + m = q at *
      clear hpt HT HD
      go_wp2
      go_ret
      exact ⟨by rw [HV.out]; rfl, HP.out⟩
set_option maxRecDepth 100000 in
set_option maxHeartbeats 4000000 in
theorem Partner4_out {A : Option Addr} {c n : Nat} {w : World} {i : Int} (hi : i < 0) :
    Calls Tryz.prog 77 #[.slice A n c, .int .i64 i] w fun e w' => e = .returned (.int .i64 (-1)) ∧ Pure w w' := by
  go_enter Tryz.func77, Tryz.ntmps77
  go_wp2
  go_ret
  exact ⟨rfl, Upd.refl _ _⟩
end Go.Proofs.YtofjodppljnlaaaGreatDoor
