/- schema.Check: what it tells (plain part). -/
import Derived.Test.YteeindicpbcjaaaGreatDoorOpn
import Derived.Test.YteeindicpbcjaaaGreatDoorMay2
import Derived.Test.YteeindicpbcjaaaGreatDoorFlatC
import Derived.Test.YteeindicpbcjaaaGreatDoorAcc
namespace Go.Proofs.YteeindicpbcjaaaGreatDoor
open Go.RowKit
set_option linter.unusedVariables false
set_option linter.unusedSimpArgs false

abbrev Lev := (Spec × Ex) × List Int
def zeroEx : Ex := .mk 0 ⟨#[]⟩ []
def ruleOf (rs : List (Spec × Ex)) (t : Int) : Spec × Ex := (rs[t.toNat]?).getD (zeroSpec, zeroEx)
/-- The level with one more in it: may it be? -/
def stepOk (rs : List (Spec × Ex)) (gs : List Grp) (top : Lev) (x : Tok) : Bool := mayT rs top.1.1 x && decide (top.2.length + 1 ≤ regBegins top.1.2 gs (top.2 ++ [x.t]))
def ckGo (rs : List (Spec × Ex)) (gs : List Grp) : Nat → Lev → List Lev → List Tok → Int × Int
  | i, top, _, [] => (i, if regAccepts top.1.2 gs top.2 = true then 0 else 9)
  | i, top, below, x :: r =>
    if x.k = 2 then
      (if regAccepts top.1.2 gs top.2 = true then (match below with | [] => (i, 9) | p :: q => ckGo rs gs (i + 1) p q r) else (i, 9))
    else if stepOk rs gs top x = true then
      (if x.k = 1 then ckGo rs gs (i + 1) (ruleOf rs x.t, []) ((top.1, top.2 ++ [x.t]) :: below) r else ckGo rs gs (i + 1) (top.1, top.2 ++ [x.t]) below r)
    else (i, 9)
def schemaCheck (rs : List (Spec × Ex)) (gs : List Grp) (l : List Tok) : Int × Int := if (flatCheck l).2 = 0 then ckGo rs gs 0 (ruleOf rs 0, []) [] l else flatCheck l

structure SchOk (rs : List (Spec × Ex)) (gs : List Grp) : Prop where
  ne : rs ≠ []
  len : rs.length ≤ 1000
  wt : ∀ p ∈ rs, p.2.wt ≤ 1048576 * 4
  gl : gs.length ≤ 1048576
  gt : ∀ x ∈ gs, x.types.length ≤ 1048576
theorem SchR.made {w v : World} {rs : List (Spec × Ex)} {gs : List Grp} {A1 AG : Option Addr} {x : Spec} {e : Ex} (hok : SchOk rs gs) (hg : grpR.row w (fun _ => True) AG gs) (hu : Pure w v) (hm : (x, e) ∈ rs) (hx : exR.row v (fun k => k < w.heap.size) A1 e.l) : MadeC v A1 AG e gs :=
  ⟨Rp.row_fp hx (fun k hk => Nat.lt_of_lt_of_le hk hu.size), Rp.row_move (fun k hk hl => ⟨Nat.lt_of_lt_of_le hl hu.size, Nat.lt_of_lt_of_le hl hu.size, hu.block k hl (fun h => h)⟩) hg, hok.wt _ hm, hok.gl, hok.gt⟩

/-- The state at the loop's head: k tokens are gone. -/
structure CkRel (w : World) (rs : List (Spec × Ex)) (gs : List Grp) (l : List Tok) (k b cap : Nat) (rv : List ((Spec × Ex) × Value)) (top : Lev) (below : List Lev) (wr : World) : Prop where
  opn : ∃ ws, Opn w b cap rv ws wr ∧ ws = (top :: below).reverse.map (·.2)
  rules : rv.map (·.1) = (top :: below).reverse.map (·.1)
  go : ckGo rs gs k top below (l.drop k) = schemaCheck rs gs l
  flat : fcGo k below.length (l.drop k) = ((l.length : Int), (0 : Int))
  words : ∀ p ∈ top :: below, p.2.length ≤ k ∧ p.1 ∈ rs
theorem fcGo_at : ∀ (l : List Tok) (i n : Nat), (fcGo i n l).2 = 0 → (fcGo i n l).1 = i + l.length
  | [], i, n, h => by simp [fcGo]
  | t :: r, i, n, h => by
    unfold fcGo at h ⊢
    split at h
    · simp at h
    · rename_i h1
      rw [if_neg h1]
      split at h
      · rename_i h2
        rw [if_pos h2]
        split at h
        · simp at h
        · rename_i h3
          rw [if_neg h3, fcGo_at r _ _ h]
          simp; omega
      · rename_i h2
        rw [if_neg h2]
        split at h
        · rename_i h3
          rw [if_pos h3, fcGo_at r _ _ h]
          simp; omega
        · rename_i h3
          rw [if_neg h3, fcGo_at r _ _ h]
          simp; omega
theorem fcGo_depth : ∀ (l : List Tok) (i n : Nat), (fcGo i n l).2 = 0 → n ≤ l.length
  | [], i, n, h => by
    unfold fcGo at h
    by_cases h0 : n = 0
    · omega
    · simp only [if_neg h0] at h
      omega
  | t :: r, i, n, h => by
    unfold fcGo at h
    split at h
    · simp at h
    · split at h
      · split at h
        · simp at h
        · have := fcGo_depth r _ _ h
          simp; omega
      · split at h
        · have := fcGo_depth r _ _ h
          simp; omega
        · have := fcGo_depth r _ _ h
          simp; omega
theorem CkRel.split {w wr : World} {rs : List (Spec × Ex)} {gs : List Grp} {l : List Tok} {k b cap : Nat} {rv : List ((Spec × Ex) × Value)} {top : Lev} {below : List Lev} (h : CkRel w rs gs l k b cap rv top below wr) : ∃ init v wi, rv = init ++ [(top.1, v)] ∧ init.length = below.length ∧ Opn w b cap (init ++ [(top.1, v)]) (wi ++ [top.2]) wr ∧ init.map (·.1) = below.reverse.map (·.1) ∧ wi = below.reverse.map (·.2) := by
  obtain ⟨⟨ws, ho, hws⟩, hr, _⟩ := h
  rw [List.reverse_cons, List.map_append] at hr hws
  obtain ⟨init, last, rfl, h1, h2⟩ := List.map_eq_append_iff.1 hr
  obtain ⟨y, rfl⟩ : ∃ y, last = [y] := by
    have hl1 : last.length = 1 := by simpa using congrArg List.length h2
    exact List.length_eq_one_iff.1 hl1
  have h2' : y.1 = top.1 := by simpa using h2
  obtain ⟨y1, y2⟩ := y
  simp only at h2'
  subst h2'
  exact ⟨init, y2, _, rfl, by simpa using congrArg List.length h1, by rw [hws] at ho; exact ho, h1, rfl⟩
theorem fc_right {k n : Nat} {x : Tok} {r : List Tok} {L : Int} (h : fcGo k n (x :: r) = (L, 0)) : rightB x = true := by
  unfold fcGo at h
  split at h
  · simp at h
  · rename_i h1
    cases hr : rightB x
    · exact absurd (.inl hr) h1
    · rfl
theorem fc_close {k n : Nat} {x : Tok} {r : List Tok} {L : Int} (h : fcGo k n (x :: r) = (L, 0)) (hk : x.k = 2) : n ≠ 0 ∧ fcGo (k + 1) (n - 1) r = (L, 0) := by
  unfold fcGo at h
  split at h
  · simp at h
  · rename_i h1
    rw [if_neg (by omega)] at h
    exact ⟨fun e => h1 (.inr ⟨hk, e⟩), h⟩
theorem fc_open {k n : Nat} {x : Tok} {r : List Tok} {L : Int} (h : fcGo k n (x :: r) = (L, 0)) (hk : x.k = 1) : n ≠ 32 ∧ fcGo (k + 1) (n + 1) r = (L, 0) := by
  unfold fcGo at h
  split at h
  · simp at h
  · split at h
    · simp at h
    · rename_i h2
      exact ⟨h2, h⟩
theorem fc_else {k n : Nat} {x : Tok} {r : List Tok} {L : Int} (h : fcGo k n (x :: r) = (L, 0)) (h1 : x.k ≠ 1) (h2 : x.k ≠ 2) : fcGo (k + 1) n r = (L, 0) := by
  unfold fcGo at h
  split at h
  · simp at h
  · exact h
theorem ck_close {rs : List (Spec × Ex)} {gs : List Grp} {k : Nat} {top p : Lev} {q : List Lev} {x : Tok} {r : List Tok} (h : x.k = 2) (ha : regAccepts top.1.2 gs top.2 = true) : ckGo rs gs k top (p :: q) (x :: r) = ckGo rs gs (k + 1) p q r := by
  rw [ckGo, if_pos h, if_pos ha]
theorem ck_noclose {rs : List (Spec × Ex)} {gs : List Grp} {k : Nat} {top : Lev} {q : List Lev} {x : Tok} {r : List Tok} (h : x.k = 2) (ha : regAccepts top.1.2 gs top.2 = false) : ckGo rs gs k top q (x :: r) = ((k : Int), (9 : Int)) := by
  rw [ckGo.eq_def]; simp only []; rw [if_pos h, if_neg (by rw [ha]; exact Bool.false_ne_true)]
theorem ck_bad {rs : List (Spec × Ex)} {gs : List Grp} {k : Nat} {top : Lev} {q : List Lev} {x : Tok} {r : List Tok} (h : x.k ≠ 2) (ha : stepOk rs gs top x = false) : ckGo rs gs k top q (x :: r) = ((k : Int), (9 : Int)) := by
  rw [ckGo.eq_def]; simp only []; rw [if_neg h, if_neg (by rw [ha]; exact Bool.false_ne_true)]
theorem ck_open {rs : List (Spec × Ex)} {gs : List Grp} {k : Nat} {top : Lev} {q : List Lev} {x : Tok} {r : List Tok} (h : x.k = 1) (ha : stepOk rs gs top x = true) : ckGo rs gs k top q (x :: r) = ckGo rs gs (k + 1) (ruleOf rs x.t, []) ((top.1, top.2 ++ [x.t]) :: q) r := by
  rw [ckGo.eq_def]; simp only []; rw [if_neg (by omega), if_pos ha, if_pos h]
theorem ck_leaf {rs : List (Spec × Ex)} {gs : List Grp} {k : Nat} {top : Lev} {q : List Lev} {x : Tok} {r : List Tok} (h : x.k ≠ 2) (h1 : x.k ≠ 1) (ha : stepOk rs gs top x = true) : ckGo rs gs k top q (x :: r) = ckGo rs gs (k + 1) (top.1, top.2 ++ [x.t]) q r := by
  rw [ckGo.eq_def]; simp only []; rw [if_neg h, if_pos ha, if_neg h1]
theorem ck_end {rs : List (Spec × Ex)} {gs : List Grp} {k : Nat} {top : Lev} {q : List Lev} : ckGo rs gs k top q [] = ((k : Int), if regAccepts top.1.2 gs top.2 = true then (0 : Int) else 9) := by
  rw [ckGo]
theorem acc_calls {A Bg Aw : Option Addr} {c d cw : Nat} {e : Ex} {g : List Grp} {word : List Int} {w : World} {F : Nat → Prop} (hm : MadeC w A Bg e g) (hw : intR.row w F Aw word) (hb : word.length ≤ 1048576 * 4) :
    Calls Tryz.prog 56 #[.agg #[.int .i64 e.k, .string e.name, .slice A e.l.length c], .slice Bg g.length d, .slice Aw word.length cw] w fun r w' => r = .returned (.bool (regAccepts e g word)) ∧ Pure w w' := by
  cases e
  exact accepts_calls hm hw hb
theorem beg_calls {A Bg Aw : Option Addr} {c d cw : Nat} {e : Ex} {g : List Grp} {word : List Int} {w : World} {F : Nat → Prop} (hm : MadeC w A Bg e g) (hw : intR.row w F Aw word) (hb : word.length ≤ 1048576 * 4) :
    Calls Tryz.prog 55 #[.agg #[.int .i64 e.k, .string e.name, .slice A e.l.length c], .slice Bg g.length d, .slice Aw word.length cw] w fun r w' => r = .returned (.int .i64 (regBegins e g word : Nat)) ∧ Pure w w' := by
  cases e
  exact begins_calls hm hw hb
theorem CkRel.leaf {w W : World} {rs : List (Spec × Ex)} {gs : List Grp} {l : List Tok} {k b cap : Nat} {init : List ((Spec × Ex) × Value)} {r : Spec × Ex} {below : List Lev} {v1 : Value} {wd : List Int} {t : Int} {wi : List (List Int)} (hw : ∀ y ∈ ((r, wd) : Lev) :: below, y.2.length ≤ k ∧ y.1 ∈ rs) (ho : Opn w b cap (init ++ [(r, v1)]) (wi ++ [wd ++ [t]]) W) (him : init.map (·.1) = below.reverse.map (·.1)) (hwi : wi = below.reverse.map (·.2)) (hgo : ckGo rs gs (k + 1) (r, wd ++ [t]) below (l.drop (k + 1)) = schemaCheck rs gs l) (hfl : fcGo (k + 1) below.length (l.drop (k + 1)) = ((l.length : Int), (0 : Int))) : CkRel w rs gs l (k + 1) b cap (init ++ [(r, v1)]) (r, wd ++ [t]) below W :=
  ⟨⟨_, ho, by rw [hwi]; simp⟩, by rw [List.map_append, him]; simp, hgo, hfl, fun y hy => by
    rcases List.mem_cons.1 hy with rfl | hy
    · have h0 : wd.length ≤ k ∧ r ∈ rs := hw (r, wd) List.mem_cons_self
      exact ⟨by simp; omega, h0.2⟩
    · have := hw y (List.mem_cons_of_mem _ hy)
      exact ⟨by omega, this.2⟩⟩
theorem CkRel.opened {w W : World} {rs : List (Spec × Ex)} {gs : List Grp} {l : List Tok} {k b cap : Nat} {init : List ((Spec × Ex) × Value)} {r r2 : Spec × Ex} {below : List Lev} {v1 : Value} {wd : List Int} {t : Int} {wi : List (List Int)} (hw : ∀ y ∈ ((r, wd) : Lev) :: below, y.2.length ≤ k ∧ y.1 ∈ rs) (ho : Opn w b cap (init ++ [(r, v1)] ++ [(r2, .slice none 0 0)]) (wi ++ [wd ++ [t]] ++ [[]]) W) (him : init.map (·.1) = below.reverse.map (·.1)) (hwi : wi = below.reverse.map (·.2)) (hr2 : r2 ∈ rs) (hgo : ckGo rs gs (k + 1) (r2, []) ((r, wd ++ [t]) :: below) (l.drop (k + 1)) = schemaCheck rs gs l) (hfl : fcGo (k + 1) (below.length + 1) (l.drop (k + 1)) = ((l.length : Int), (0 : Int))) : CkRel w rs gs l (k + 1) b cap (init ++ [(r, v1)] ++ [(r2, .slice none 0 0)]) (r2, []) ((r, wd ++ [t]) :: below) W :=
  ⟨⟨_, ho, by rw [hwi]; simp⟩, by rw [List.map_append, List.map_append, him]; simp, hgo, hfl, fun y hy => by
    rcases List.mem_cons.1 hy with rfl | hy
    · exact ⟨Nat.zero_le _, hr2⟩
    · rcases List.mem_cons.1 hy with rfl | hy
      · have h0 : wd.length ≤ k ∧ r ∈ rs := hw (r, wd) List.mem_cons_self
        exact ⟨by simp; omega, h0.2⟩
      · have := hw y (List.mem_cons_of_mem _ hy)
        exact ⟨by omega, this.2⟩⟩
theorem lev_info : (Tryz.prog.info? 104).map (fun i => (i.zero, i.size, i.bytes)) = some (some (.agg #[.string ⟨#[]⟩, .string ⟨#[]⟩, .bool false, .int .i64 0, .int .i64 0, .int .i64 0, .bool false, .int .i64 0, .string ⟨#[]⟩, .slice none 0 0, .slice none 0 0]), 11, 144) := by kernel_rfl
theorem mayT_open {rs : List (Spec × Ex)} {s : Spec} {x : Tok} (h1 : x.k = 1) (h : mayT rs s x = true) : ∃ j : Nat, x.t = j ∧ ∃ y e, rs[j]? = some (y, e) ∧ ruleOf rs x.t = (y, e) := by
  unfold mayT at h
  rw [if_neg (by omega)] at h
  cases hs : specOf rs x.t with
  | none => simp [hs] at h
  | some y =>
    unfold specOf at hs
    split at hs
    · cases hs
    · obtain ⟨z, hz, rfl⟩ := Option.map_eq_some_iff.1 hs
      refine ⟨x.t.toNat, by omega, z.1, z.2, hz, ?_⟩
      unfold ruleOf
      rw [hz]
      rfl
theorem CkRel.closed {w wr w1 : World} {rs : List (Spec × Ex)} {gs : List Grp} {l : List Tok} {k b cap : Nat} {init : List ((Spec × Ex) × Value)} {top p : Lev} {q : List Lev} {v : Value} {wi : List (List Int)} (hw : ∀ y ∈ top :: p :: q, y.2.length ≤ k ∧ y.1 ∈ rs) (ho : Opn w b cap (init ++ [(top.1, v)]) (wi ++ [top.2]) wr) (him : init.map (·.1) = (p :: q).reverse.map (·.1)) (hwi : wi = (p :: q).reverse.map (·.2)) (hgo : ckGo rs gs (k + 1) p q (l.drop (k + 1)) = schemaCheck rs gs l) (hfl : fcGo (k + 1) q.length (l.drop (k + 1)) = ((l.length : Int), (0 : Int))) (hu : Pure wr w1) : CkRel w rs gs l (k + 1) b cap init p q w1 :=
  ⟨⟨wi, ho.take.pure hu, hwi⟩, him, hgo, hfl, fun y hy => by
    have := hw y (by simp only [List.mem_cons] at hy ⊢; exact .inr hy)
    exact ⟨by omega, this.2⟩⟩
end Go.Proofs.YteeindicpbcjaaaGreatDoor
