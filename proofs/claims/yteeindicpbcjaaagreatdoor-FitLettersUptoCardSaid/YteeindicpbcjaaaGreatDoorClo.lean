/- fit.Closed and its reference: what they tell. -/
import Derived.Test.YteeindicpbcjaaaGreatDoorFlatC
namespace Go.Proofs.YteeindicpbcjaaaGreatDoor
open Go.RowKit
set_option linter.unusedVariables false
set_option linter.unusedSimpArgs false

abbrev shut : Tok := ⟨2, 0, 0, 0⟩
def cloGo : Nat → List Tok → List Tok
  | d, [] => List.replicate d shut
  | d, t :: r => if t.k = 1 then t :: cloGo (d + 1) r else if t.k = 2 then (if d = 0 then cloGo d r else t :: cloGo (d - 1) r) else t :: cloGo d r
def closed (l : List Tok) : List Tok := cloGo 0 l

def CloRel (w wr : World) (l : List Tok) (k d : Nat) (v : Value) : Prop :=
  ∃ acc : List Tok, tokR.own 40 wr (fun k => w.heap.size ≤ k) v acc ∧ acc.length ≤ k ∧ d ≤ k ∧ acc ++ cloGo d (l.drop k) = closed l ∧ Pure w wr

/-- An element appended to a row of tokens of the call's own. -/
theorem CloRel.push {w w1 : World} {l : List Tok} {k d d' : Nat} {v1 : Value} {x : Tok} {acc : List Tok} (ho1 : tokR.own 40 w1 (fun k => w.heap.size ≤ k) v1 (acc ++ [x])) (hx : l[k]? = some x) (hl : acc.length ≤ k) (hd : d' ≤ k + 1)
    (he : acc ++ cloGo d (l.drop k) = closed l) (hs : cloGo d (x :: l.drop (k + 1)) = x :: cloGo d' (l.drop (k + 1))) (hp : Pure w w1) : CloRel w w1 l (k + 1) d' v1 := by
  refine ⟨acc ++ [x], ho1, by simp; omega, hd, ?_, hp⟩
  rw [List.append_assoc, List.singleton_append, ← hs, ← drop_cons hx]
  exact he

set_option maxRecDepth 100000 in
set_option maxHeartbeats 4000000 in
theorem Closed_calls {F : Nat → Prop} {A : Option Addr} {c : Nat} {l : List Tok} {w : World} (hr : tokR.row w F A l) (hb : l.length ≤ 1048576 * 2) :
    Calls Tryz.prog 58 #[.slice A l.length c] w fun e w' => ∃ v, e = .returned v ∧ tokR.own 40 w' (fun k => w.heap.size ≤ k) v (closed l) ∧ Pure w w' := by
  have HR := As.mk hr
  clear hr
  go_enter Tryz.func58, Tryz.ntmps58
  go_wp2
  go_loopg [3, 4, 9] l.length (fun g v op i wr => ∃ k d : Nat, k + g = l.length ∧ i = .int .i64 k ∧ op = .int .i64 d ∧ d ≤ k ∧ As (CloRel w wr l k d v))
  case atStart => exact ⟨0, 0, by omega, rfl, rfl, by omega, ⟨[], Rp.own_nil _ _ _ _, by simp, by simp, rfl, Upd.refl _ _⟩⟩
  case round =>
    obtain ⟨k, d, hk, rfl, rfl, hd, HC⟩ := hrel
    obtain ⟨acc, hown, hlen, hdk, heq, hp⟩ := HC.out
    by_cases hlt : k < l.length
    · obtain ⟨x, hx⟩ : ∃ x, l[k]? = some x := ⟨_, List.getElem?_eq_getElem hlt⟩
      obtain ⟨b, o, rfl, hF, hbl, c0, c1, c2, c3⟩ := tok_at (Rp.row_pure HR.out hp) hx
      obtain ⟨g1, rfl⟩ : ∃ m, gk = m + 1 := ⟨gk - 1, by omega⟩
      have HO := As.mk hown
      have HX := As.mk hx
      have HE := As.mk heq
      have HP := As.mk hp
      clear hown hx heq hp HC
      have HK := As.mk hk
      clear hk
      by_cases h1 : x.k = 1
      · have e1 : (x.k == 1) = true := by simp [h1]
        have H1 := As.mk h1
        clear h1
        go_wp2_with (at_builtin; refine Rp.own_append tokR (Rp.own_alloc HO.out _) x x.cs rfl (Fp := fun _ => False) (G := fun k => w.heap.size ≤ k) (fun _ h => h.elim) (fun _ h _ => h) (fun k hk => by have := HP.out.size; simp at hk; omega) rfl _ _ 22 _ 32 rfl Tryz.underlying22 tok_info rfl (by decide) (by decide) rfl (by simp [Act.eval]) (by omega) ?_; intro v1 w1 ho1 hu1; have HO1 := As.mk ho1; have HU1 := As.mk (Upd.trans (HP.out.alloc _) hu1 (fun k hk h => by have := Rp.own_block_lt HO.out k h; omega)); clear ho1 hu1)
        go_roundg g1
        case measure => omega
        case rel => exact ⟨k + 1, d + 1, by have := HK.out; omega, by go_num, by first | rfl | go_num | (congr 1; omega), by omega, ⟨CloRel.push HO1.out HX.out hlen (by omega) HE.out (by simp only [cloGo, if_pos H1.out]) HU1.out⟩⟩
      · have e1 : (x.k == 1) = false := by simp [h1]
        have H1 := As.mk h1
        clear h1
        by_cases h2 : x.k = 2
        · have e2 : (x.k == 2) = true := by simp [h2]
          have H2 := As.mk h2
          clear h2
          by_cases h0 : d = 0
          · subst h0
            go_wp2
            go_roundg g1
            case measure => omega
            case rel =>
              exact ⟨k + 1, 0, by have := HK.out; omega, by go_num, rfl, by omega, ⟨acc, Rp.own_alloc HO.out _, by omega, by omega, by
                rw [← HE.out, drop_cons HX.out]
                simp only [cloGo, if_neg H1.out, if_pos H2.out, if_true], HP.out.alloc _⟩⟩
          · have e0 : ((d : Int) == 0) = false := by simp; omega
            have H0 := As.mk h0
            have hd1 : 1 ≤ d := by omega
            clear h0
            go_wp2_with (at_builtin; refine Rp.own_append tokR (Rp.own_alloc HO.out _) x x.cs rfl (Fp := fun _ => False) (G := fun k => w.heap.size ≤ k) (fun _ h => h.elim) (fun _ h _ => h) (fun k hk => by have := HP.out.size; simp at hk; omega) rfl _ _ 22 _ 32 rfl Tryz.underlying22 tok_info rfl (by decide) (by decide) rfl (by simp [Act.eval]) (by omega) ?_; intro v1 w1 ho1 hu1; have HO1 := As.mk ho1; have HU1 := As.mk (Upd.trans (HP.out.alloc _) hu1 (fun k hk h => by have := Rp.own_block_lt HO.out k h; omega)); clear ho1 hu1)
            go_roundg g1
            case measure => omega
            case rel => exact ⟨k + 1, d - 1, by have := HK.out; omega, by go_num, by first | rfl | go_num | (congr 1; omega), by omega, ⟨CloRel.push HO1.out HX.out hlen (by omega) HE.out (by simp only [cloGo, if_neg H1.out, if_pos H2.out, if_neg H0.out]) HU1.out⟩⟩
        · have e2 : (x.k == 2) = false := by simp [h2]
          have H2 := As.mk h2
          clear h2
          go_wp2_with (at_builtin; refine Rp.own_append tokR (Rp.own_alloc HO.out _) x x.cs rfl (Fp := fun _ => False) (G := fun k => w.heap.size ≤ k) (fun _ h => h.elim) (fun _ h _ => h) (fun k hk => by have := HP.out.size; simp at hk; omega) rfl _ _ 22 _ 32 rfl Tryz.underlying22 tok_info rfl (by decide) (by decide) rfl (by simp [Act.eval]) (by omega) ?_; intro v1 w1 ho1 hu1; have HO1 := As.mk ho1; have HU1 := As.mk (Upd.trans (HP.out.alloc _) hu1 (fun k hk h => by have := Rp.own_block_lt HO.out k h; omega)); clear ho1 hu1)
          go_roundg g1
          case measure => omega
          case rel => exact ⟨k + 1, d, by have := HK.out; omega, by go_num, by first | rfl | go_num | (congr 1; omega), by omega, ⟨CloRel.push HO1.out HX.out hlen (by omega) HE.out (by simp only [cloGo, if_neg H1.out, if_neg H2.out]) HU1.out⟩⟩
    · have hkl : k = l.length := by omega
      subst hkl
      have heq2 : acc ++ List.replicate d shut = closed l := by rw [← heq, List.drop_length]; rfl
      have HO := As.mk hown
      have HE := As.mk heq2
      have HP := As.mk hp
      have HL := As.mk hlen
      clear hown heq2 heq hp HC
      go_wp2
      go_loopg [3, 31] d (fun g v i wx => ∃ (k : Nat) (ac2 : List Tok), k + g = d ∧ i = .int .i64 k ∧ As (tokR.own 40 wx (fun k => w.heap.size ≤ k) v ac2) ∧ As (ac2.length = acc.length + k) ∧ As (ac2 ++ List.replicate g shut = closed l) ∧ As (Pure w wx))
      case atStart => exact ⟨0, acc, by omega, rfl, HO, ⟨rfl⟩, HE, HP⟩
      case round =>
        clear HO HE HP
        obtain ⟨k, ac2, hk, rfl, HO, HL2, HE, HP⟩ := hrel
        cases gk with
        | zero =>
          have hge : ¬ ((k : Int) < (d : Int)) := by omega
          go_wp2
          go_ret
          exact ⟨_, rfl, by have := HE.out; simp at this; rw [← this]; exact HO.out, HP.out⟩
        | succ g1 =>
          have hlt2 : ((k : Int) < (d : Int)) := by omega
          have hl2 : ac2.length ≤ 1048576 * 4 := by have := HL2.out; omega
          have HK := As.mk hk
          clear hk
          go_wp2_with (at_builtin; refine Rp.own_append tokR HO.out shut shut.cs rfl (Fp := fun _ => False) (G := fun k => w.heap.size ≤ k) (fun _ h => h.elim) (fun _ h _ => h) (fun k hk => by have := HP.out.size; omega) rfl _ _ 22 _ 32 rfl Tryz.underlying22 tok_info rfl (by decide) (by decide) rfl (by simp [Act.eval]) (by omega) ?_; intro v1 w1 ho1 hu1; have HO1 := As.mk ho1; have HU1 := As.mk (Upd.trans HP.out hu1 (fun k hk h => by have := Rp.own_block_lt HO.out k h; omega)); clear ho1 hu1)
          go_roundg g1
          case measure => omega
          case rel => exact ⟨k + 1, ac2 ++ [shut], by have := HK.out; omega, by go_num, HO1, ⟨by have := HL2.out; simp; omega⟩, ⟨by rw [← HE.out, List.replicate_succ]; simp⟩, HU1⟩
end Go.Proofs.YteeindicpbcjaaaGreatDoor
