/- flat.stack, flat.Around. -/
import Derived.Test.YtfapglhdakhbeaaGreatDoorFlatC
namespace Go.Proofs.YtfapglhdakhbeaaGreatDoor
open Go.RowKit
set_option linter.unusedVariables false
set_option linter.unusedSimpArgs false

def stkStep (i : Nat) (x : Tok) (s : List Int) : List Int := if x.k = 1 then s ++ [(i : Int)] else if x.k = 2 then s.dropLast else s
def stkGo : Nat → List Tok → List Int → List Int
  | _, [], s => s
  | i, x :: r, s => stkGo (i + 1) r (stkStep i x s)
/-- The places of what is open at a place. -/
def stackL (l : List Tok) (at' : Int) : List Int := if at' > l.length then [] else stkGo 0 (l.take (max at' 0).toNat) []
def aroundL (l : List Tok) (at' : Int) : Int := (stackL l at').getLast?.getD (-1)

abbrev intRS : Rp Int := Rp.int .i64
theorem int_infoS : (Tryz.prog.info? 3).map (fun i => (i.zero, i.size, i.bytes)) = some (some (.int .i64 0), 1, 8) := by kernel_rfl
theorem Reps.take {α : Type} {R : α → List Value → Prop} {size : Nat} {xs : List α} {cs : List Value} (h : Reps R size xs cs) (k : Nat) (hk : k ≤ xs.length) : Reps R size (xs.take k) (cs.take (k * size)) := by
  have hle : k * size ≤ xs.length * size := Nat.mul_le_mul_right _ hk
  refine ⟨by rw [List.length_take, List.length_take, h.1, Nat.min_eq_left hle, Nat.min_eq_left hk], fun j x hx => ?_⟩
  rw [List.getElem?_take] at hx
  split at hx
  · rename_i hj
    have hle2 : (j + 1) * size ≤ k * size := Nat.mul_le_mul_right _ hj
    rw [Nat.add_mul, Nat.one_mul] at hle2
    rw [List.drop_take, List.take_take, Nat.min_eq_left (by omega)]
    exact h.2 j x hx
  · cases hx
/-- A row of the call's own, cut. -/
theorem Rp.own_take {α : Type} {d : Rp α} {e : Nat} {w : World} {F : Nat → Prop} {a : Addr} {n cap : Nat} {xs : List α} (h : d.own e w F (.slice (some a) n cap) xs) (k : Nat) (hk : k ≤ xs.length) : d.own e w F (.slice (some a) k cap) (xs.take k) := by
  obtain ⟨inner, ⟨h1, h2⟩, hF, hr⟩ := h
  have hle : k * d.sz ≤ xs.length * d.sz := Nat.mul_le_mul_right _ hk
  refine ⟨inner.take (k * d.sz), ⟨by rw [List.length_take, List.length_take, h1, Nat.min_eq_left hle, Nat.min_eq_left hk], ?_⟩, hF, hr.take k hk⟩
  rcases h2 with ⟨h2, _⟩ | ⟨g, cap', cur, hv, hb, hg, hnc, hcm, hcs, htake⟩
  · cases h2
  · simp at hv
    obtain ⟨rfl, rfl, rfl⟩ := hv
    refine .inr ⟨g, cap, cur, by simp [Nat.min_eq_left hk], hb, hg, by rw [List.length_take, Nat.min_eq_left hk]; omega, hcm, hcs, ?_⟩
    rw [List.length_take, Nat.min_eq_left hk, ← htake, List.take_take, Nat.min_eq_left hle]
theorem Rp.own_val {α : Type} {d : Rp α} {e : Nat} {w : World} {F : Nat → Prop} {v : Value} {xs : List α} (h : d.own e w F v xs) (hx : xs ≠ []) : ∃ a c, v = .slice (some a) xs.length c := by
  obtain ⟨inner, ⟨h1, h2⟩, hF, hr⟩ := h
  rcases h2 with ⟨_, h0⟩ | ⟨g, cap', cur, hv, _⟩
  · exact absurd (List.eq_nil_of_length_eq_zero h0) hx
  · exact ⟨_, _, hv⟩
theorem Rp.own_nil_val {α : Type} {d : Rp α} {e : Nat} {w : World} {F : Nat → Prop} {v : Value} (h : d.own e w F v []) : v = .slice none 0 0 ∨ ∃ a cc, v = .slice (some a) 0 cc := by
  obtain ⟨inner, ⟨h1, h2⟩, hF, hr⟩ := h
  rcases h2 with ⟨h2, _⟩ | ⟨g, cap', cur, hv, _⟩
  · exact .inl h2
  · exact .inr ⟨_, _, hv⟩
theorem int_own_at {e : Nat} {w : World} {F : Nat → Prop} {a : Addr} {n c : Nat} {xs : List Int} (h : intRS.own e w F (.slice (some a) n c) xs) {j : Nat} {x : Int} (hx : xs[j]? = some x) : ∃ b, a = ⟨b, 0, none⟩ ∧ b < w.heap.size ∧ w.cell? ⟨b, j, none⟩ = some (.int .i64 x) := by
  have hlt := Rp.own_block_lt h
  have hown := h
  obtain ⟨A, c', hv, _, hr⟩ := Rp.own_slice h
  obtain ⟨b, o, cs, hA, _, hb, hr', hc⟩ := Rp.row_at hr hx
  have hr2 : cs = [.int .i64 x] := hr'
  subst hr2
  have := hc 0 _ rfl
  rw [show intRS.sz = 1 from rfl, Nat.mul_one] at this
  obtain ⟨inner, ⟨h1, h2⟩, _⟩ := hown
  rcases h2 with ⟨h2, _⟩ | ⟨g, cap', cur, hv2, _⟩
  · cases h2
  · simp at hv hv2
    obtain ⟨rfl, _⟩ := hv2
    rw [← hv.1] at hA
    simp at hA
    obtain ⟨rfl, rfl⟩ := hA
    exact ⟨g, rfl, hb, by simpa using this⟩

theorem stkStep_len (i : Nat) (x : Tok) (s : List Int) : (stkStep i x s).length ≤ s.length + 1 := by
  unfold stkStep
  split
  · simp
  · split
    · simp; omega
    · omega
theorem stkGo_len : ∀ (l : List Tok) (i : Nat) (s : List Int), (stkGo i l s).length ≤ s.length + l.length := by
  intro l
  induction l with
  | nil => intro i s; simp [stkGo]
  | cons x r ih =>
    intro i s
    have h1 := ih (i + 1) (stkStep i x s)
    have h2 := stkStep_len i x s
    simp only [stkGo, List.length_cons]
    omega
theorem stackL_len (l : List Tok) (at' : Int) : (stackL l at').length ≤ l.length := by
  unfold stackL
  split
  · simp
  · have := stkGo_len (l.take (max at' 0).toNat) 0 []
    have h2 := List.length_take_le (max at' 0).toNat l
    have h3 : (l.take (max at' 0).toNat).length ≤ l.length := by rw [List.length_take]; omega
    simp only [List.length_nil] at this
    omega
def StkRel (w wr : World) (l : List Tok) (m k : Nat) (v : Value) : Prop :=
  ∃ s : List Int, intRS.own 3 wr (fun q => w.heap.size ≤ q) v s ∧ s.length ≤ k ∧ stkGo k ((l.take m).drop k) s = stkGo 0 (l.take m) [] ∧ Pure w wr
theorem StkRel.step {w w1 : World} {l : List Tok} {m k : Nat} {v1 : Value} {s : List Int} {x : Tok} (hx : (l.take m)[k]? = some x) (hl : s.length ≤ k) (he : stkGo k ((l.take m).drop k) s = stkGo 0 (l.take m) []) (ho : intRS.own 3 w1 (fun q => w.heap.size ≤ q) v1 (stkStep k x s)) (hp : Pure w w1) : StkRel w w1 l m (k + 1) v1 := by
  refine ⟨_, ho, by have := stkStep_len k x s; omega, ?_, hp⟩
  rw [← he]
  obtain ⟨hk, hx2⟩ := List.getElem?_eq_some_iff.1 hx
  rw [List.drop_eq_getElem_cons hk, hx2]
  rfl

set_option maxRecDepth 100000 in
set_option maxHeartbeats 4000000 in
theorem stack_calls {F : Nat → Prop} {A : Option Addr} {c : Nat} {l : List Tok} {at' : Int} {w : World} (hr : tokR.row w F A l) (hb : l.length ≤ 1048576 * 4) (hlc : l.length ≤ c) :
    Calls Tryz.prog 143 #[.slice A l.length c, .int .i64 at'] w fun e w' => ∃ v, e = .returned v ∧ intRS.own 3 w' (fun k => w.heap.size ≤ k) v (stackL l at') ∧ Pure w w' := by
  have HR := As.mk hr
  clear hr
  by_cases h1 : at' > l.length
  · have HE := As.mk (show stackL l at' = [] by unfold stackL; rw [if_pos h1])
    have h2 : decide ((l.length : Int) < at') = true := by simp; omega
    go_enter Tryz.func143, Tryz.ntmps143
    go_wp2
    go_ret
    exact ⟨_, rfl, by rw [HE.out]; exact Rp.own_nil _ _ _ _, Upd.refl _ _⟩
  · have HE := As.mk (show stackL l at' = stkGo 0 (l.take (max at' 0).toNat) [] by unfold stackL; rw [if_neg h1])
    have h2 : decide ((l.length : Int) < at') = false := by simp; omega
    by_cases hneg : at' < 0
    · have hE : stackL l at' = [] := by rw [HE.out, show (max at' 0).toNat = 0 by omega]; rfl
      have HE2 := As.mk hE
      have hmx : max at' 0 = 0 := by omega
      clear HE hE h1
      go_enter Tryz.func143, Tryz.ntmps143
      go_wp2
      go_loopg [5, 17] 0 (fun g v i wr => i = .int .i64 0 ∧ v = .slice none 0 0 ∧ As (wr = w))
      case atStart => exact ⟨rfl, rfl, ⟨rfl⟩⟩
      case round =>
        obtain ⟨rfl, rfl, HW⟩ := hrel
        obtain rfl := HW.out
        go_wp2
        go_ret
        exact ⟨_, rfl, by rw [HE2.out]; exact Rp.own_nil _ _ _ _, Upd.refl _ _⟩
    · obtain ⟨m, rfl⟩ : ∃ m : Nat, at' = m := ⟨at'.toNat, by omega⟩
      have hml : m ≤ l.length := by omega
      have hml2 : m ≤ c := by omega
      have hmx : max (m : Int) 0 = m := by omega
      rw [hmx, Int.toNat_natCast] at HE
      clear hneg h1
      go_enter Tryz.func143, Tryz.ntmps143
      have hlm : decide (l.length < m) = false := by simp; omega
      go_wp2
      go_loopg [5, 17] m (fun g v i wr => ∃ k : Nat, k + g = m ∧ i = .int .i64 k ∧ As (StkRel w wr l m k v))
      case atStart => exact ⟨0, by omega, rfl, ⟨[], Rp.own_nil _ _ _ _, by simp, by simp, Upd.refl _ _⟩⟩
      case round =>
        obtain ⟨k, hk, rfl, HS⟩ := hrel
        by_cases hlt : k < m
        · obtain ⟨s, hown, hsl, hse, hp⟩ := HS.out
          obtain ⟨x, hx⟩ : ∃ x, l[k]? = some x := ⟨_, List.getElem?_eq_getElem (by omega)⟩
          have hx2 : (l.take m)[k]? = some x := by rw [List.getElem?_take, if_pos hlt]; exact hx
          obtain ⟨b, o, rfl, hFb, hbb, d0, d1, d2, d3⟩ := tok_at (Rp.row_pure HR.out hp) hx
          obtain ⟨g1, rfl⟩ : ∃ m, gk = m + 1 := ⟨gk - 1, by omega⟩
          have HX := As.mk (And.intro hx2 (And.intro hsl hse))
          have HO := As.mk hown
          have HP := As.mk hp
          have HK := As.mk hk
          clear hx hx2 hse hown hp hk HS
          by_cases h1 : x.k = 1
          · have e1 : (x.k == 1) = true := by simp [h1]
            have HST := As.mk (show stkStep k x s = s ++ [(k : Int)] by unfold stkStep; rw [if_pos h1])
            clear h1
            go_wp2_with (at_builtin; refine Rp.own_append intRS (Rp.own_alloc HO.out _) (k : Int) [.int .i64 k] rfl (Fp := fun _ => False) (G := fun q => w.heap.size ≤ q) (fun _ h => h.elim) (fun _ h _ => h) (fun q hq => by have := HP.out.size; simp at hq; omega) rfl _ _ 86 _ 8 rfl Tryz.underlying86 int_infoS rfl (by decide) (by decide) rfl (by simp [Act.eval]) (by omega) ?_; intro v1 w1 ho1 hu1; have HO1 := As.mk ho1; have HU1 := As.mk (Upd.trans (HP.out.alloc _) hu1 (fun q hq h => by have := Rp.own_block_lt HO.out q h; omega)); clear ho1 hu1)
            go_roundg g1
            case measure => omega
            case rel => exact ⟨k + 1, by have := HK.out; omega, by go_num, ⟨StkRel.step HX.out.1 HX.out.2.1 HX.out.2.2 (by rw [HST.out]; exact HO1.out) HU1.out⟩⟩
          · have e1 : (x.k == 1) = false := by simp [h1]
            by_cases h2 : x.k = 2
            · have e2 : (x.k == 2) = true := by simp [h2]
              have HST := As.mk (show stkStep k x s = s.dropLast by unfold stkStep; rw [if_neg h1, if_pos h2])
              clear h1 h2
              by_cases hs : s = []
              · subst hs
                rcases Rp.own_nil_val HO.out with rfl | ⟨a, cc, rfl⟩
                all_goals
                  go_wp2
                  go_roundg g1
                  case measure => omega
                  case rel => exact ⟨k + 1, by have := HK.out; omega, by go_num, ⟨StkRel.step HX.out.1 HX.out.2.1 HX.out.2.2 (by rw [HST.out]; exact Rp.own_alloc HO.out _) (HP.out.alloc _)⟩⟩
              · obtain ⟨a, cc, rfl⟩ := Rp.own_val HO.out hs
                obtain ⟨n, hn⟩ : ∃ n, s.length = n + 1 := ⟨s.length - 1, by have := List.length_pos_iff.2 hs; omega⟩
                have hcut := Rp.own_take HO.out n (by omega)
                have hdl : s.take n = s.dropLast := by rw [List.dropLast_eq_take, hn]; rfl
                rw [hdl, ← HST.out] at hcut
                have HC := As.mk (Rp.own_alloc (o := .cells #[.int .i64 x.k, .int .i64 x.t, .int .i64 x.n, .int .i64 x.m] 71) hcut)
                obtain ⟨A1, c1, hv1, hle1, _⟩ := Rp.own_slice HO.out
                simp only [Value.slice.injEq] at hv1
                have hnc : n + 1 ≤ cc := by omega
                rw [hn]
                clear hcut hdl hs hv1 hle1
                go_wp2
                go_roundg g1
                case measure => omega
                case rel => exact ⟨k + 1, by have := HK.out; omega, by go_num, ⟨StkRel.step HX.out.1 HX.out.2.1 HX.out.2.2 HC.out (HP.out.alloc _)⟩⟩
            · have e2 : (x.k == 2) = false := by simp [h2]
              have HST := As.mk (show stkStep k x s = s by unfold stkStep; rw [if_neg h1, if_neg h2])
              clear h1 h2
              go_wp2
              go_roundg g1
              case measure => omega
              case rel => exact ⟨k + 1, by have := HK.out; omega, by go_num, ⟨StkRel.step HX.out.1 HX.out.2.1 HX.out.2.2 (by rw [HST.out]; exact Rp.own_alloc HO.out _) (HP.out.alloc _)⟩⟩
        · obtain rfl : k = m := by omega
          go_wp2
          go_ret
          obtain ⟨s, hown, hsl, hse, hp⟩ := HS.out
          refine ⟨_, rfl, ?_, hp⟩
          rw [List.drop_eq_nil_of_le (by rw [List.length_take]; omega)] at hse
          rw [HE.out, ← hse]
          exact hown

set_option maxRecDepth 100000 in
set_option maxHeartbeats 4000000 in
theorem around_calls {F : Nat → Prop} {A : Option Addr} {c : Nat} {l : List Tok} {at' : Int} {w : World} (hr : tokR.row w F A l) (hb : l.length ≤ 1048576 * 4) (hlc : l.length ≤ c) :
    Calls Tryz.prog 77 #[.slice A l.length c, .int .i64 at'] w fun e w' => e = .returned (.int .i64 (aroundL l at')) ∧ Pure w w' := by
  have HC := As.mk (stack_calls (at' := at') hr hb hlc)
  have HE := As.mk (show aroundL l at' = (stackL l at').getLast?.getD (-1) from rfl)
  have hsl := stackL_len l at'
  clear hr
  generalize stackL l at' = s at *
  generalize aroundL l at' = r at *
  go_enter Tryz.func77, Tryz.ntmps77
  go_wp2_with (go_at_call 143; refine HC.out.mono ?_; rintro e w1 ⟨v, rfl, ho, hu⟩; have HO := As.mk ho; have HU := As.mk hu; clear ho hu; apply As.out)
  refine ⟨?_⟩
  by_cases hs : s = []
  · subst hs
    obtain ⟨A1, c1, rfl, hle, _⟩ := Rp.own_slice HO.out
    go_wp2
    go_ret
    exact ⟨by rw [HE.out]; rfl, HU.out⟩
  · obtain ⟨a, cc, rfl⟩ := Rp.own_val HO.out hs
    obtain ⟨n, hn⟩ : ∃ n, s.length = n + 1 := ⟨s.length - 1, by have := List.length_pos_iff.2 hs; omega⟩
    obtain ⟨x, hx⟩ : ∃ x, s[n]? = some x := ⟨_, List.getElem?_eq_getElem (by omega)⟩
    obtain ⟨b, rfl, hbb, hc⟩ := int_own_at HO.out hx
    have hlast : s.getLast?.getD (-1) = x := by rw [List.getLast?_eq_getElem?, hn]; simp [hx]
    rw [hlast] at HE
    rw [hn]
    clear hs hlast hx
    go_wp2
    go_ret
    exact ⟨by rw [HE.out]; rfl, HU.out⟩
end Go.Proofs.YtfapglhdakhbeaaGreatDoor
