/- My own texts, packed: Sch6, Own3, NewD, HeldV, Reg29, HeldTwo, New6, House6, EditTexts, OpenT, OpenI. -/
import Derived.Test.YtofjodppljnlaaaGreatDoorP6
namespace Go.Proofs.YtofjodppljnlaaaGreatDoor
open Go.RowKit
set_option linter.unusedVariables false
set_option linter.unusedSimpArgs false
set_option maxRecDepth 100000 in
set_option maxHeartbeats 4000000 in
theorem parse7_calls {w : World} {G : Nat → Prop} {B : Option Addr} {d : Nat} {g : List Grp} {s : ByteArray} {e : Ex} (hp : Parses6 s e) (hg : grpR.row w G B g) (hc : regCheck e g = 0) (hwt : e.wt ≤ 1048576 * 4) (hgl : g.length ≤ 1048576) (hgt : ∀ x ∈ g, x.types.length ≤ 1048576) :
    Calls Tryz.prog 127 #[.string s, .slice B g.length d] w fun r w' => ∃ A c, r = .returned (.tuple #[e.val A c, .int .i64 0]) ∧ e.l.length ≤ c ∧ exR.row w' (fun k => w.heap.size ≤ k) A e.l ∧ Pure w w' := by
  have HP := As.mk hp
  have HCK := As.mk (fun W A c (F : Nat → Prop) (hr : exR.row W F A e.l) (hu : Pure w W) => hc ▸ regCheck6_calls (c := c) (d := d) hr (Rp.row_pure hg hu) hwt hgl hgt)
  have HRB := As.mk (heap_alloc_new w (.cells #[.int .i64 0, .string ⟨#[]⟩, .slice none 0 0] 92))
  have hT1 : Pure w (w.alloc (.cells #[.int .i64 0, .string ⟨#[]⟩, .slice none 0 0] 92)) := Upd.alloc1 _ _ _
  have HT1 := As.mk hT1
  clear hp hg hc hwt hgt hT1
  obtain ⟨k0, nm, l⟩ := e
  unfold Ex.val at *
  go_enter Tryz.func127, Tryz.ntmps127
  go_wp2_with (go_at_call 164; refine (HP.out _).mono ?_; rintro e w1 ⟨A, c, rfl, hle, hr, hu⟩; have HR1 := As.mk hr; have HU1 := As.mk hu; have HLE := As.mk hle; clear hr hu hle; apply As.out)
  refine ⟨?_⟩
  have hz1 := HU1.out.size
  simp at hz1
  have hrb1 := (HU1.out.block w.heap.size (by simp) (fun h => h)).trans HRB.out
  generalize hW : w1.alloc (.cells #[.int .i64 k0, .string nm, .slice A l.length c] 92) = W
  have hPW : Pure w1 W := hW ▸ Upd.alloc1 _ _ _
  have HE := As.mk (show W.heap[w1.heap.size]? = some (.cells #[.int .i64 k0, .string nm, .slice A l.length c] 92 (0, 0)) from hW ▸ heap_alloc_new _ _)
  have HRW := As.mk (Rp.row_pure HR1.out hPW)
  have HPW := As.mk ((HT1.out.trans HU1.out (fun _ _ h => h)).trans hPW (fun _ _ h => h))
  have HRBW := As.mk ((hPW.block w.heap.size (by omega) (fun h => h)).trans hrb1)
  obtain ⟨⟨e0, e1, e2⟩, _, hel⟩ := cells3P HE.out
  clear hPW hrb1
  go_wp2_with (go_at_call 133; refine (HCK.out _ _ _ _ HRW.out HPW.out).mono ?_; rintro e w2 ⟨rfl, hu⟩; have HU2 := As.mk hu; clear hu; apply As.out)
  refine ⟨?_⟩
  clear e0 e1 e2
  obtain ⟨⟨e0, e1, e2⟩, _, hel2⟩ := cells3P ((HU2.out.block _ hel (fun h => h)).trans HE.out)
  have hrb4 := (HU2.out.block w.heap.size (Array.getElem?_eq_some_iff.1 HRBW.out).1 (fun h => h)).trans HRBW.out
  obtain ⟨⟨r0, r1, r2⟩, ⟨rf0, rf1, rf2⟩, hrl4⟩ := cells3P hrb4
  clear hrb4
  go_wp2
  exact bodyPost_ret (v := .tuple #[.agg #[.int .i64 k0, .string nm, .slice A l.length c], .int .i64 0]) (by simp [results, Tryz.results127, go_sem, r0, r1, r2, rf0, rf1, rf2]) rfl ⟨A, c, rfl, HLE.out, Rp.row_fp (Rp.row_upd (Rp.row_pure HRW.out HU2.out) (set3U w2 w.heap.size _ _ _) (fun k _ hk h => by simp at hk; omega)) (fun k hk => by simp at hk; omega), (HPW.out.trans HU2.out (fun _ _ h => h)).trans (set3U w2 w.heap.size _ _ _) (fun q hq h => by omega)⟩
theorem str6_info : (Tryz.prog.info? 9).map (fun i => (i.zero, i.size, i.bytes)) = some (some (.string ⟨#[]⟩), 1, 16) := by kernel_rfl
theorem str_at {w : World} {F : Nat → Prop} {A : Option Addr} {xs : List ByteArray} (h : Rp.string.row w F A xs) {j : Nat} {x : ByteArray} (hx : xs[j]? = some x) :
    ∃ b o, A = some ⟨b, o, none⟩ ∧ F b ∧ b < w.heap.size ∧ w.cell? ⟨b, o + j, none⟩ = some (.string x) := by
  obtain ⟨b, o, cs, hA, hF, hb, hr, hc⟩ := Rp.row_at h hx
  have hr' : cs = [.string x] := hr
  subst hr'
  have := hc 0 _ rfl
  rw [show (Rp.string.sz) = 1 from rfl, Nat.mul_one] at this
  exact ⟨b, o, hA, hF, hb, this⟩
theorem getD_of6 {α : Type} {l : List α} {i : Nat} {x d : α} (h : l[i]? = some x) : l.getD i d = x := by simp [List.getD, h]
/-- Names that may be, none twice. -/
def okNames (names : List ByteArray) : Bool := (List.range names.length).all (fun i => nameB (names.getD i ⟨#[]⟩) && !decide (names.getD i ⟨#[]⟩ = textName) && (List.range i).all (fun k => !decide (names.getD k ⟨#[]⟩ = names.getD i ⟨#[]⟩)))
theorem okNames_at {names : List ByteArray} (h : okNames names = true) {i : Nat} {x : ByteArray} (hx : names[i]? = some x) : nameB x = true ∧ x ≠ textName ∧ ∀ k y, k < i → names[k]? = some y → y ≠ x := by
  unfold okNames at h
  rw [List.all_eq_true] at h
  have h1 := h i (List.mem_range.2 (List.getElem?_eq_some_iff.1 hx).1)
  rw [getD_of6 hx] at h1
  simp only [Bool.and_eq_true, Bool.not_eq_true', decide_eq_false_iff_not] at h1
  refine ⟨h1.1.1, h1.1.2, fun k y hk hy e => ?_⟩
  have h2 := List.all_eq_true.1 h1.2 k (List.mem_range.2 hk)
  rw [getD_of6 hy] at h2
  simp [e] at h2
set_option maxRecDepth 100000 in
set_option maxHeartbeats 4000000 in
theorem twice_calls {w : World} {F G : Nat → Prop} {A Bg : Option Addr} {c d : Nat} {l : List Spec} {g : List Grp} (hr : specR.row w F A l) (hg : grpR.row w G Bg g) (hl : l.length ≤ 1000) (hgl : g.length ≤ 1000) (hsz : ∀ x ∈ l.map (·.name) ++ g.map (·.name), x.size ≤ 1048576 * 4) (hok : okNames (l.map (·.name) ++ g.map (·.name)) = true) :
    Calls Tryz.prog 126 #[.slice A l.length c, .slice Bg g.length d] w fun r w' => r = .returned (.bool false) ∧ Pure w w' := by
  have HR := As.mk hr
  have HG := As.mk hg
  have HSZ := As.mk hsz
  have HOK := As.mk (fun i x (hx : (l.map (·.name) ++ g.map (·.name))[i]? = some x) => okNames_at hok hx)
  have HLN := As.mk (show (l.map (·.name) ++ g.map (·.name)).length = l.length + g.length by simp)
  clear hr hg hsz hok
  go_enter Tryz.func126, Tryz.ntmps126
  go_wp2
  go_loopg [6, 5] l.length (fun gg i v wr => ∃ k : Nat, k + gg = l.length ∧ i = .int .i64 k ∧ As (Rp.string.own 9 wr (fun q => w.heap.size ≤ q) v ((l.map (·.name)).take k)) ∧ As (Pure w wr))
  case atStart => exact ⟨0, by omega, rfl, ⟨Rp.own_nil _ _ _ _⟩, ⟨Upd.refl _ _⟩⟩
  case round =>
    obtain ⟨k, hk, rfl, HO, HP⟩ := hrel
    by_cases hlt : k < l.length
    · obtain ⟨Av, cv, rfl, _, _⟩ := Rp.own_slice HO.out
      obtain ⟨x, hx⟩ : ∃ x, l[k]? = some x := ⟨_, List.getElem?_eq_getElem hlt⟩
      obtain ⟨bx, ox, rfl, hFb, hbb, d0, d1, d2, d3, d4, d5, d6⟩ := spec_at (Rp.row_pure HR.out HP.out) hx
      obtain ⟨g1, rfl⟩ : ∃ m, gk = m + 1 := ⟨gk - 1, by omega⟩
      have HK := As.mk hk
      have HT := As.mk (show (l.map (·.name)).take (k + 1) = (l.map (·.name)).take k ++ [x.name] by rw [List.take_add_one, List.getElem?_map, hx]; rfl)
      have hlk : ((l.map (·.name)).take k).length ≤ 1000 := by rw [List.length_take]; omega
      clear hk hx
      go_wp2_with (at_builtin; refine Rp.own_append Rp.string HO.out x.name [.string x.name] rfl (Fp := fun _ => False) (G := fun q => w.heap.size ≤ q) (fun _ h => h.elim) (fun _ h _ => h) (fun q hq => by have := HP.out.size; omega) rfl _ _ 217 _ 16 rfl Tryz.underlying217 str6_info rfl (by decide) (by decide) rfl (by simp [Act.eval]) (by omega) ?_; intro v1 w1 ho1 hu1; rw [← HT.out] at ho1; have HO1 := As.mk ho1; have HU1 := As.mk (Upd.trans HP.out hu1 (fun q hq h => by have := (Rp.own_block_lt HO.out q h).1; omega)); clear ho1 hu1)
      go_roundg g1
      case measure => omega
      case rel => exact ⟨k + 1, by have := HK.out; omega, by go_num, HO1, HU1⟩
    · have hkl : k = l.length := by omega
      subst hkl
      rw [List.take_of_length_le (by simp)] at HO
      go_wp2
      go_loopg [7, 5] g.length (fun gg i v wr => ∃ k : Nat, k + gg = g.length ∧ i = .int .i64 k ∧ As (Rp.string.own 9 wr (fun q => w.heap.size ≤ q) v (l.map (·.name) ++ (g.map (·.name)).take k)) ∧ As (Pure w wr))
      case atStart => exact ⟨0, by omega, rfl, ⟨by rw [List.take_zero, List.append_nil]; exact HO.out⟩, HP⟩
      case round =>
        clear HO HP
        obtain ⟨k, hk, rfl, HO, HP⟩ := hrel
        by_cases hlt2 : k < g.length
        · obtain ⟨Av, cv, rfl, _, hrow⟩ := Rp.own_slice HO.out
          obtain ⟨x, hx⟩ : ∃ x, g[k]? = some x := ⟨_, List.getElem?_eq_getElem hlt2⟩
          obtain ⟨bx, ox, A1, c1, rfl, hFb, hbb, d0, d1, hle1, hrow1⟩ := grp_at (Rp.row_pure HG.out HP.out) hx
          obtain ⟨g1, rfl⟩ : ∃ m, gk = m + 1 := ⟨gk - 1, by omega⟩
          have HK := As.mk hk
          have HT := As.mk (show l.map (·.name) ++ (g.map (·.name)).take (k + 1) = (l.map (·.name) ++ (g.map (·.name)).take k) ++ [x.name] by rw [List.take_add_one, List.getElem?_map, hx]; simp)
          have hlk : (l.map (·.name) ++ (g.map (·.name)).take k).length ≤ 2000 := by rw [List.length_append, List.length_take, List.length_map]; omega
          clear hk hx hrow1 hrow
          go_wp2_with (at_builtin; refine Rp.own_append Rp.string HO.out x.name [.string x.name] rfl (Fp := fun _ => False) (G := fun q => w.heap.size ≤ q) (fun _ h => h.elim) (fun _ h _ => h) (fun q hq => by have := HP.out.size; omega) rfl _ _ 217 _ 16 rfl Tryz.underlying217 str6_info rfl (by decide) (by decide) rfl (by simp [Act.eval]) (by omega) ?_; intro v1 w1 ho1 hu1; rw [← HT.out] at ho1; have HO1 := As.mk ho1; have HU1 := As.mk (Upd.trans HP.out hu1 (fun q hq h => by have := (Rp.own_block_lt HO.out q h).1; omega)); clear ho1 hu1)
          go_roundg g1
          case measure => omega
          case rel => exact ⟨k + 1, by have := HK.out; omega, by go_num, HO1, HU1⟩
        · have hkl : k = g.length := by omega
          subst hkl
          rw [List.take_of_length_le (by simp)] at HO
          obtain ⟨Av, cv, rfl, _, hrow⟩ := Rp.own_slice HO.out
          have HRW := As.mk hrow
          clear hrow
          generalize hnm : l.map (·.name) ++ g.map (·.name) = names at *
          have hnml : names.length ≤ 2000 := by rw [HLN.out]; omega
          clear HO hnm
          go_wp2
          go_loopg [8] names.length (fun gg i wx => ∃ k : Nat, k + gg = names.length ∧ i = .int .i64 k ∧ As (Rp.string.row wx (fun q => w.heap.size ≤ q) Av names ∧ Pure w wx))
          case atStart => exact ⟨0, by omega, rfl, ⟨HRW.out, HP.out⟩⟩
          case round =>
            obtain ⟨k, hk, rfl, HPx⟩ := hrel
            by_cases hlt3 : k < names.length
            · obtain ⟨x, hx⟩ : ∃ x, names[k]? = some x := ⟨_, List.getElem?_eq_getElem hlt3⟩
              obtain ⟨bx, ox, rfl, _, _, d0⟩ := str_at HPx.out.1 hx
              obtain ⟨g1, rfl⟩ : ∃ m, gk = m + 1 := ⟨gk - 1, by omega⟩
              obtain ⟨o1, o2, o3⟩ := HOK.out k x hx
              have HLT := As.mk (fun W : World => o1 ▸ Letters_calls x W (HSZ.out x (List.mem_of_getElem? hx)))
              have hne : (x.toList == [116, 101, 120, 116]) = false := by
                have h := bytes_ne o2
                rwa [show textName.toList = [116, 101, 120, 116] by rw [ByteArray.toList_eq]; rfl] at h
              have HO3 := As.mk o3
              have HX := As.mk hx
              have HK := As.mk hk
              clear o1 o2 o3 hx hk HRW
              go_wp2_with (go_at_call 163; refine (HLT.out _).mono ?_; rintro e w2 ⟨rfl, hu⟩; have HU2 := As.mk (And.intro (Rp.row_pure HPx.out.1 hu) (HPx.out.2.trans hu (fun _ _ h => h))); clear hu; apply As.out)
              refine ⟨?_⟩
              clear d0
              obtain ⟨bx', ox', hbo, _, _, d0⟩ := str_at HU2.out.1 HX.out
              obtain ⟨rfl, rfl⟩ : bx = bx' ∧ ox = ox' := by simpa using hbo
              clear hbo
              go_wp2
              go_loopg [9] k (fun g2 j wy => ∃ q : Nat, q + g2 = k ∧ j = .int .i64 q ∧ As (Rp.string.row wy (fun q => w.heap.size ≤ q) (some ⟨bx, ox, none⟩) names ∧ Pure w wy))
              case atStart => exact ⟨0, by omega, rfl, HU2⟩
              case round =>
                obtain ⟨q, hq, rfl, HPy⟩ := hrel
                by_cases hlq : q < k
                · obtain ⟨y, hy⟩ : ∃ y, names[q]? = some y := ⟨_, List.getElem?_eq_getElem (by omega)⟩
                  obtain ⟨b1, o1, hb1, _, _, e0⟩ := str_at HPy.out.1 hy
                  obtain ⟨rfl, rfl⟩ : bx = b1 ∧ ox = o1 := by simpa using hb1
                  obtain ⟨b2, o2, hb2, _, _, e1⟩ := str_at HPy.out.1 HX.out
                  obtain ⟨rfl, rfl⟩ : bx = b2 ∧ ox = o2 := by simpa using hb2
                  obtain ⟨g2, rfl⟩ : ∃ m, gk = m + 1 := ⟨gk - 1, by omega⟩
                  have hne2 := bytes_ne (HO3.out q y hlq hy)
                  have hql : q < names.length := by omega
                  have HQ := As.mk hq
                  clear hb1 hb2 hy hq d0
                  go_wp2
                  go_region
                  all_goals go_wp2
                  all_goals go_roundg g2
                  all_goals first
                    | (case measure => omega)
                    | (case rel => exact ⟨q + 1, by have := HQ.out; omega, by go_num, ⟨Rp.row_pure HPy.out.1 ((Upd.refl _ _).drew), HPy.out.2.drew⟩⟩)
                · have hqk : q = k := by omega
                  subst hqk
                  go_wp2
                  go_roundg g1
                  case measure => omega
                  case rel => exact ⟨q + 1, by have := HK.out; omega, by go_num, HPy⟩
            · have hkn : k = names.length := by omega
              subst hkn
              go_wp2
              go_ret
              exact ⟨rfl, HPx.out.2⟩
end Go.Proofs.YtofjodppljnlaaaGreatDoor
namespace Go.Proofs.YtofjodppljnlaaaGreatDoor
open Go.RowKit
set_option linter.unusedVariables false
set_option linter.unusedSimpArgs false
theorem ownsRow_setN {w : World} {e : TypeId} {g len cap n size : Nat} {xs : List Value} (h : w.ownsRow 0 e size (.slice (some ⟨g, 0, none⟩) len cap) len xs) (u : Value) :
    (w.setCell ⟨g, n, none⟩ u).ownsRow 0 e size (.slice (some ⟨g, 0, none⟩) len cap) len (xs.set n u) := by
  obtain ⟨h1, h2⟩ := h
  refine ⟨by simpa using h1, ?_⟩
  rcases h2 with ⟨h2, _⟩ | ⟨g', cap', cur, hv, hb, hg, hle, hcm, hcs, htake⟩
  · cases h2
  · simp at hv
    obtain ⟨rfl, rfl⟩ := hv
    refine .inr ⟨g, cap, cur.setIfInBounds n u, rfl, hb, by simp [World.setCell, Array.getElem?_modify, hg], hle, hcm, by simpa using hcs, ?_⟩
    rw [Array.toList_setIfInBounds, ← htake, List.take_set]
theorem set3_drop (L : List Value) (n j : Nat) (c0 c1 c2 : Value) (hj : j < n) : ((((L.set (n * 3) c0).set (n * 3 + 1) c1).set (n * 3 + 2) c2).drop (j * 3)).take 3 = (L.drop (j * 3)).take 3 := by
  apply List.ext_getElem?
  intro i
  simp only [List.getElem?_take, List.getElem?_drop, List.getElem?_set]
  split
  · rw [if_neg (by omega), if_neg (by omega), if_neg (by omega)]
  · rfl
theorem set3_last (L : List Value) (n : Nat) (c0 c1 c2 : Value) (hL : L.length = (n + 1) * 3) : ((((L.set (n * 3) c0).set (n * 3 + 1) c1).set (n * 3 + 2) c2).drop (n * 3)).take 3 = [c0, c1, c2] := by
  apply List.ext_getElem?
  intro i
  simp only [List.getElem?_take, List.getElem?_drop, List.getElem?_set, List.length_set]
  by_cases h : i < 3
  · rw [if_pos h]
    have : i = 0 ∨ i = 1 ∨ i = 2 := by omega
    rcases this with rfl | rfl | rfl
    · rw [if_neg (by omega), if_neg (by omega), if_pos (by omega), if_pos (by omega)]; rfl
    · rw [if_neg (by omega), if_pos (by omega), if_pos (by omega)]; rfl
    · rw [if_pos (by omega), if_pos (by omega)]; rfl
  · rw [if_neg h]
    symm
    apply List.getElem?_eq_none
    simp; omega
theorem own_last3 {w : World} {e : TypeId} {F Fp : Nat → Prop} {b cap c1 : Nat} {init : List Ex} {z : Ex} {k : Int} {nm : ByteArray} {l : List Ex} {A1 : Option Addr} (h : exR.own e w F (.slice (some ⟨b, 0, none⟩) (init.length + 1) cap) (init ++ [z])) (hr : exR.row w Fp A1 l) (hFp : ∀ q, Fp q → F q ∧ q ≠ b) (hl : l.length ≤ c1) :
    exR.own e (((w.setCell ⟨b, init.length * 3, none⟩ (.int .i64 k)).setCell ⟨b, init.length * 3 + 1, none⟩ (.string nm)).setCell ⟨b, init.length * 3 + 2, none⟩ (.slice A1 l.length c1)) F (.slice (some ⟨b, 0, none⟩) (init.length + 1) cap) (init ++ [.mk k nm l]) := by
  obtain ⟨inner, ho, hF, hrep⟩ := h
  have hu : Upd (fun q => q = b) w (((w.setCell ⟨b, init.length * 3, none⟩ (.int .i64 k)).setCell ⟨b, init.length * 3 + 1, none⟩ (.string nm)).setCell ⟨b, init.length * 3 + 2, none⟩ (.slice A1 l.length c1)) :=
    (((Upd.refl (fun q => q = b) w).setCell (p := ⟨b, init.length * 3, none⟩) (fun _ => rfl) _).setCell (p := ⟨b, init.length * 3 + 1, none⟩) (fun _ => rfl) _).setCell (p := ⟨b, init.length * 3 + 2, none⟩) (fun _ => rfl) _
  have hsz : exR.sz = 3 := rfl
  have hl1 : (init ++ [z]).length = init.length + 1 := by simp
  have hl2 : (init ++ [Ex.mk k nm l]).length = init.length + 1 := by simp
  rw [hl1, hsz] at ho
  have hil : inner.length = (init.length + 1) * 3 := ho.1
  refine ⟨((inner.set (init.length * 3) (.int .i64 k)).set (init.length * 3 + 1) (.string nm)).set (init.length * 3 + 2) (.slice A1 l.length c1), ?_, hF, ⟨by simp only [List.length_set]; rw [hil, hl2, hsz], fun j x hx => ?_⟩⟩
  · rw [hl2, hsz]
    exact ownsRow_setN (ownsRow_setN (ownsRow_setN ho _) _) _
  · rw [hsz]
    by_cases hj : j < init.length
    · rw [set3_drop _ _ _ _ _ _ hj]
      rw [List.getElem?_append_left hj] at hx
      have h1 := hrep.2 j x (by rw [List.getElem?_append_left hj]; exact hx)
      rw [hsz] at h1
      exact exR.move (fun q hq hql => ⟨hq, Nat.lt_of_lt_of_le hql hu.size, hu.block q hql (fun e => hq.2 (by rw [e]; rfl))⟩) h1
    · have hjl : j < (init ++ [Ex.mk k nm l]).length := (List.getElem?_eq_some_iff.1 hx).1
      obtain rfl : j = init.length := by omega
      rw [List.getElem?_append_right (Nat.le_refl _), Nat.sub_self] at hx
      cases hx
      rw [set3_last _ _ _ _ _ hil]
      refine ExRep.of_parts hl (Rp.row_move (fun q hq hql => ⟨⟨(hFp q hq).1, fun e => (hFp q hq).2 (by injection e)⟩, Nat.lt_of_lt_of_le hql hu.size, hu.block q hql (hFp q hq).2⟩) hr)
theorem own_cellN {w : World} {e : TypeId} {g n cap size : Nat} {inner : List Value} (h : w.ownsRow 0 e size (.slice (some ⟨g, 0, none⟩) n cap) n inner) {i : Nat} (hi : i < inner.length) :
    ∃ u, inner[i]? = some u ∧ w.cell? ⟨g, i, none⟩ = some u ∧ w.frozen? ⟨g, i, none⟩ = false ∧ g < w.heap.size := by
  obtain ⟨u, hu⟩ : ∃ u, inner[i]? = some u := ⟨_, List.getElem?_eq_getElem hi⟩
  rcases h.2 with ⟨h, _⟩ | ⟨g', cap', cur, hv, _, hg, hle, _, hcs, htake⟩
  · cases h
  · simp at hv
    obtain ⟨rfl, rfl⟩ := hv
    have h2 := hu
    rw [← htake, List.getElem?_take] at h2
    split at h2
    · exact ⟨u, hu, by unfold World.cell?; simp only [hg]; simpa using h2, by simp [World.frozen?, hg], (Array.getElem?_eq_some_iff.1 hg).1⟩
    · cases h2
theorem own_last_cells {w : World} {e : TypeId} {F : Nat → Prop} {b cap : Nat} {init : List Ex} {z : Ex} (h : exR.own e w F (.slice (some ⟨b, 0, none⟩) (init.length + 1) cap) (init ++ [z])) :
    (∃ u0 u1 u2, w.cell? ⟨b, init.length * 3, none⟩ = some u0 ∧ w.cell? ⟨b, init.length * 3 + 1, none⟩ = some u1 ∧ w.cell? ⟨b, init.length * 3 + 2, none⟩ = some u2) ∧ (w.frozen? ⟨b, init.length * 3, none⟩ = false ∧ w.frozen? ⟨b, init.length * 3 + 1, none⟩ = false ∧ w.frozen? ⟨b, init.length * 3 + 2, none⟩ = false) ∧ b < w.heap.size := by
  obtain ⟨inner, ho, _, _⟩ := h
  have hl1 : (init ++ [z]).length = init.length + 1 := by simp
  have hsz : exR.sz = 3 := rfl
  rw [hl1, hsz] at ho
  have hil : inner.length = (init.length + 1) * 3 := ho.1
  obtain ⟨u0, _, a1, a2, a3⟩ := own_cellN ho (i := init.length * 3) (by omega)
  obtain ⟨u1, _, b1, b2, _⟩ := own_cellN ho (i := init.length * 3 + 1) (by omega)
  obtain ⟨u2, _, c1, c2, _⟩ := own_cellN ho (i := init.length * 3 + 2) (by omega)
  exact ⟨⟨u0, u1, u2, a1, b1, c1⟩, ⟨a2, b2, c2⟩, a3⟩
theorem own_formE {w : World} {e : TypeId} {F : Nat → Prop} {v : Value} {init : List Ex} {z : Ex} (h : exR.own e w F v (init ++ [z])) : ∃ g cap, v = .slice (some ⟨g, 0, none⟩) (init.length + 1) cap := by
  obtain ⟨inner, ho, _, _⟩ := h
  have hl1 : (init ++ [z]).length = init.length + 1 := by simp
  rw [hl1] at ho
  obtain ⟨g, cap, hv, _⟩ := ho.form (by omega)
  exact ⟨g, cap, hv⟩
end Go.Proofs.YtofjodppljnlaaaGreatDoor
namespace Go.Proofs.YtofjodppljnlaaaGreatDoor
open Go.RowKit
set_option linter.unusedVariables false
set_option linter.unusedSimpArgs false
/-- The schema while its expressions are parsed. -/
structure NewS (W : World) (cb tb : Nat) (c0v c1v c2v c3v c5v Ev : Value) (es : List Ex) (wx : World) : Prop where
  up : Upd (fun q => q = cb ∨ q = tb) W wx
  hc : wx.heap[cb]? = some (.cells #[c0v, c1v, c2v, c3v, Ev, c5v] 105 (0, 0))
  ht : ∃ y0 y1 y2, wx.heap[tb]? = some (.cells #[y0, y1, y2] 92 (0, 0))
  own : exR.own 92 wx (fun q => W.heap.size ≤ q) Ev es
theorem NewS.pure {W : World} {cb tb : Nat} {c0v c1v c2v c3v c5v Ev : Value} {es : List Ex} {wx w2 : World} (h : NewS W cb tb c0v c1v c2v c3v c5v Ev es wx) (hu : Pure wx w2) : NewS W cb tb c0v c1v c2v c3v c5v Ev es w2 := by
  obtain ⟨y0, y1, y2, ht⟩ := h.ht
  exact ⟨h.up.trans hu (fun _ _ h => h.elim), (hu.block _ (Array.getElem?_eq_some_iff.1 h.hc).1 (fun h => h)).trans h.hc, ⟨y0, y1, y2, (hu.block _ (Array.getElem?_eq_some_iff.1 ht).1 (fun h => h)).trans ht⟩, Rp.own_upd h.own hu (fun _ _ _ h => h)⟩
theorem cells6 {w : World} {b : Nat} {x0 x1 x2 x3 x4 x5 : Value} {t : TypeId} (h : w.heap[b]? = some (.cells #[x0, x1, x2, x3, x4, x5] t (0, 0))) :
    (w.cell? ⟨b, 0, none⟩ = some x0 ∧ w.cell? ⟨b, 1, none⟩ = some x1 ∧ w.cell? ⟨b, 2, none⟩ = some x2 ∧ w.cell? ⟨b, 3, none⟩ = some x3 ∧ w.cell? ⟨b, 4, none⟩ = some x4 ∧ w.cell? ⟨b, 5, none⟩ = some x5) ∧ (∀ i, w.frozen? ⟨b, i, none⟩ = false) ∧ b < w.heap.size := by
  refine ⟨⟨?_, ?_, ?_, ?_, ?_, ?_⟩, fun i => by simp [World.frozen?, h], (Array.getElem?_eq_some_iff.1 h).1⟩
  all_goals (unfold World.cell?; simp only [h]; rfl)
end Go.Proofs.YtofjodppljnlaaaGreatDoor
namespace Go.Proofs.YtofjodppljnlaaaGreatDoor
open Go
section
variable {P : Program} {ops : Array Oper} {Q : Exit → Act → World → Prop} {md : Region.Mode} {S : World → Prop} {L : Nat}
def wpAnyV (P : Program) (md : Region.Mode) (ops : Array Oper) (Q : Exit → Act → World → Prop) (S : World → Prop) (L : Nat) : Nat → Array Bool → Act → World → Prop
  | 0, listed, a, w => Region.ready md ops listed = [] ∧ Q .normal a w
  | fuel + 1, listed, a, w =>
    (Region.ready md ops listed = [] → Q .normal a w) ∧
    ∀ i ∈ Region.ready md ops listed, wpOp P ops Q i (fun a' w' => (i ≠ L → S w → S w') ∧ wpAnyV P md ops Q S L fuel (listed.setIfInBounds i true) a' w') a w
theorem wpAny_of_V : ∀ (fuel : Nat) (listed : Array Bool) (a : Act) (w : World), wpAnyV P md ops Q S L fuel listed a w → wpAny P md ops Q fuel listed a w
  | 0, _, _, _, h => h
  | fuel + 1, _, _, _, h => ⟨h.1, fun i hi => wpOp_mono (fun a' w' h' => wpAny_of_V fuel _ a' w' h'.2) (h.2 i hi)⟩
theorem wpAnyV_first {i : Nat} {oi : Oper} {v : Value} (hi : ops[i]? = some oi) (hsel : ∀ (j : Nat) (o : Oper) cs b, ops[j]? = some o → o.op ≠ .select cs b)
    (hQ : ∀ c a w, Q (.panic c) (a.put oi.dst v) w → Q (.panic c) a w) (hL : ∃ oL, ops[L]? = some oL ∧ ∃ e ∈ oL.after, Region.binds md e = true ∧ e.on = i) :
    ∀ (fuel : Nat) (listed : Array Bool) (a : Act) (w : World),
      (∀ j oj, ops[j]? = some oj → j ≠ i → listed.getD j true = false → (∀ e ∈ oj.after, Region.binds md e = true → e.on ≠ i) → oi.apart ops oj = true) →
      i ∈ Region.ready md ops listed → YieldsIf P ops S oi v a → S w →
      wpAnyV P md ops Q S L fuel (listed.setIfInBounds i true) (a.put oi.dst v) w → wpAnyV P md ops Q S L (fuel + 1) listed a w := by
  have notL : ∀ (listed : Array Bool) (j : Nat), i ∈ Region.ready md ops listed → j ∈ Region.ready md ops listed → j ≠ L := by
    rintro listed j hr hj rfl
    obtain ⟨oL, hoL, e, he, hb, heq⟩ := hL
    obtain ⟨_, oj, hoj, hall⟩ := mem_ready.1 hj
    rw [hoL] at hoj
    cases hoj
    have h1 := hall e he hb
    have h0 := (mem_ready.1 hr).1
    rw [heq] at h1
    rcases Nat.lt_or_ge i listed.size with h' | h'
    · simp [h'] at h0 h1; rw [h0] at h1; cases h1
    · simp [Array.getElem?_eq_none h'] at h1
  intro fuel
  induction fuel with
  | zero =>
    intro listed a w _ hr hy hS H
    refine ⟨fun h => (by rw [h] at hr; cases hr), fun j hj => ?_⟩
    by_cases hji : j = i
    · subst hji; exact hy.wpOp hi hS ⟨fun _ h => h, H⟩
    · have := ready_mono hj hji
      rw [H.1] at this
      cases this
  | succ fuel ih =>
    intro listed a w hfree hr hy hS H
    refine ⟨fun h => (by rw [h] at hr; cases hr), fun j hj => ?_⟩
    by_cases hji : j = i
    · subst hji; exact hy.wpOp hi hS ⟨fun _ h => h, H⟩
    · have hjL := notL listed j hr hj
      have h1 := H.2 j (ready_mono hj hji)
      obtain ⟨hjun, oj, hoj, hall⟩ := mem_ready.1 hj
      have hnot : ∀ e ∈ oj.after, Region.binds md e = true → e.on ≠ i := fun e he hb heq => by
        have h1 := hall e he hb
        have h0 := (mem_ready.1 hr).1
        rw [heq] at h1
        rcases Nat.lt_or_ge i listed.size with h' | h'
        · simp [h'] at h0 h1; rw [h0] at h1; cases h1
        · simp [Array.getElem?_eq_none h'] at h1
      have h2 := wpOp_putIf hoj (hfree j oj hoj hji hjun hnot) (fun cs b => hsel i oi cs b hi) (fun cs b => hsel j oj cs b hoj) hQ hy h1
      have hfree' : ∀ k ok, ops[k]? = some ok → k ≠ i → (listed.setIfInBounds j true).getD k true = false →
          (∀ e ∈ ok.after, Region.binds md e = true → e.on ≠ i) → oi.apart ops ok = true := fun k ok hk hki hun hno => by
        refine hfree k ok hk hki ?_ hno
        by_cases hjk : j = k
        · subst hjk; exact hjun
        · rw [getD_set_ne true hjk] at hun; exact hun
      refine wpOp_mono (fun a' w' h3 => ⟨h3.2.1, ih (listed.setIfInBounds j true) a' w' hfree' (ready_mono hr (Ne.symm hji)) h3.1 (h3.2.1 hjL hS) ?_⟩) h2
      rw [Array.setIfInBounds_comm _ _ hji]
      exact h3.2.2
theorem wpAnyV_any {i : Nat} {oi : Oper} {v : Value} (hi : ops[i]? = some oi) (hsel : ∀ (j : Nat) (o : Oper) cs b, ops[j]? = some o → o.op ≠ .select cs b)
    (hQ : ∀ c a w, Q (.panic c) (a.put oi.dst v) w → Q (.panic c) a w) :
    ∀ (fuel : Nat) (listed : Array Bool) (a : Act) (w : World),
      (∀ j oj, ops[j]? = some oj → j ≠ i → listed.getD j true = false → (∀ e ∈ oj.after, Region.binds md e = true → e.on ≠ i) → oi.apart ops oj = true) →
      i ∈ Region.ready md ops listed → YieldsIf P ops (fun _ => True) oi v a →
      wpAnyV P md ops Q S L fuel (listed.setIfInBounds i true) (a.put oi.dst v) w → wpAnyV P md ops Q S L (fuel + 1) listed a w := by
  intro fuel
  induction fuel with
  | zero =>
    intro listed a w _ hr hy H
    refine ⟨fun h => (by rw [h] at hr; cases hr), fun j hj => ?_⟩
    by_cases hji : j = i
    · subst hji; exact hy.wpOp hi trivial ⟨fun _ h => h, H⟩
    · have := ready_mono hj hji
      rw [H.1] at this
      cases this
  | succ fuel ih =>
    intro listed a w hfree hr hy H
    refine ⟨fun h => (by rw [h] at hr; cases hr), fun j hj => ?_⟩
    by_cases hji : j = i
    · subst hji; exact hy.wpOp hi trivial ⟨fun _ h => h, H⟩
    · have h1 := H.2 j (ready_mono hj hji)
      obtain ⟨hjun, oj, hoj, hall⟩ := mem_ready.1 hj
      have hnot : ∀ e ∈ oj.after, Region.binds md e = true → e.on ≠ i := fun e he hb heq => by
        have h1 := hall e he hb
        have h0 := (mem_ready.1 hr).1
        rw [heq] at h1
        rcases Nat.lt_or_ge i listed.size with h' | h'
        · simp [h'] at h0 h1; rw [h0] at h1; cases h1
        · simp [Array.getElem?_eq_none h'] at h1
      have h2 := wpOp_putIf hoj (hfree j oj hoj hji hjun hnot) (fun cs b => hsel i oi cs b hi) (fun cs b => hsel j oj cs b hoj) hQ hy h1
      have hfree' : ∀ k ok, ops[k]? = some ok → k ≠ i → (listed.setIfInBounds j true).getD k true = false →
          (∀ e ∈ ok.after, Region.binds md e = true → e.on ≠ i) → oi.apart ops ok = true := fun k ok hk hki hun hno => by
        refine hfree k ok hk hki ?_ hno
        by_cases hjk : j = k
        · subst hjk; exact hjun
        · rw [getD_set_ne true hjk] at hun; exact hun
      refine wpOp_mono (fun a' w' h3 => ⟨h3.2.1, ih (listed.setIfInBounds j true) a' w' hfree' (ready_mono hr (Ne.symm hji)) h3.1 ?_⟩) h2
      rw [Array.setIfInBounds_comm _ _ hji]
      exact h3.2.2
def waitsOnV (md : Region.Mode) (ops : Array Oper) (L i : Nat) : Bool := match ops[L]? with
  | some o => o.after.any fun e => Region.binds md e && e.on == i
  | none => false
theorem waitsOnV_spec {i : Nat} (h : waitsOnV md ops L i = true) : ∃ oL, ops[L]? = some oL ∧ ∃ e ∈ oL.after, Region.binds md e = true ∧ e.on = i := by
  unfold waitsOnV at h
  split at h
  · rename_i o ho
    obtain ⟨e, he, hb⟩ := Array.any_eq_true'.1 h
    simp only [Bool.and_eq_true, beq_iff_eq] at hb
    exact ⟨o, ho, e, he, hb.1, hb.2⟩
  · cases h
theorem wpAnyV_take {i : Nat} {oi : Oper} {v : Value} {fuel : Nat} {listed : Array Bool} {a : Act} {w : World} (hi : ops[i]? = some oi)
    (hs : Region.noSelect ops = true) (hf : Region.free md ops listed i = true) (hr : (Region.ready md ops listed).contains i = true) (hL : waitsOnV md ops L i = true)
    (hQ : ∀ c a w, Q (.panic c) (a.put oi.dst v) w → Q (.panic c) a w) (hy : YieldsIf P ops S oi v a) (hS : S w)
    (h : wpAnyV P md ops Q S L fuel (listed.setIfInBounds i true) (a.put oi.dst v) w) : wpAnyV P md ops Q S L (fuel + 1) listed a w :=
  wpAnyV_first hi (Region.noSelect_spec hs) hQ (waitsOnV_spec hL) fuel listed a w (Region.free_spec hi hf) (by simpa using hr) hy hS h
theorem wpAnyV_free {i : Nat} {oi : Oper} {v : Value} {fuel : Nat} {listed : Array Bool} {a : Act} {w : World} (hi : ops[i]? = some oi)
    (hs : Region.noSelect ops = true) (hf : Region.free md ops listed i = true) (hr : (Region.ready md ops listed).contains i = true)
    (hQ : ∀ c a w, Q (.panic c) (a.put oi.dst v) w → Q (.panic c) a w) (hy : YieldsIf P ops (fun _ => True) oi v a)
    (h : wpAnyV P md ops Q S L fuel (listed.setIfInBounds i true) (a.put oi.dst v) w) : wpAnyV P md ops Q S L (fuel + 1) listed a w :=
  wpAnyV_any hi (Region.noSelect_spec hs) hQ fuel listed a w (Region.free_spec hi hf) (by simpa using hr) hy h
theorem wpAnyV_one {i : Nat} {o : Oper} {fuel : Nat} {listed : Array Bool} {a : Act} {w : World} (hr : Region.ready md ops listed = [i]) (ho : ops[i]? = some o)
    (h : ∀ K' : Act → World → Prop, Shut (∀ a w', (i ≠ L → S w → S w') → ((i ≠ L → S w → S w') → wpAnyV P md ops Q S L fuel (listed.setIfInBounds i true) a w') → K' a w') → if Region.wanted o (yielded ops a.tmps) = true then Oper.wp P o a w K' Q else K' (a.put o.dst undef) w) :
    wpAnyV P md ops Q S L (fuel + 1) listed a w := by
  refine ⟨fun h => (by rw [hr] at h; cases h), fun j hj => ?_⟩
  rw [hr] at hj
  obtain rfl := List.mem_singleton.1 hj
  exact wpOp_step ho (fun K' hK => h K' (fun a w hS hW => hK a w ⟨hS, hW hS⟩))
theorem wpAnyV_two {i j : Nat} {o1 o2 : Oper} {fuel : Nat} {listed : Array Bool} {a : Act} {w : World} (hr : Region.ready md ops listed = [i, j]) (ho1 : ops[i]? = some o1) (ho2 : ops[j]? = some o2)
    (h1 : ∀ K' : Act → World → Prop, Shut (∀ a w', (i ≠ L → S w → S w') → ((i ≠ L → S w → S w') → wpAnyV P md ops Q S L fuel (listed.setIfInBounds i true) a w') → K' a w') → if Region.wanted o1 (yielded ops a.tmps) = true then Oper.wp P o1 a w K' Q else K' (a.put o1.dst undef) w)
    (h2 : ∀ K' : Act → World → Prop, Shut (∀ a w', (j ≠ L → S w → S w') → ((j ≠ L → S w → S w') → wpAnyV P md ops Q S L fuel (listed.setIfInBounds j true) a w') → K' a w') → if Region.wanted o2 (yielded ops a.tmps) = true then Oper.wp P o2 a w K' Q else K' (a.put o2.dst undef) w) :
    wpAnyV P md ops Q S L (fuel + 1) listed a w := by
  refine ⟨fun h => (by rw [hr] at h; cases h), fun k hk => ?_⟩
  rw [hr] at hk
  simp only [List.mem_cons, List.not_mem_nil, or_false] at hk
  rcases hk with rfl | rfl
  · exact wpOp_step ho1 (fun K' hK => h1 K' (fun a w hS hW => hK a w ⟨hS, hW hS⟩))
  · exact wpOp_step ho2 (fun K' hK => h2 K' (fun a w hS hW => hK a w ⟨hS, hW hS⟩))
theorem wpAnyV_done {listed : Array Bool} {a : Act} {w : World} (hr : Region.ready md ops listed = []) (h : Q .normal a w) : ∀ fuel, wpAnyV P md ops Q S L fuel listed a w
  | 0 => ⟨hr, h⟩
  | _ + 1 => ⟨fun _ => h, by rw [hr]; simp⟩
theorem wp_region_V (S : World → Prop) (L : Nat) {id : Nat} {a : Act} {w : World} (hm : P.follows .mixedOrders = true) (hS : S w.drew)
    (h : S w.drew → wpAnyV P .any ops Q S L ops.size (Array.replicate ops.size false) a w.drew) : (Code.region id ops true).wp P Q a w :=
  wp_region_any hm (wpAny_of_V _ _ _ _ (h hS))
theorem takeV (i : Nat) {oi : Oper} {v : Value} {fuel : Nat} {listed : Array Bool} {a : Act} {w : World} (hi : ops[i]? = some oi) (hc : (okH md ops listed i && waitsOnV md ops L i) = true)
    (hQ : ∀ c a w, Q (.panic c) (a.put oi.dst v) w → Q (.panic c) a w) (h1 : Region.wanted oi (yielded ops a.tmps) = true) (h2 : ∀ w, S w → (execOp a.eval oi).run P w = .ok (.value v) w) (hS : S w)
    (h : wpAnyV P md ops Q S L fuel (listed.setIfInBounds i true) (a.put oi.dst v) w) : wpAnyV P md ops Q S L (fuel + 1) listed a w := by
  rw [Bool.and_eq_true] at hc
  exact wpAnyV_take hi (okH_iff hc.1).1 (okH_iff hc.1).2.1 (okH_iff hc.1).2.2 hc.2 hQ (Or.inl ⟨h1, h2⟩) hS h
theorem freeV (i : Nat) {oi : Oper} {v : Value} {fuel : Nat} {listed : Array Bool} {a : Act} {w : World} (hi : ops[i]? = some oi) (hc : okH md ops listed i = true)
    (hQ : ∀ c a w, Q (.panic c) (a.put oi.dst v) w → Q (.panic c) a w) (h1 : Region.wanted oi (yielded ops a.tmps) = true) (h2 : ∀ w, (execOp a.eval oi).run P w = .ok (.value v) w)
    (h : wpAnyV P md ops Q S L fuel (listed.setIfInBounds i true) (a.put oi.dst v) w) : wpAnyV P md ops Q S L (fuel + 1) listed a w :=
  wpAnyV_free hi (okH_iff hc).1 (okH_iff hc).2.1 (okH_iff hc).2.2 hQ (Or.inl ⟨h1, fun w _ => h2 w⟩) h
theorem zV (i : Nat) {oi : Oper} {v : Value} {fuel : Nat} {listed : Array Bool} {a : Act} {w : World}
    (h : wpAnyV P md ops Q S L fuel (listed.setIfInBounds i true) (a.put oi.dst v) w) (hi : ops[i]? = some oi := by exact opAt rfl) (hc : (okH md ops listed i && waitsOnV md ops L i) = true := by kernel_rfl)
    (hQ : ∀ c a w, Q (.panic c) (a.put oi.dst v) w → Q (.panic c) a w := by exact fun _ _ _ h => h) (h1 : Region.wanted oi (yielded ops a.tmps) = true := by rfl)
    (h2 : ∀ w, S w → (execOp a.eval oi).run P w = .ok (.value v) w := by intro w hSw; (try dsimp only at hSw); go_simp; try with_reducible rfl) (hS : S w := by assumption) : wpAnyV P md ops Q S L (fuel + 1) listed a w :=
  takeV i hi hc hQ h1 h2 hS h
theorem yV (i : Nat) {oi : Oper} {v : Value} {fuel : Nat} {listed : Array Bool} {a : Act} {w : World}
    (h : wpAnyV P md ops Q S L fuel (listed.setIfInBounds i true) (a.put oi.dst v) w) (hi : ops[i]? = some oi := by exact opAt rfl) (hc : okH md ops listed i = true := by kernel_rfl)
    (hQ : ∀ c a w, Q (.panic c) (a.put oi.dst v) w → Q (.panic c) a w := by exact fun _ _ _ h => h) (h1 : Region.wanted oi (yielded ops a.tmps) = true := by rfl)
    (h2 : ∀ w, (execOp a.eval oi).run P w = .ok (.value v) w := by intro w; go_simp; try with_reducible rfl) : wpAnyV P md ops Q S L (fuel + 1) listed a w :=
  freeV i hi hc hQ h1 h2 h
end
end Go.Proofs.YtofjodppljnlaaaGreatDoor
namespace Go.Proofs.YtofjodppljnlaaaGreatDoor
open Go.RowKit
set_option linter.unusedVariables false
set_option linter.unusedSimpArgs false
theorem put_defers (a : Act) (d : Option Nat) (v : Value) : (a.put d v).defers = a.defers := by cases d <;> rfl
theorem upd3N (w : World) (b n : Nat) (x y z : Value) : Upd (fun q => q = b) w (((w.setCell ⟨b, n, none⟩ x).setCell ⟨b, n + 1, none⟩ y).setCell ⟨b, n + 2, none⟩ z) :=
  (((Upd.refl (fun q => q = b) w).setCell (p := ⟨b, n, none⟩) (fun _ => rfl) _).setCell (p := ⟨b, n + 1, none⟩) (fun _ => rfl) _).setCell (p := ⟨b, n + 2, none⟩) (fun _ => rfl) _
theorem reg29_end {V W w7 : World} {cb tb b7 c7 : Nat} {c0v c1v c2v c3v c5v : Value} {AE : Option Addr} {cE : Nat} {ek : List Ex} {k1 : Int} {nm1 : ByteArray} {l1 : List Ex} {A5 : Option Addr} {c5 s0 : Nat} {z : Ex}
    (h : NewS V cb tb c0v c1v c2v c3v c5v (.slice AE ek.length cE) ek W) (ht : W.heap[tb]? = some (.cells #[.int .i64 k1, .string nm1, .slice A5 l1.length c5] 92 (0, 0))) (hle : l1.length ≤ c5) (hr : exR.row W (fun q => s0 ≤ q) A5 l1)
    (hs0 : ∀ q, (Value.slice AE ek.length cE).ownBlock = some q → q < s0) (hVs : V.heap.size ≤ s0) (hcb : cb < V.heap.size) (htb : tb < V.heap.size) (hct : cb ≠ tb)
    (ho7 : exR.own 92 w7 (fun k => (V.heap.size ≤ k ∧ some k ≠ (Value.slice AE ek.length cE).ownBlock) ∨ (False ∧ k < W.drew.heap.size) ∨ (Value.slice (some ⟨b7, 0, none⟩) (ek.length + 1) c7).ownBlock = some k) (.slice (some ⟨b7, 0, none⟩) (ek.length + 1) c7) (ek ++ [z]))
    (hu7 : Upd (fun k => (Value.slice AE ek.length cE).ownBlock = some k) W.drew w7)
    (hat7 : (Value.slice (some ⟨b7, 0, none⟩) (ek.length + 1) c7).ownBlock = (Value.slice AE ek.length cE).ownBlock ∨ ∃ b, (Value.slice (some ⟨b7, 0, none⟩) (ek.length + 1) c7).ownBlock = some b ∧ W.drew.heap.size < b) :
    NewS V cb tb c0v c1v c2v c3v c5v (.slice (some ⟨b7, 0, none⟩) (ek.length + 1) c7) (ek ++ [.mk k1 nm1 l1]) ((((w7.setCell ⟨b7, ek.length * 3, none⟩ (.int .i64 k1)).setCell ⟨b7, ek.length * 3 + 1, none⟩ (.string nm1)).setCell ⟨b7, ek.length * 3 + 2, none⟩ (.slice A5 l1.length c5)).setCell ⟨cb, 4, none⟩ (.slice (some ⟨b7, 0, none⟩) (ek.length + 1) c7)) ∧
    NewS V cb tb c0v c1v c2v c3v c5v (.slice (some ⟨b7, 0, none⟩) (ek.length + 1) c7) (ek ++ [.mk k1 nm1 l1]) ((((w7.setCell ⟨cb, 4, none⟩ (.slice (some ⟨b7, 0, none⟩) (ek.length + 1) c7)).setCell ⟨b7, ek.length * 3, none⟩ (.int .i64 k1)).setCell ⟨b7, ek.length * 3 + 1, none⟩ (.string nm1)).setCell ⟨b7, ek.length * 3 + 2, none⟩ (.slice A5 l1.length c5)) := by
  have hsz := h.up.size
  have hE : ∀ q, (Value.slice AE ek.length cE).ownBlock = some q → V.heap.size ≤ q := fun q hq => (Rp.own_block_lt h.own q hq).1
  have hown7 : (Value.slice (some ⟨b7, 0, none⟩) (ek.length + 1) c7).ownBlock = some b7 := rfl
  have hdz : W.drew.heap.size = W.heap.size := rfl
  have hb7 : V.heap.size ≤ b7 := by
    rcases hat7 with h9 | ⟨q, hq, hlt⟩
    · exact hE b7 (h9 ▸ rfl)
    · rw [hown7] at hq
      injection hq with hq
      omega
  have hb7n : ∀ q, s0 ≤ q → q < W.heap.size → q ≠ b7 := by
    intro q h1 h2 e
    rcases hat7 with h9 | ⟨q', hq, hlt⟩
    · have := hs0 b7 (h9 ▸ rfl)
      omega
    · rw [hown7] at hq
      injection hq with hq
      omega
  have n1 : ¬ (Value.slice AE ek.length cE).ownBlock = some tb := fun h => by have := hE tb h; omega
  have n2 : ¬ (Value.slice AE ek.length cE).ownBlock = some cb := fun h => by have := hE cb h; omega
  have hclt := (Array.getElem?_eq_some_iff.1 h.hc).1
  have htlt := (Array.getElem?_eq_some_iff.1 ht).1
  have hc7 : w7.heap[cb]? = _ := (hu7.block cb hclt n2).trans h.hc
  have ht7 : w7.heap[tb]? = _ := (hu7.block tb htlt n1).trans ht
  have hr7 := Rp.row_upd (Rp.row_move (fun k hk hl => And.intro (And.intro hk hl) ⟨hl, rfl⟩) hr : exR.row W.drew (fun k => s0 ≤ k ∧ k < W.heap.size) A5 l1) hu7 (fun q _ hq h9 => by have := hs0 q h9; omega)
  have hcb7 : ¬ cb = b7 := by omega
  have htb7 : ¬ tb = b7 := by omega
  have hup7 : Upd (fun q => q = cb ∨ q = tb) V w7 := h.up.drew.trans hu7 (fun q hq h9 => by have := hE q h9; omega)
  have hset : ∀ w : World, Upd (fun q => q = b7) w (((w.setCell ⟨b7, ek.length * 3, none⟩ (.int .i64 k1)).setCell ⟨b7, ek.length * 3 + 1, none⟩ (.string nm1)).setCell ⟨b7, ek.length * 3 + 2, none⟩ (.slice A5 l1.length c5)) := fun w =>
    (((Upd.refl (fun q => q = b7) w).setCell (p := ⟨b7, ek.length * 3, none⟩) (fun _ => rfl) _).setCell (p := ⟨b7, ek.length * 3 + 1, none⟩) (fun _ => rfl) _).setCell (p := ⟨b7, ek.length * 3 + 2, none⟩) (fun _ => rfl) _
  have hcset : ∀ (w : World) (v : Value), Upd (fun q => q = cb) w (w.setCell ⟨cb, 4, none⟩ v) := fun w v => (Upd.refl (fun q => q = cb) w).setCell (p := ⟨cb, 4, none⟩) (fun _ => rfl) _
  have hF : ∀ q, s0 ≤ q ∧ q < W.heap.size → ((V.heap.size ≤ q ∧ some q ≠ (Value.slice AE ek.length cE).ownBlock) ∨ (False ∧ q < W.drew.heap.size) ∨ (Value.slice (some ⟨b7, 0, none⟩) (ek.length + 1) c7).ownBlock = some q) ∧ q ≠ b7 := fun q hq =>
    ⟨.inl ⟨by omega, fun e => by have := hs0 q e.symm; omega⟩, hb7n q hq.1 hq.2⟩
  have hG : ∀ k, ((V.heap.size ≤ k ∧ some k ≠ (Value.slice AE ek.length cE).ownBlock) ∨ (False ∧ k < W.drew.heap.size) ∨ (Value.slice (some ⟨b7, 0, none⟩) (ek.length + 1) c7).ownBlock = some k) → V.heap.size ≤ k := by
    rintro k (⟨h1, _⟩ | ⟨h1, _⟩ | h1)
    · exact h1
    · exact h1.elim
    · rw [hown7] at h1
      injection h1 with h1
      omega
  constructor
  · refine ⟨(hup7.trans (hset w7) (fun q hq h9 => by omega)).trans (hcset _ _) (fun q hq h9 => .inl h9), ?_, ?_, ?_⟩
    · simp [World.setCell, Array.getElem?_modify, hc7, hcb7, Ne.symm hcb7]
    · exact ⟨_, _, _, by
        rw [(hcset _ _).block tb (by simp [World.setCell]; exact (Array.getElem?_eq_some_iff.1 ht7).1) (fun e => hct e.symm), (hset w7).block tb (Array.getElem?_eq_some_iff.1 ht7).1 htb7]
        exact ht7⟩
    · exact Rp.own_upd (Rp.own_fp (own_last3 ho7 hr7 hF hle) hG) (hcset _ _) (fun q hq1 hq2 hq3 => by omega)
  · refine ⟨(hup7.trans (hcset w7 _) (fun q hq h9 => .inl h9)).trans (hset _) (fun q hq h9 => by omega), ?_, ?_, ?_⟩
    · rw [(hset _).block cb (by simp [World.setCell]; exact (Array.getElem?_eq_some_iff.1 hc7).1) hcb7]
      simp [World.setCell, Array.getElem?_modify, hc7]
    · exact ⟨_, _, _, by
        rw [(hset _).block tb (by simp [World.setCell]; exact (Array.getElem?_eq_some_iff.1 ht7).1) htb7, (hcset _ _).block tb (Array.getElem?_eq_some_iff.1 ht7).1 (fun e => hct e.symm)]
        exact ht7⟩
    · exact Rp.own_fp (own_last3 (Rp.own_upd ho7 (hcset _ _) (fun q hq1 hq2 hq3 => by first | (have := hG q hq2; omega) | (have := hG q hq1; omega))) (Rp.row_upd hr7 (hcset _ _) (fun q _ hq hq2 => by omega)) hF hle) hG
set_option maxRecDepth 100000 in
set_option maxHeartbeats 4000000 in
theorem reg29 {V W : World} {cb tb : Nat} {c0v c1v c2v c3v c5v Ev : Value} {ek : List Ex} {k1 : Int} {nm1 : ByteArray} {l1 : List Ex} {A5 : Option Addr} {c5 s0 : Nat} (h : NewS V cb tb c0v c1v c2v c3v c5v Ev ek W)
    (ht : W.heap[tb]? = some (.cells #[.int .i64 k1, .string nm1, .slice A5 l1.length c5] 92 (0, 0))) (hle : l1.length ≤ c5) (hr : exR.row W (fun q => s0 ≤ q) A5 l1) (hs0 : ∀ q, Ev.ownBlock = some q → q < s0) (hVs : V.heap.size ≤ s0)
    (hcb : cb < V.heap.size) (htb : tb < V.heap.size) (hct : cb ≠ tb) (hkl : ek.length ≤ 15) {u0 u1 u2 u3 u4 u5 u6 u7 u8 u9 u10 u11 u12 u15 u16 u17 u18 u19 u20 u21 u22 u23 u24 u25 u26 u27 u28 u29 u30 u31 u32 u33 u34 u35 u36 u37 u38 u39 u40 u41 u42 u43 u44 u45 u46 u47 u48 u49 u50 u51 u52 u53 u54 u55 u56 u57 u58 u59 u60 u61 u62 u63 u64 u65 u66 u67 u68 u69 u70 u71 u72 u73 u74 u75 u76 u77 u78 u79 u80 u81 u82 u83 u84 u85 u86 u87 u88 u89 u90 u91 u92 u93 u94 u95 u96 u97 u98 u99 u100 u101 u102 u103 u104 u105 u106 u107 u108 u109 u110 u111 u112 u113 u114 u115 u116 u117 u118 u119 u120 u121 u122 u123 u124 u125 u126 u127 u128 u129 u130 u131 u132 u133 u134 u135 u136 u137 u138 u139 u140 u141 u142 u143 u144 u145 u146 u147 u148 u149 u150 u151 u152 u153 u154 u155 : Value} {Q : Exit → Act → World → Prop}
    (hQp : ∀ (c : _) (a1 a2 : Act) (w : World), a1.defers = a2.defers → Q (.panic c) a1 w → Q (.panic c) a2 w)
    (hQ : ∀ (x144 x145 x146 x147 x148 x149 x150 x151 x152 x153 x154 : Value) (w' : World), (∃ Ev', NewS V cb tb c0v c1v c2v c3v c5v Ev' (ek ++ [.mk k1 nm1 l1]) w') → Q .normal { tmps := #[u0, u1, u2, u3, u4, u5, u6, u7, u8, u9, u10, u11, u12, .pointer (some ⟨cb, 0, none⟩), .pointer (some ⟨tb, 0, none⟩), u15, u16, u17, u18, u19, u20, u21, u22, u23, u24, u25, u26, u27, u28, u29, u30, u31, u32, u33, u34, u35, u36, u37, u38, u39, u40, u41, u42, u43, u44, u45, u46, u47, u48, u49, u50, u51, u52, u53, u54, u55, u56, u57, u58, u59, u60, u61, u62, u63, u64, u65, u66, u67, u68, u69, u70, u71, u72, u73, u74, u75, u76, u77, u78, u79, u80, u81, u82, u83, u84, u85, u86, u87, u88, u89, u90, u91, u92, u93, u94, u95, u96, u97, u98, u99, u100, u101, u102, u103, u104, u105, u106, u107, u108, u109, u110, u111, u112, u113, u114, u115, u116, u117, u118, u119, u120, u121, u122, u123, u124, u125, u126, u127, u128, u129, u130, u131, u132, u133, u134, u135, u136, u137, u138, u139, u140, u141, u142, u143, x144, x145, x146, x147, x148, x149, x150, x151, x152, x153, x154, u155], defers := [] } w') :
    (Code.region 29 #[{ dst := (some 144), op := (Go.Op.move (Go.Operand.tmp 13)), type := 26, pos := "ref.go:84", after := #[], guard := none }, { dst := (some 145), op := (Go.Op.nilCheck (Go.Operand.tmp 144)), type := 0, pos := "ref.go:84", after := #[{ on := 0, ground := Go.Ground.data }], guard := none }, { dst := (some 146), op := (Go.Op.fieldAddr 105 (Go.Operand.tmp 145) 2), type := 0, pos := "ref.go:84", after := #[{ on := 1, ground := Go.Ground.data }], guard := none }, { dst := (some 147), op := (Go.Op.load 90 (Go.Operand.tmp 146)), type := 90, pos := "ref.go:84", after := #[{ on := 2, ground := Go.Ground.data }], guard := none }, { dst := (some 148), op := (Go.Op.load 92 (Go.Operand.tmp 14)), type := 92, pos := "ref.go:84", after := #[], guard := none }, { dst := (some 149), op := (Go.Op.call { callee := (Go.Callee.builtin Go.Builtin.len), args := #[(Go.Operand.tmp 147)], argTypes := #[90] }), type := 3, pos := "ref.go:84", after := #[{ on := 3, ground := Go.Ground.data }], guard := none }, { dst := (some 150), op := (Go.Op.buildSlice 90 1 #[(0, (Go.Operand.const (Go.Value.agg #[(Go.Value.int Go.IntKind.i64 0), (Go.Value.string { data := #[] }), (Go.Value.slice none 0 0)])))]), type := 90, pos := "ref.go:84", after := #[], guard := none }, { dst := (some 151), op := (Go.Op.call { callee := (Go.Callee.builtin Go.Builtin.append), args := #[(Go.Operand.tmp 147), (Go.Operand.tmp 150)], argTypes := #[90, 90] }), type := 90, pos := "ref.go:84", after := #[{ on := 3, ground := Go.Ground.data }, { on := 6, ground := Go.Ground.data }, { on := 0, ground := Go.Ground.phase }, { on := 1, ground := Go.Ground.phase }, { on := 2, ground := Go.Ground.phase }, { on := 3, ground := Go.Ground.phase }, { on := 4, ground := Go.Ground.phase }, { on := 5, ground := Go.Ground.phase }, { on := 6, ground := Go.Ground.phase }], guard := none }, { dst := (some 152), op := (Go.Op.indexAddr 90 (Go.Operand.tmp 151) (Go.Operand.tmp 149)), type := 0, pos := "ref.go:84", after := #[{ on := 7, ground := Go.Ground.data }, { on := 5, ground := Go.Ground.data }, { on := 0, ground := Go.Ground.phase }, { on := 1, ground := Go.Ground.phase }, { on := 2, ground := Go.Ground.phase }, { on := 3, ground := Go.Ground.phase }, { on := 4, ground := Go.Ground.phase }, { on := 5, ground := Go.Ground.phase }, { on := 6, ground := Go.Ground.phase }, { on := 7, ground := Go.Ground.phase }, { on := 12, ground := (Go.Ground.gcOnly Go.Departure.appendInPlace) }], guard := none }, { dst := none, op := (Go.Op.store 92 (Go.Operand.tmp 152) (Go.Operand.tmp 148)), type := 0, pos := "ref.go:84", after := #[{ on := 8, ground := Go.Ground.data }, { on := 4, ground := Go.Ground.data }, { on := 7, ground := Go.Ground.chain }, { on := 0, ground := Go.Ground.phase }, { on := 1, ground := Go.Ground.phase }, { on := 2, ground := Go.Ground.phase }, { on := 3, ground := Go.Ground.phase }, { on := 4, ground := Go.Ground.phase }, { on := 5, ground := Go.Ground.phase }, { on := 6, ground := Go.Ground.phase }, { on := 7, ground := Go.Ground.phase }, { on := 12, ground := (Go.Ground.gcOnly Go.Departure.appendInPlace) }], guard := none }, { dst := (some 153), op := (Go.Op.nilCheck (Go.Operand.tmp 144)), type := 0, pos := "ref.go:84", after := #[{ on := 0, ground := Go.Ground.data }, { on := 0, ground := Go.Ground.phase }, { on := 1, ground := Go.Ground.phase }, { on := 2, ground := Go.Ground.phase }, { on := 3, ground := Go.Ground.phase }, { on := 4, ground := Go.Ground.phase }, { on := 5, ground := Go.Ground.phase }, { on := 6, ground := Go.Ground.phase }, { on := 7, ground := Go.Ground.phase }, { on := 8, ground := (Go.Ground.textOnly Go.Departure.appendInPlace) }, { on := 9, ground := (Go.Ground.textOnly Go.Departure.appendInPlace) }], guard := none }, { dst := (some 154), op := (Go.Op.fieldAddr 105 (Go.Operand.tmp 153) 2), type := 0, pos := "ref.go:84", after := #[{ on := 10, ground := Go.Ground.data }, { on := 0, ground := Go.Ground.phase }, { on := 1, ground := Go.Ground.phase }, { on := 2, ground := Go.Ground.phase }, { on := 3, ground := Go.Ground.phase }, { on := 4, ground := Go.Ground.phase }, { on := 5, ground := Go.Ground.phase }, { on := 6, ground := Go.Ground.phase }, { on := 7, ground := Go.Ground.phase }, { on := 8, ground := (Go.Ground.textOnly Go.Departure.appendInPlace) }, { on := 9, ground := (Go.Ground.textOnly Go.Departure.appendInPlace) }], guard := none }, { dst := none, op := (Go.Op.store 90 (Go.Operand.tmp 154) (Go.Operand.tmp 151)), type := 0, pos := "ref.go:84", after := #[{ on := 11, ground := Go.Ground.data }, { on := 7, ground := Go.Ground.data }, { on := 7, ground := Go.Ground.chain }, { on := 9, ground := (Go.Ground.textOnly Go.Departure.appendInPlace) }, { on := 0, ground := Go.Ground.phase }, { on := 1, ground := Go.Ground.phase }, { on := 2, ground := Go.Ground.phase }, { on := 3, ground := Go.Ground.phase }, { on := 4, ground := Go.Ground.phase }, { on := 5, ground := Go.Ground.phase }, { on := 6, ground := Go.Ground.phase }, { on := 7, ground := Go.Ground.phase }, { on := 8, ground := (Go.Ground.textOnly Go.Departure.appendInPlace) }, { on := 9, ground := (Go.Ground.textOnly Go.Departure.appendInPlace) }], guard := none }] true).wp Tryz.prog Q { tmps := #[u0, u1, u2, u3, u4, u5, u6, u7, u8, u9, u10, u11, u12, .pointer (some ⟨cb, 0, none⟩), .pointer (some ⟨tb, 0, none⟩), u15, u16, u17, u18, u19, u20, u21, u22, u23, u24, u25, u26, u27, u28, u29, u30, u31, u32, u33, u34, u35, u36, u37, u38, u39, u40, u41, u42, u43, u44, u45, u46, u47, u48, u49, u50, u51, u52, u53, u54, u55, u56, u57, u58, u59, u60, u61, u62, u63, u64, u65, u66, u67, u68, u69, u70, u71, u72, u73, u74, u75, u76, u77, u78, u79, u80, u81, u82, u83, u84, u85, u86, u87, u88, u89, u90, u91, u92, u93, u94, u95, u96, u97, u98, u99, u100, u101, u102, u103, u104, u105, u106, u107, u108, u109, u110, u111, u112, u113, u114, u115, u116, u117, u118, u119, u120, u121, u122, u123, u124, u125, u126, u127, u128, u129, u130, u131, u132, u133, u134, u135, u136, u137, u138, u139, u140, u141, u142, u143, u144, u145, u146, u147, u148, u149, u150, u151, u152, u153, u154, u155], defers := [] } W := by
  have hct2 : ¬ tb = cb := fun e => hct e.symm
  have hct1 : ¬ cb = tb := hct
  obtain ⟨AE, cE, rfl, _, _⟩ := Rp.own_slice h.own
  have HO6 := As.mk (Rp.own_drew h.own)
  have hE6 : W.cell? ⟨cb, 4, none⟩ = some (.slice AE ek.length cE) := (cells6 h.hc).1.2.2.2.2.1
  have hE6d : W.drew.cell? ⟨cb, 4, none⟩ = some (.slice AE ek.length cE) := hE6
  obtain ⟨⟨g0, g1', g2⟩, _, gl⟩ := cells3P ht
  have hcl6 := (cells6 h.hc).2.2
  have hcf6 := (cells6 h.hc).2.1 4
  have hEo : ∀ q, (Value.slice AE ek.length cE).ownBlock = some q → V.heap.size ≤ q := fun q h9 => (Rp.own_block_lt h.own q h9).1
  have HSK : As (∀ v, Upd (fun q => (Value.slice AE ek.length cE).ownBlock = some q) W.drew v → v.cell? ⟨cb, 4, none⟩ = some (.slice AE ek.length cE) ∧ v.frozen? ⟨cb, 4, none⟩ = false ∧ v.cell? ⟨tb, 0, none⟩ = some (.int .i64 k1) ∧ v.cell? ⟨tb, 1, none⟩ = some (.string nm1) ∧ v.cell? ⟨tb, 2, none⟩ = some (.slice A5 l1.length c5)) := ⟨by
    intro v hu
    have n1 : ¬ (Value.slice AE ek.length cE).ownBlock = some tb := fun h => by have := hEo tb h; omega
    have n2 : ¬ (Value.slice AE ek.length cE).ownBlock = some cb := fun h => by have := hEo cb h; omega
    exact ⟨(hu.cell hcl6 n2).trans hE6, (hu.frozen hcl6 n2).trans hcf6, (hu.cell gl n1).trans g0, (hu.cell gl n1).trans g1', (hu.cell gl n1).trans g2⟩⟩
  have HH := As.mk h
  have HT := As.mk ht
  have HR := As.mk hr
  have HEO := As.mk hEo
  have HQ := As.mk hQ
  have hsz := h.up.size
  have i7 : (ek.length : Int) < ((ek.length + 1 : Nat) : Int) := by omega
  have i8 : (ek.length : Int) < (ek.length : Int) + 1 := by omega
  have HS0 := As.mk hs0
  clear h ht hr hEo hQ hs0
  refine wp_region_V (P := Tryz.prog) (fun v => v.cell? ⟨cb, 4, none⟩ = some (.slice AE ek.length cE) ∧ v.frozen? ⟨cb, 4, none⟩ = false ∧ v.cell? ⟨tb, 0, none⟩ = some (.int .i64 k1) ∧ v.cell? ⟨tb, 1, none⟩ = some (.string nm1) ∧ v.cell? ⟨tb, 2, none⟩ = some (.slice A5 l1.length c5)) 12 (by kernel_rfl) ?_ (fun hHeld => ?_)
  · exact HSK.out _ (Upd.refl _ _)
  refine yV 0 ?_ (hQ := fun _ _ _ h => hQp _ _ _ _ (put_defers _ _ _) h)
  (try simp only [Act.put, sA, sB, sC])
  refine yV 1 ?_ (hQ := fun _ _ _ h => hQp _ _ _ _ (put_defers _ _ _) h)
  (try simp only [Act.put, sA, sB, sC])
  refine yV 2 ?_ (hQ := fun _ _ _ h => hQp _ _ _ _ (put_defers _ _ _) h)
  (try simp only [Act.put, sA, sB, sC])
  refine zV 3 ?_ (hQ := fun _ _ _ h => hQp _ _ _ _ (put_defers _ _ _) h)
  (try simp only [Act.put, sA, sB, sC])
  refine zV 4 ?_ (hQ := fun _ _ _ h => hQp _ _ _ _ (put_defers _ _ _) h)
  (try simp only [Act.put, sA, sB, sC])
  refine yV 5 ?_ (hQ := fun _ _ _ h => hQp _ _ _ _ (put_defers _ _ _) h)
  (try simp only [Act.put, sA, sB, sC])
  refine wpAnyV_one (i := 6) (by kernel_rfl) (by exact opAt rfl) (fun K hK => ?_)
  go_simp
  refine hK.out _ _ (fun _ _ => HSK.out _ (Upd.alloc1 _ _ _)) (fun hHeld2 => ?_)
  replace hHeld := hHeld2 (by decide) hHeld
  clear hHeld2 hK K
  (try simp only [Act.put, sA, sB, sC])
  refine wpAnyV_one (i := 7) (by kernel_rfl) (by exact opAt rfl) (fun K hK => ?_)
  refine Rp.step_append_keen exR (W := W.drew) (Fp := fun _ => False) HO6.out (.mk 0 ⟨#[]⟩ []) [.int .i64 0, .string ⟨#[]⟩, .slice none 0 0] (ExRep.of_parts (l := []) (Nat.le_refl _) (.inl rfl)) (fun _ h => h.elim) (by rfl) _ _ 90 (.agg #[.int .i64 0, .string ⟨#[]⟩, .slice none 0 0]) 48 (by rfl) Tryz.underlying90 ex_info rfl (by decide) (by decide) (by rfl) (n := W.heap.size) rfl (by rfl) (by omega) ?_; intro v7 w7 ho7 hu7 hat7
  obtain ⟨b7, c7, rfl⟩ := own_formE ho7
  have HEND := As.mk (reg29_end HH.out HT.out hle HR.out HS0.out hVs hcb htb hct ho7 hu7 hat7)
  obtain ⟨⟨u0c, u1c, u2c, a0, a1, a2⟩, ⟨af0, af1, af2⟩, al7⟩ := own_last_cells ho7
  have hb7 : V.heap.size ≤ b7 := by
    rcases hat7 with h | ⟨q, hq, hlt⟩
    · exact HEO.out b7 (h ▸ rfl)
    · have hq' : b7 = q := by simpa [Value.ownBlock] using hq
      have h3 : W.drew.heap.size = W.heap.size := rfl
      omega
  have hb7c : ¬ b7 = cb := by omega
  have hb7c2 : ¬ cb = b7 := by omega
  have hb7t : ¬ b7 = tb := by omega
  have hb7t2 : ¬ tb = b7 := by omega
  have HS7 := As.mk (HSK.out _ hu7)
  have hlc7 : cb < w7.heap.size := World.block_lt_of_cell? w7 _ HS7.out.1
  have hlt7 : tb < w7.heap.size := World.block_lt_of_cell? w7 _ HS7.out.2.2.1
  have HKW : As (∀ v v' : World, (v.cell? ⟨cb, 4, none⟩ = some (.slice AE ek.length cE) ∧ v.frozen? ⟨cb, 4, none⟩ = false ∧ v.cell? ⟨tb, 0, none⟩ = some (.int .i64 k1) ∧ v.cell? ⟨tb, 1, none⟩ = some (.string nm1) ∧ v.cell? ⟨tb, 2, none⟩ = some (.slice A5 l1.length c5)) → cb < v.heap.size → tb < v.heap.size → Upd (fun q => q = b7) v v' → v'.cell? ⟨cb, 4, none⟩ = some (.slice AE ek.length cE) ∧ v'.frozen? ⟨cb, 4, none⟩ = false ∧ v'.cell? ⟨tb, 0, none⟩ = some (.int .i64 k1) ∧ v'.cell? ⟨tb, 1, none⟩ = some (.string nm1) ∧ v'.cell? ⟨tb, 2, none⟩ = some (.slice A5 l1.length c5)) := ⟨by
    rintro v v' ⟨z1, z2, z3, z4, z5⟩ hc ht hu
    exact ⟨(hu.cell hc hb7c2).trans z1, (hu.frozen hc hb7c2).trans z2, (hu.cell ht hb7t2).trans z3, (hu.cell ht hb7t2).trans z4, (hu.cell ht hb7t2).trans z5⟩⟩
  clear ho7 hu7 hat7
  refine hK.out _ _ (fun _ _ => HS7.out) (fun hHeld2 => ?_)
  replace hHeld := hHeld2 (by decide) hHeld
  clear hHeld2 hK K
  (try simp only [Act.put, sA, sB, sC])
  refine yV 8 ?_ (hQ := fun _ _ _ h => hQp _ _ _ _ (put_defers _ _ _) h)
  (try simp only [Act.put, sA, sB, sC])
  refine yV 10 ?_ (hQ := fun _ _ _ h => hQp _ _ _ _ (put_defers _ _ _) h)
  (try simp only [Act.put, sA, sB, sC])
  refine yV 11 ?_ (hQ := fun _ _ _ h => hQp _ _ _ _ (put_defers _ _ _) h)
  (try simp only [Act.put, sA, sB, sC])
  refine wpAnyV_two (i := 9) (j := 12) (by kernel_rfl) (by exact opAt rfl) (by exact opAt rfl) (fun K hK => ?wa) (fun K hK => ?wb)
  case' wa =>
    go_simp
    refine hK.out _ _ (fun _ hS => HKW.out _ _ hS hlc7 hlt7 (upd3N _ _ _ _ _ _)) (fun hHeld2 => ?_)
    replace hHeld := hHeld2 (by decide) hHeld
    clear hHeld2 hK K
    (try simp only [Act.put, sA, sB, sC])
    refine wpAnyV_one (i := 12) (by kernel_rfl) (by exact opAt rfl) (fun K hK => ?_)
    obtain ⟨e4, ef, e0, e1, e2⟩ := hHeld
    go_simp
    refine hK.out _ _ (fun h => absurd rfl h) (fun _ => ?_)
    clear hK K
    (try simp only [Act.put, sA, sB, sC])
    refine wpAnyV_done (by kernel_rfl) ?_ _
    exact HQ.out _ _ _ _ _ _ _ _ _ _ _ _ ⟨_, HEND.out.1⟩
  case' wb =>
    go_simp
    refine hK.out _ _ (fun h => absurd rfl h) (fun _ => ?_)
    clear hK K
    (try simp only [Act.put, sA, sB, sC])
    refine wpAnyV_one (i := 9) (by kernel_rfl) (by exact opAt rfl) (fun K hK => ?_)
    go_simp
    refine hK.out _ _ (fun _ hS => HKW.out _ _ hS (by simpa [World.setCell] using hlc7) (by simpa [World.setCell] using hlt7) (upd3N _ _ _ _ _ _)) (fun _ => ?_)
    clear hK K
    (try simp only [Act.put, sA, sB, sC])
    refine wpAnyV_done (by kernel_rfl) ?_ _
    exact HQ.out _ _ _ _ _ _ _ _ _ _ _ _ ⟨_, HEND.out.2⟩
end Go.Proofs.YtofjodppljnlaaaGreatDoor
namespace Go.Proofs.YtofjodppljnlaaaGreatDoor
open Go
section
variable {P : Program} {ops : Array Oper} {Q : Exit → Act → World → Prop} {md : Region.Mode} {S : World → Prop} {L : Nat}
end
end Go.Proofs.YtofjodppljnlaaaGreatDoor
namespace Go.Proofs.YtofjodppljnlaaaGreatDoor
open Go.RowKit
set_option linter.unusedVariables false
set_option linter.unusedSimpArgs false
theorem Rp.row_here6 {α : Type} {d : Rp α} {w : World} {F : Nat → Prop} {A : Option Addr} {xs : List α} (h : d.row w F A xs) : d.row w (fun k => k < w.heap.size) A xs := Rp.row_move (fun _ _ hl => ⟨hl, hl, rfl⟩) h
theorem grp_info6 : (Tryz.prog.info? 85).map (fun i => (i.zero, i.size, i.bytes)) = some (some (.agg #[.string ⟨#[]⟩, .slice none 0 0]), 2, 40) := by kernel_rfl
theorem fits_parts {x : Spec} (h : fitsB x = true) : ¬ x.marks < 0 ∧ ¬ x.marks > 7 ∧ ¬ x.least < 0 ∧ ¬ x.least > x.most ∧ ¬ x.most > 15 ∧ (x.leaf = true → x.expr = ⟨#[]⟩) := by
  unfold fitsB at h
  simp only [Bool.and_eq_true, decide_eq_true_eq, Bool.or_eq_true, Bool.not_eq_true'] at h
  obtain ⟨⟨⟨⟨⟨h1, h2⟩, h3⟩, h4⟩, h5⟩, h6⟩ := h
  refine ⟨by omega, by omega, by omega, by omega, by omega, fun hl => ?_⟩
  rcases h6 with h6 | h6
  · rw [h6] at hl; cases hl
  · have : x.expr.data = #[] := Array.eq_empty_of_size_eq_zero h6
    cases x with
    | mk a b c d e f g => cases b; simp_all
set_option maxRecDepth 100000 in
set_option maxHeartbeats 4000000 in
theorem New6_calls {w : World} {F G : Nat → Prop} {A Bg : Option Addr} {c d : Nat} {whole : ByteArray} {l : List Spec} {g : List Grp} {e0 : Ex} {es : List Ex} (hr : specR.row w F A l) (hg : grpR.row w G Bg g) (hl : l.length ≤ 15) (hgl : g.length ≤ 16)
    (hls : ∀ x ∈ l.map (·.name) ++ g.map (·.name), x.size ≤ 1048576) (hgs : ∀ x ∈ g, x.types.length ≤ 1000) (hnm : okNames (l.map (·.name) ++ g.map (·.name)) = true) (hft : ∀ x ∈ l, fitsB x = true) (hes : es.length = l.length)
    (hp0 : Parses6 whole e0 ∧ regCheck e0 (newGroups l g) = 0 ∧ e0.wt ≤ 1048576) (hpe : ∀ (k : Nat) (s : Spec) (e : Ex), l[k]? = some s → es[k]? = some e → Parses6 s.expr e ∧ regCheck e (newGroups l g) = 0 ∧ e.wt ≤ 1048576) :
    Calls Tryz.prog 62 #[.string whole, .slice A l.length c, .slice Bg g.length d] w fun r w' => ∃ cb, r = .returned (.tuple #[.pointer (some ⟨cb, 0, none⟩), .int .i64 0]) ∧ Sch6 w' cb l e0 es (newGroups l g) ∧ Pure w w' := by
  have HR := As.mk hr
  have HG := As.mk (Rp.row_here6 hg)
  have HTW := As.mk (twice_calls (c := c) (d := d) hr hg (by omega) (by omega) (fun x hx => by have := hls x hx; omega) hnm)
  have HFT := As.mk hft
  have HP0 := As.mk hp0
  have HPE := As.mk hpe
  have HGS := As.mk hgs
  have t1 : ¬ ((l.length : Int) > 15) := by omega
  have t2 : ¬ ((g.length : Int) > 16) := by omega
  have HES := As.mk hes
  have HGT := As.mk (newGroups_types (l := l) (g := g) (fun x hx => ⟨hls _ (List.mem_append_right _ (List.mem_map.2 ⟨x, hx, rfl⟩)), hgs x hx⟩))
  have HGL := As.mk (show (newGroups l g).length ≤ 1048576 by show (_ :: _).length ≤ _; rw [List.length_cons, List.length_append, ownGroups_length]; omega)
  have HNG : As (⟨textName, [0]⟩ :: (ownGroups l ++ g) = newGroups l g) := ⟨rfl⟩
  generalize newGroups l g = gs at *
  clear hr hg hls hgs hnm hft hp0 hpe hes
  go_enter Tryz.func62, Tryz.ntmps62
  go_wp2_with (go_at_call 126; refine HTW.out.mono ?_; rintro e w1 ⟨rfl, hu⟩; have HU1 := As.mk hu; clear hu)
  go_loopg [8] l.length (fun gg i wr => ∃ k : Nat, k + gg = l.length ∧ i = .int .i64 k ∧ As (Pure w wr))
  case atStart => exact ⟨0, by omega, rfl, HU1⟩
  case round =>
    obtain ⟨k, hk, rfl, HP⟩ := hrel
    by_cases hlt : k < l.length
    · obtain ⟨x, hx⟩ : ∃ x, l[k]? = some x := ⟨_, List.getElem?_eq_getElem hlt⟩
      obtain ⟨bx, ox, rfl, hFb, hbb, d0, d1, d2, d3, d4, d5, d6⟩ := spec_at (Rp.row_pure HR.out HP.out) hx
      obtain ⟨g1, rfl⟩ : ∃ m, gk = m + 1 := ⟨gk - 1, by omega⟩
      obtain ⟨f1, f2, f3, f4, f5, f6⟩ := fits_parts (HFT.out x (List.mem_of_getElem? hx))
      have HK := As.mk hk
      clear hk hx
      obtain ⟨xn, xe, xl, xm, x1, x2, x3⟩ := x
      cases xl with
      | false =>
        clear f6
        go_wp2
        go_roundg g1
        case measure => omega
        case rel => exact ⟨k + 1, by have := HK.out; omega, by go_num, ⟨HP.out.alloc _⟩⟩
      | true =>
        obtain rfl : xe = ⟨#[]⟩ := f6 rfl
        clear f6
        go_wp2
        go_roundg g1
        case measure => omega
        case rel => exact ⟨k + 1, by have := HK.out; omega, by go_num, ⟨HP.out.alloc _⟩⟩
    · have hrow0 : intR.row (wr.alloc (.cells #[.int .i64 0] 3)) (fun k => k = wr.heap.size) (some ⟨wr.heap.size, 0, none⟩) [0] := Rp.row_of_block (heap_alloc_new wr (.cells #[.int .i64 0] 3)) rfl (Reps.single (show intR.rep _ _ (0 : Int) [.int .i64 0] from rfl) rfl)
      have hw := HP.out.size
      have HO0 := As.mk (Rp.own_lit (e := 85) grpR (G := fun k => w.heap.size ≤ k) (⟨textName, [0]⟩ : Grp) [.string textName, .slice (some ⟨wr.heap.size, 0, none⟩) 1 1] ⟨_, _, rfl, Nat.le_refl _, hrow0⟩ (fun k hk _ => by subst hk; omega) (by simp; omega))
      have HP0' := As.mk (show Pure w ((wr.alloc (.cells #[.int .i64 0] 3)).alloc (.cells #[.string textName, .slice (some ⟨wr.heap.size, 0, none⟩) 1 1] 85)) from (HP.out.alloc _).alloc _)
      have hsz0 : (wr.alloc (.cells #[.int .i64 0] 3)).heap.size = wr.heap.size + 1 := by simp
      rw [hsz0] at HO0
      clear hrow0 hw hsz0 HP
      go_wp2
      go_loopg [11, 10] l.length (fun gg i v wx => ∃ k : Nat, k + gg = l.length ∧ i = .int .i64 k ∧ As (grpR.own 85 wx (fun q => w.heap.size ≤ q) v (⟨textName, [0]⟩ :: (ownGroups l).take k)) ∧ As (Pure w wx))
      case atStart => exact ⟨0, by omega, rfl, HO0, HP0'⟩
      case round =>
        clear HO0 HP0'
        obtain ⟨k, hk, rfl, HO, HP⟩ := hrel
        by_cases hlt : k < l.length
        · obtain ⟨x, hx⟩ : ∃ x, l[k]? = some x := ⟨_, List.getElem?_eq_getElem hlt⟩
          obtain ⟨Av, cv, rfl, _, _⟩ := Rp.own_slice HO.out
          obtain ⟨bx, ox, rfl, hFb, hbb, d0, d1, d2, d3, d4, d5, d6⟩ := spec_at (Rp.row_pure HR.out HP.out) hx
          obtain ⟨g1, rfl⟩ : ∃ m, gk = m + 1 := ⟨gk - 1, by omega⟩
          have HK := As.mk hk
          have HT := As.mk (show ⟨textName, [0]⟩ :: (ownGroups l).take (k + 1) = (⟨textName, [0]⟩ :: (ownGroups l).take k) ++ [⟨x.name, [(k : Int) + 1]⟩] by rw [ownGroups_take hx]; rfl)
          have hlk : (⟨textName, [0]⟩ :: (ownGroups l).take k).length ≤ 1000 := by rw [List.length_cons, List.length_take, ownGroups_length]; omega
          have hrow0 := As.mk (show intR.row (wr.alloc (.cells #[.int .i64 ((k : Int) + 1)] 3)) (fun q => q = wr.heap.size) (some ⟨wr.heap.size, 0, none⟩) [(k : Int) + 1] from Rp.row_of_block (heap_alloc_new wr (.cells #[.int .i64 ((k : Int) + 1)] 3)) rfl (Reps.single (show intR.rep _ _ ((k : Int) + 1) [.int .i64 ((k : Int) + 1)] from rfl) rfl))
          have hwrap : IntKind.i64.wrap ((k : Int) + 1) = (k : Int) + 1 := IntWalk.i64_in _ (by omega)
          have HSZ := As.mk HP.out.size
          clear hk hx
          go_wp2_with (at_builtin; refine Rp.own_append grpR (Rp.own_alloc HO.out _) (⟨x.name, [(k : Int) + 1]⟩ : Grp) [.string x.name, .slice (some ⟨wr.heap.size, 0, none⟩) 1 1] ⟨_, _, rfl, Nat.le_refl _, hrow0.out⟩ (Fp := fun q => q = wr.heap.size) (G := fun q => w.heap.size ≤ q) (fun q hq _ => ⟨by have := HSZ.out; omega, fun h => by have := (Rp.own_block_lt HO.out q h.symm).2; omega⟩) (fun _ h _ => h) (fun q hq => by have := HSZ.out; simp at hq; omega) rfl _ _ 86 _ 40 rfl Tryz.underlying86 grp_info6 rfl (by decide) (by decide) rfl (by simp [Act.eval]) (by omega) ?_; intro v1 w1 ho1 hu1; rw [← HT.out] at ho1; have HO1 := As.mk ho1; have HU1 := As.mk (Upd.trans (HP.out.alloc _) hu1 (fun q hq h => by have := (Rp.own_block_lt HO.out q h).1; omega)); clear ho1 hu1)
          go_roundg g1
          case measure => omega
          case rel => exact ⟨k + 1, by have := HK.out; omega, by go_num, HO1, HU1⟩
        · rw [List.take_of_length_le (by rw [ownGroups_length]; omega)] at HO
          have HV := As.mk (fun q h => (Rp.own_block_lt HO.out q h).1)
          have HO2 := As.mk (Rp.own_fp (G := AnyB) HO.out (fun _ _ => trivial))
          clear HO
          go_wp2
          go_loopg [12, 10] g.length (fun gg i v wx => ∃ k : Nat, k + gg = g.length ∧ i = .int .i64 k ∧ As (grpR.own 85 wx AnyB v (⟨textName, [0]⟩ :: (ownGroups l ++ g.take k))) ∧ As (∀ q, v.ownBlock = some q → w.heap.size ≤ q) ∧ As (Pure w wx))
          case atStart => exact ⟨0, by omega, rfl, ⟨by rw [List.take_zero, List.append_nil]; exact HO2.out⟩, HV, HP⟩
          case round =>
            clear HO2 HV HP
            obtain ⟨k, hk, rfl, HO, HV, HP⟩ := hrel
            by_cases hlt : k < g.length
            · obtain ⟨x, hx⟩ : ∃ x, g[k]? = some x := ⟨_, List.getElem?_eq_getElem hlt⟩
              obtain ⟨Av, cv, rfl, _, _⟩ := Rp.own_slice HO.out
              obtain ⟨bx, ox, A1, c1, rfl, hFb, hbb, d0, d1, hle1, hrow1⟩ := grp_at (Rp.row_pure HG.out HP.out) hx
              obtain ⟨g1, rfl⟩ : ∃ m, gk = m + 1 := ⟨gk - 1, by omega⟩
              have HK := As.mk hk
              have HT := As.mk (show ⟨textName, [0]⟩ :: (ownGroups l ++ g.take (k + 1)) = (⟨textName, [0]⟩ :: (ownGroups l ++ g.take k)) ++ [x] by rw [List.take_add_one, hx]; simp)
              have hlk : (⟨textName, [0]⟩ :: (ownGroups l ++ g.take k)).length ≤ 1000 := by rw [List.length_cons, List.length_append, List.length_take, ownGroups_length]; omega
              have HLE := As.mk hle1
              have HR1 := As.mk hrow1
              clear hk hx hrow1 hle1
              go_wp2_with (at_builtin; refine Rp.append_row grpR (c := 1) (Rp.own_alloc HO.out (.cells #[.string x.name, .slice A1 x.types.length c1] 85)) (Rp.row'_one (d := grpR) (F := fun q => q < w.heap.size) (x := x) (cs := [.string x.name, .slice A1 x.types.length c1]) ⟨A1, c1, rfl, HLE.out, Rp.row_pure HR1.out ((Upd.refl _ _).alloc _)⟩ (heap_alloc_new _ (.cells #[.string x.name, .slice A1 x.types.length c1] 85))) (fun q hq _ he => by have := HV.out q he.symm; omega) (by rfl) _ _ 86 (.agg #[.string ⟨#[]⟩, .slice none 0 0]) 40 (by rfl) Tryz.underlying86 grp_info6 rfl (by decide) (by decide) (by rfl) (by simp [Act.eval]) (by simp only [List.length_singleton]; omega) ?_; intro v1 w1 ho1 hu1 hat; rw [← HT.out] at ho1; have HO1 := As.mk (Rp.own_fp (G := AnyB) ho1 (fun _ _ => trivial)); have HU1 := As.mk (Upd.trans (HP.out.alloc _) hu1 (fun q hq h => by have := HV.out q h; omega)); have HV1 : As (∀ q, v1.ownBlock = some q → w.heap.size ≤ q) := ⟨fun q hq => by rcases hat with hat | ⟨b, hb, hle⟩; exact HV.out q (hat ▸ hq); rw [hb] at hq; injection hq with hq; have := HP.out.size; simp at hle; omega⟩; clear ho1 hu1 hat)
              go_roundg g1
              case measure => omega
              case rel => exact ⟨k + 1, by have := HK.out; omega, by go_num, HO1, HV1, HU1⟩
            · rw [List.take_of_length_le (by omega), HNG.out] at HO
              obtain ⟨Ag, cg, rfl, _, hgrow⟩ := Rp.own_slice HO.out
              have HGR := As.mk hgrow
              clear hgrow HV HO HNG
              obtain ⟨k0, nm0, l0⟩ := e0
              unfold Ex.val at *
              have hgl6 := HGL.out
              have HPZ := As.mk (fun W (hu : Pure wr W) => parse7_calls (d := cg) HP0.out.1 (Rp.row_pure HGR.out hu) HP0.out.2.1 (by have := HP0.out.2.2; omega) HGL.out HGT.out)
              generalize hW : wr.alloc (.cells #[.int .i64 0, .string ⟨#[]⟩, .slice none 0 0, .slice A l.length c, .slice none 0 0, .slice Ag gs.length cg] 105) = W
              have hPW : Pure wr W := hW ▸ Upd.alloc1 _ _ _
              have HPW := As.mk hPW
              have hWs : W.heap.size = wr.heap.size + 1 := by rw [← hW]; simp
              have HCB := As.mk (show W.heap[wr.heap.size]? = some (.cells #[.int .i64 0, .string ⟨#[]⟩, .slice none 0 0, .slice A l.length c, .slice none 0 0, .slice Ag gs.length cg] 105 (0, 0)) from hW ▸ heap_alloc_new _ _)
              clear hPW
              have hcw : w.heap.size ≤ wr.heap.size := HP.out.size
              generalize hcb : wr.heap.size = cb at *
              go_wp2_with (go_at_call 127; refine (HPZ.out _ HPW.out).mono ?_; rintro e w2 ⟨A0, c0, rfl, hle, hrw, hu⟩; have HR2 := As.mk hrw; have HU2 := As.mk hu; have HLE := As.mk hle; clear hrw hu hle; apply As.out)
              refine ⟨?_⟩
              have hz2 := HU2.out.size
              have hcb2 := (HU2.out.block cb (by omega) (fun h => h)).trans HCB.out
              obtain ⟨⟨q0, q1, q2, q3, q4, q5⟩, qf, hcl⟩ := cells6 hcb2
              have qf0 := qf 0
              have qf1 := qf 1
              have qf2 := qf 2
              have hne : ¬ cb = w2.heap.size := by omega
              have hne2 : ¬ w2.heap.size = cb := by omega
              have HCB2 := As.mk hcb2
              clear hcb2 qf hW
              have HGRC := As.mk (show grpR.row w2 (fun q => q < cb) Ag gs from hcb ▸ Rp.row_pure (Rp.row_here6 HGR.out) (HPW.out.trans HU2.out (fun _ _ h => h)))
              have HSPC := As.mk (show specR.row w2 (fun q => q < cb) A l from Rp.row_fp (Rp.row_pure (Rp.row_here6 HR.out) (HP.out.trans (HPW.out.trans HU2.out (fun _ _ h => h)) (fun _ _ h => h))) (fun q hq => by omega))
              have HEXC := As.mk (show exR.row w2 (fun q => cb < q ∧ q < w2.heap.size) A0 l0 from Rp.row_fp (Rp.row_move (fun _ hk hl => ⟨And.intro hk hl, hl, rfl⟩) HR2.out) (fun q hq => ⟨by have := hq.1; omega, hq.2⟩))
              have HPV := As.mk (show Pure w w2 from HP.out.trans (HPW.out.trans HU2.out (fun _ _ h => h)) (fun _ _ h => h))
              clear hcb
              go_wp2
              generalize hV : ((((w2.setCell ⟨cb, 0, none⟩ (.int .i64 (Ex.mk k0 nm0 l0).k)).setCell ⟨cb, 1, none⟩ (.string (Ex.mk k0 nm0 l0).name)).setCell ⟨cb, 2, none⟩ (.slice A0 (Ex.mk k0 nm0 l0).l.length c0)).alloc (.cells #[.int .i64 (Ex.mk k0 nm0 l0).k, .string (Ex.mk k0 nm0 l0).name, .slice A0 (Ex.mk k0 nm0 l0).l.length c0] 92)) = V
              have huV : Upd (fun q => q = cb) w2 V := hV ▸ (set3U w2 cb _ _ _).alloc _
              have hxV : V.heap[cb]? = some (.cells #[.int .i64 k0, .string nm0, .slice A0 l0.length c0, .slice A l.length c, .slice none 0 0, .slice Ag gs.length cg] 105 (0, 0)) := by
                rw [← hV]
                refine (Below.heap_alloc _ _ cb (by simp [World.setCell]; omega)).trans ?_
                simp [World.setCell, Array.getElem?_modify, HCB2.out]
              have hVs : V.heap.size = w2.heap.size + 1 := by rw [← hV]; simp [World.setCell]
              have htV : V.heap[w2.heap.size]? = some (.cells #[.int .i64 k0, .string nm0, .slice A0 l0.length c0] 92 (0, 0)) := by
                rw [← hV]
                have := heap_alloc_new ((((w2.setCell ⟨cb, 0, none⟩ (.int .i64 (Ex.mk k0 nm0 l0).k)).setCell ⟨cb, 1, none⟩ (.string (Ex.mk k0 nm0 l0).name)).setCell ⟨cb, 2, none⟩ (.slice A0 (Ex.mk k0 nm0 l0).l.length c0))) (.cells #[.int .i64 (Ex.mk k0 nm0 l0).k, .string (Ex.mk k0 nm0 l0).name, .slice A0 (Ex.mk k0 nm0 l0).l.length c0] 92)
                rw [show ((((w2.setCell ⟨cb, 0, none⟩ (.int .i64 (Ex.mk k0 nm0 l0).k)).setCell ⟨cb, 1, none⟩ (.string (Ex.mk k0 nm0 l0).name)).setCell ⟨cb, 2, none⟩ (.slice A0 (Ex.mk k0 nm0 l0).l.length c0))).heap.size = w2.heap.size by simp [World.setCell]] at this
                exact this
              generalize htb : w2.heap.size = tb at *
              have HGV := As.mk (show grpR.row V (fun q => q < cb) Ag gs from Rp.row_upd HGRC.out huV (fun q _ hq h => by omega))
              have HSV := As.mk (show specR.row V (fun q => q < cb) A l from Rp.row_upd HSPC.out huV (fun q _ hq h => by omega))
              have HEV := As.mk (show exR.row V (fun q => cb < q ∧ q < tb) A0 l0 from Rp.row_upd HEXC.out huV (fun q _ hq h => by omega))
              have HPVV := As.mk (show Pure w V from HPV.out.trans huV (fun q hq h => by omega))
              have HN0 : As (∃ Ev, NewS V cb tb (.int .i64 k0) (.string nm0) (.slice A0 l0.length c0) (.slice A l.length c) (.slice Ag gs.length cg) Ev (es.take 0) V) := ⟨_, ⟨Upd.refl _ _, hxV, ⟨_, _, _, htV⟩, Rp.own_nil _ _ _ _⟩⟩
              clear hV huV hxV htV HGRC HSPC HEXC HPV HCB HCB2 HGR HPW HU2 q0 q1 q2 q3 q4 q5 qf0 qf1 qf2 htb
              go_loopg [16, 15] l.length (fun gg i ev wx => ∃ k : Nat, k + gg = l.length ∧ i = .int .i64 k ∧ ev = .int .i64 0 ∧ As (∃ Ev, NewS V cb tb (.int .i64 k0) (.string nm0) (.slice A0 l0.length c0) (.slice A l.length c) (.slice Ag gs.length cg) Ev (es.take k) wx))
              case atStart => exact ⟨0, by omega, rfl, rfl, HN0⟩
              case round =>
                clear HN0
                obtain ⟨k, hk, rfl, rfl, HNS⟩ := hrel
                by_cases hlt : k < l.length
                · obtain ⟨Ev, hns⟩ := HNS.out
                  obtain ⟨x, hx⟩ : ∃ x, l[k]? = some x := ⟨_, List.getElem?_eq_getElem hlt⟩
                  obtain ⟨e, he⟩ : ∃ e, es[k]? = some e := ⟨_, List.getElem?_eq_getElem (by rw [HES.out]; exact hlt)⟩
                  obtain ⟨bx, ox, rfl, hFb, hbb, d0, d1, d2, d3, d4, d5, d6⟩ := spec_at (Rp.row_upd HSV.out hns.up (fun q _ hq h => by omega)) hx
                  obtain ⟨g1, rfl⟩ : ∃ m, gk = m + 1 := ⟨gk - 1, by omega⟩
                  have HK := As.mk hk
                  have HT := As.mk (show es.take (k + 1) = es.take k ++ [e] by rw [List.take_add_one, he]; rfl)
                  have HNX := As.mk hns
                  have HPZ5 := As.mk (show Calls Tryz.prog 127 #[.string x.expr, .slice Ag gs.length cg] wr _ from parse7_calls (d := cg) (HPE.out k x e hx he).1 (Rp.row_upd HGV.out hns.up (fun q _ hq h => by omega)) (HPE.out k x e hx he).2.1 (by have := (HPE.out k x e hx he).2.2; omega) HGL.out HGT.out)
                  obtain ⟨k1, nm1, l1⟩ := e
                  unfold Ex.val at *
                  clear hk hx he hns
                  go_wp2_with (go_at_call 127; refine HPZ5.out.mono ?_; rintro r5 w5 ⟨A5, c5, rfl, hle, hrw, hu⟩; have HR5 := As.mk hrw; have HU5 := As.mk hu; have HLE5 := As.mk hle; clear hrw hu hle; apply As.out)
                  refine ⟨?_⟩
                  have hns5 := HNX.out.pure HU5.out
                  obtain ⟨⟨q0, q1, q2, q3, q4, q5⟩, qf, hcl⟩ := cells6 hns5.hc
                  obtain ⟨y0, y1, y2, hty⟩ := hns5.ht
                  obtain ⟨⟨r0, r1, r2⟩, ⟨rf0, rf1, rf2⟩, hrl⟩ := cells3P hty
                  have hct : ¬ cb = tb := by omega
                  have HN5 := As.mk hns5
                  have HKL := As.mk (show (es.take k).length ≤ 15 by rw [List.length_take, HES.out]; have := HK.out; omega)
                  clear hns5 qf d0 d1 d2 d3 d4 d5 d6 q0 q1 q2 q3 q4 q5
                  go_wp2
                  generalize hW6 : (((w5.setCell ⟨tb, 0, none⟩ (.int .i64 (Ex.mk k1 nm1 l1).k)).setCell ⟨tb, 1, none⟩ (.string (Ex.mk k1 nm1 l1).name)).setCell ⟨tb, 2, none⟩ (.slice A5 (Ex.mk k1 nm1 l1).l.length c5)) = W6
                  have hu6 : Upd (fun q => q = tb) w5 W6 := hW6 ▸ set3U w5 tb _ _ _
                  have hs6 : W6.heap.size = w5.heap.size := by rw [← hW6]; simp [World.setCell]
                  have ht6 : W6.heap[tb]? = some (.cells #[.int .i64 k1, .string nm1, .slice A5 l1.length c5] 92 (0, 0)) := by
                    rw [← hW6]
                    simp [World.setCell, Array.getElem?_modify, hty]
                  have hns6 : NewS V cb tb _ _ _ _ _ Ev (es.take k) W6 := ⟨HN5.out.up.trans (hu6.mono (fun _ _ h => .inr h)) (fun _ _ h => h), (hu6.block cb hcl hct).trans HN5.out.hc, ⟨_, _, _, ht6⟩, Rp.own_upd HN5.out.own hu6 (fun q _ hq h => by omega)⟩
                  have hr6 := Rp.row_upd HR5.out hu6 (fun q _ hq h => by have := HNX.out.up.size; omega)
                  have hVx := HNX.out.up.size
                  refine reg29 (s0 := wr.heap.size) hns6 ht6 HLE5.out hr6 (fun q hq => (Rp.own_block_lt HNX.out.own q hq).2) hVx (by omega) (by omega) hct HKL.out (fun c a1 a2 w hd h => by obtain ⟨_, _⟩ := a1; obtain ⟨_, _⟩ := a2; cases hd; exact h) ?_
                  intro x144 x145 x146 x147 x148 x149 x150 x151 x152 x153 x154 w9 hN9
                  rw [← HT.out] at hN9
                  have HN9 := As.mk hN9
                  clear hN9 hns6 hr6 ht6 hu6 hW6 hty r0 r1 r2 rf0 rf1 rf2
                  go_wp2
                  go_roundg g1
                  case measure => omega
                  case rel => exact ⟨k + 1, by have := HK.out; omega, by go_num, rfl, HN9⟩
                · have hkl : k = l.length := by omega
                  subst hkl
                  obtain ⟨Ev, hns⟩ := HNS.out
                  rw [List.take_of_length_le (by rw [HES.out]; omega)] at hns
                  have HNX := As.mk hns
                  clear hns HNS
                  go_wp2
                  refine bodyPost_ret (results_tmp2 rfl _ _ _) rfl ?_
                  obtain ⟨AE, cE, rfl, _, hre⟩ := Rp.own_slice HNX.out.own
                  have hup := HNX.out.up
                  exact ⟨cb, rfl, ⟨A0, c0, A, c, AE, cE, Ag, cg, HNX.out.hc, Rp.row_fp (Rp.row_upd HEV.out hup (fun q _ hq h => by omega)) (fun _ _ => trivial), Rp.row_fp (Rp.row_upd HSV.out hup (fun q _ hq h => by omega)) (fun _ _ => trivial), Rp.row_fp hre (fun _ _ => trivial), Rp.row_fp (Rp.row_upd HGV.out hup (fun q _ hq h => by omega)) (fun _ _ => trivial)⟩, HPVV.out.trans hup (fun q hq h => by have := hcw; omega)⟩
end Go.Proofs.YtofjodppljnlaaaGreatDoor
namespace Go.Proofs.YtofjodppljnlaaaGreatDoor
open Go.RowKit
open Go.Great
set_option linter.unusedVariables false
set_option linter.unusedSimpArgs false
theorem house6_names : okNames (houseSpecs.map (·.name) ++ houseGrp.map (·.name)) = true := by kernel_rfl
theorem house6_small : ∀ x ∈ houseSpecs.map (·.name) ++ houseGrp.map (·.name), x.size ≤ 1048576 := by
  have h : (houseSpecs.map (·.name) ++ houseGrp.map (·.name)).all (fun x => decide (x.size ≤ 1048576)) = true := by kernel_rfl
  intro x hx
  simpa using List.all_eq_true.1 h x hx
theorem house6_fits : ∀ x ∈ houseSpecs, fitsB x = true := by
  have h : houseSpecs.all fitsB = true := by kernel_rfl
  intro x hx
  exact List.all_eq_true.1 h x hx
theorem parse6_text : Parses6 textStar (exS 4 textName) := parse6_name sign_text (by decide) (by kernel_rfl) (Nat.le_of_ble_eq_true (by kernel_rfl))
theorem parse6_block : Parses6 blockPlus (exS 5 blockName) := parse6_name sign_block (by decide) (by kernel_rfl) (Nat.le_of_ble_eq_true (by kernel_rfl))
theorem parse6_item : Parses6 itemPlus (exS 5 itemName) := parse6_name sign_item (by decide) (by kernel_rfl) (Nat.le_of_ble_eq_true (by kernel_rfl))
theorem house6_parses : ∀ (k : Nat) (s : Spec) (e : Ex), houseSpecs[k]? = some s → houseE7[k]? = some e → Parses6 s.expr e ∧ regCheck e (newGroups houseSpecs houseGrp) = 0 ∧ e.wt ≤ 1048576 := by
  intro k s e hs he
  have hm : e ∈ houseEs := List.mem_of_mem_drop (List.mem_of_getElem? he)
  have hc : regCheck e (newGroups houseSpecs houseGrp) = 0 := by simpa using List.all_eq_true.1 house_checks e hm
  have hw : houseEs.all (fun e => decide (e.wt ≤ 1048576)) = true := by kernel_rfl
  have hw1 : e.wt ≤ 1048576 := by simpa using List.all_eq_true.1 hw e hm
  refine ⟨?_, hc, hw1⟩
  have hk : k < 7 := (List.getElem?_eq_some_iff.1 hs).1
  have h : k = 0 ∨ k = 1 ∨ k = 2 ∨ k = 3 ∨ k = 4 ∨ k = 5 ∨ k = 6 := by omega
  rcases h with rfl | rfl | rfl | rfl | rfl | rfl | rfl <;> (injection hs with hs; injection he with he; subst hs; subst he)
  · exact parse6_text
  · exact parse6_text
  · exact parse6_block
  · exact parse6_text
  · exact parse6_item
  · exact parse6_block
  · exact parse6_empty
set_option maxRecDepth 100000 in
set_option maxHeartbeats 4000000 in
theorem House6_calls (w : World) : Calls Tryz.prog 14 #[] w fun r w' => ∃ cb, r = .returned (.pointer (some ⟨cb, 0, none⟩)) ∧ H6 w' cb ∧ Pure w w' := by
  have HCR := As.mk (fun W F => house_reps W F)
  obtain ⟨hc, hhc⟩ : ∃ hc, hc = houseCells := ⟨_, rfl⟩
  rw [← hhc] at HCR
  go_enter Tryz.func14, Tryz.ntmps14
  refine wp_seq (wp_region_list ?_)
  refine wpList_readTo rfl _ rfl (.pointer none) rfl ?_
  refine wpList_nil ?_
  refine wp_seq (wp_region_list ?_)
  refine wpList_buildTo rfl _ _ rfl _ rfl #[.string ⟨#[112, 97, 114, 97]⟩, .string ⟨#[116, 101, 120, 116, 42]⟩, .bool false, .int .i64 7, .int .i64 0, .int .i64 0, .bool false] (by kernel_rfl) ?_
  refine wpList_buildTo rfl _ _ rfl _ rfl #[.string ⟨#[104, 101, 97, 100]⟩, .string ⟨#[116, 101, 120, 116, 42]⟩, .bool false, .int .i64 7, .int .i64 1, .int .i64 6, .bool false] (by kernel_rfl) ?_
  refine wpList_buildTo rfl _ _ rfl _ rfl #[.string ⟨#[113, 117, 111, 116, 101]⟩, .string ⟨#[98, 108, 111, 99, 107, 43]⟩, .bool false, .int .i64 0, .int .i64 0, .int .i64 0, .bool false] (by kernel_rfl) ?_
  refine wpList_buildTo rfl _ _ rfl _ rfl #[.string ⟨#[99, 111, 100, 101]⟩, .string ⟨#[116, 101, 120, 116, 42]⟩, .bool false, .int .i64 0, .int .i64 0, .int .i64 0, .bool true] (by kernel_rfl) ?_
  refine wpList_buildTo rfl _ _ rfl _ rfl #[.string ⟨#[108, 105, 115, 116]⟩, .string ⟨#[105, 116, 101, 109, 43]⟩, .bool false, .int .i64 0, .int .i64 0, .int .i64 1, .bool false] (by kernel_rfl) ?_
  refine wpList_buildTo rfl _ _ rfl _ rfl #[.string ⟨#[105, 116, 101, 109]⟩, .string ⟨#[98, 108, 111, 99, 107, 43]⟩, .bool false, .int .i64 0, .int .i64 0, .int .i64 0, .bool false] (by kernel_rfl) ?_
  refine wpList_buildTo rfl _ _ rfl _ rfl #[.string ⟨#[114, 117, 108, 101]⟩, .string ⟨#[]⟩, .bool true, .int .i64 0, .int .i64 0, .int .i64 0, .bool false] (by kernel_rfl) ?_
  refine wpList_buildSliceTo rfl 82 34 7 _ rfl w.heap.size rfl _ rfl Tryz.underlying82 hc (by rw [hhc]; kernel_rfl) ?_
  refine wpList_readTo rfl _ rfl (.slice (some ⟨w.heap.size, 0, none⟩) 7 7) (by kernel_rfl) ?_
  refine wpList_nil ?_
  refine wp_seq ?_
  obtain ⟨W, hW⟩ : ∃ W, W = w.alloc (.cells hc 34) := ⟨_, rfl⟩
  have HWB := As.mk (show W.heap[w.heap.size]? = some (.cells hc 34 (0, 0)) from hW ▸ heap_alloc_new w _)
  have HPW := As.mk (show Pure w W from hW ▸ Upd.alloc1 _ _ _)
  rw [← hW]
  clear hW
  have hI : Pure W (((W.alloc (.cells #[.int .i64 1, .int .i64 2, .int .i64 3, .int .i64 4, .int .i64 5, .int .i64 7] 3)).alloc (.cells #[.string blockName, .slice (some ⟨W.heap.size, 0, none⟩) 6 6] 85))) := (Upd.alloc1 _ _ _).alloc _
  have hz : (W.alloc (.cells #[.int .i64 1, .int .i64 2, .int .i64 3, .int .i64 4, .int .i64 5, .int .i64 7] 3)).heap.size = W.heap.size + 1 := by simp
  have hir := Rp.row_pure (Rp.row_of_block (d := intR) (F := fun _ => True) (heap_alloc_new W (.cells #[.int .i64 1, .int .i64 2, .int .i64 3, .int .i64 4, .int .i64 5, .int .i64 7] 3)) trivial (house_ints _ _)) (Upd.alloc1 (fun _ => False) _ (.cells #[.string blockName, .slice (some ⟨W.heap.size, 0, none⟩) 6 6] 85))
  have hgb := heap_alloc_new (W.alloc (.cells #[.int .i64 1, .int .i64 2, .int .i64 3, .int .i64 4, .int .i64 5, .int .i64 7] 3)) (.cells #[.string blockName, .slice (some ⟨W.heap.size, 0, none⟩) 6 6] 85)
  rw [hz] at hgb
  have hgr : grpR.row _ (fun _ => True) (some ⟨W.heap.size + 1, 0, none⟩) houseGrp := Rp.row_of_block hgb trivial (Reps.single (x := (⟨blockName, [1, 2, 3, 4, 5, 7]⟩ : Grp)) ⟨_, _, rfl, Nat.le_refl 6, hir⟩ rfl)
  have hsr := Rp.row_pure (Rp.row_of_block (d := specR) (F := fun _ => True) HWB.out trivial (HCR.out W _)) hI
  have HNEW := As.mk (New6_calls (c := 7) (d := 1) (whole := blockPlus) (e0 := houseE0) (es := houseE7) hsr hgr (by decide) (by decide) house6_small (fun x hx => (house_gsmall x hx).2) house6_names house6_fits rfl ⟨parse6_block, by kernel_rfl, Nat.le_of_ble_eq_true (by kernel_rfl)⟩ house6_parses)
  have HI := As.mk (HPW.out.trans hI (fun _ _ h => h))
  clear hI hz hir hgb hgr hsr HCR hhc
  go_wp2_with (go_at_call 62; refine HNEW.out.mono ?_; rintro e w7 ⟨cb, rfl, hsch, hu⟩; have HS := As.mk hsch; have HU7 := As.mk (HI.out.trans hu (fun _ _ h => h)); clear hsch hu)
  go_ret
  exact ⟨_, rfl, HS.out, HU7.out⟩
end Go.Proofs.YtofjodppljnlaaaGreatDoor
namespace Go.Proofs.YtofjodppljnlaaaGreatDoor
open Go.RowKit
set_option linter.unusedVariables false
set_option linter.unusedSimpArgs false
theorem toldB_none (e : Int) : toldB none e = none := by unfold toldB; split <;> rfl
theorem toldC_zero (e : Int) : toldC 0 e = 0 := by unfold toldC; split <;> rfl
theorem told_sl {s : StepD} {e : Int} : (toldS s e).sl = if e = 0 then s.sl else [] := by unfold toldS; split <;> rfl
/-- What is told has the row that was handed in, or none. -/
theorem told_row9 {W : World} {G : Nat → Prop} {A : Option Addr} {e : Int} {s : StepD} (hr : tokR.row W G A s.sl) : tokR.row W G (toldB A e) (toldS s e).sl := by
  unfold toldS toldB
  split
  · exact hr
  · exact .inl rfl
set_option maxRecDepth 100000 in
set_option maxHeartbeats 4000000 in
theorem ETexts_long {w : World} {A T : Option Addr} {c ct : Nat} {l text : List Tok} {f t : Int} (h1 : 200 < l.length ∨ 200 < text.length) :
    Calls Tryz.prog 5 #[.slice A l.length c, .int .i64 f, .int .i64 t, .slice T text.length ct] w fun r w' => r = .returned (.bool true) ∧ Pure w w' := by
  cases b1 : decide ((200 : Int) < (l.length : Int)) <;> cases b2 : decide ((200 : Int) < (text.length : Int))
  all_goals first
    | (exfalso; have q1 := of_decide_eq_false b1; have q2 := of_decide_eq_false b2; omega)
    | skip
  all_goals
    have b3 : decide (200 < l.length) = decide ((200 : Int) < (l.length : Int)) := by simp; omega
    have b4 : decide (200 < text.length) = decide ((200 : Int) < (text.length : Int)) := by simp; omega
    rw [b1] at b3
    rw [b2] at b4
    clear h1
    go_enter Tryz.func5, Tryz.ntmps5
    go_wp2_with (go_at_call 28; refine (awake12_calls _).mono ?_; rintro r w9 ⟨rfl, hu9⟩; have HU9 := As.mk hu9; clear hu9)
    go_ret
    exact ⟨rfl, HU9.out⟩
set_option maxRecDepth 100000 in
set_option maxHeartbeats 4000000 in
theorem ETexts_main {w : World} {F G : Nat → Prop} {A T : Option Addr} {c ct : Nat} {l text : List Tok} {f t : Int} (hr : tokR.row w F A l) (hlc : l.length ≤ c) (hl : l.length ≤ 200) (hx : tokR.row w G T text) (hxc : text.length ≤ ct) (hxl : text.length ≤ 200) :
    Calls Tryz.prog 5 #[.slice A l.length c, .int .i64 f, .int .i64 t, .slice T text.length ct] w fun r w' => r = .returned (.bool true) ∧ Pure w w' := by
  have HX := As.mk hx
  have HIN := As.mk (fun (W : World) (hu : Pure w W) (q : Nat) (hs : SchR W q houseRules houseGroups) (A1 : Option Addr) (c1 : Nat) (G1 : Nat → Prop) (hx1 : tokR.row W G1 A1 text) => Insert_new (ct := c1) (p := f) hs (Rp.row_pure hr hu) hlc (by omega) hx1 (by omega))
  have HI6 := As.mk (fun (W : World) (hu : Pure w W) (q : Nat) (hs : H6 W q) => Insert12_calls (p := f) hs (Rp.row_pure hr hu) hlc (by omega) (Rp.row_pure hx hu) (by omega) hxc)
  have HDE := As.mk (fun (W : World) (hu : Pure w W) (q : Nat) (hs : SchR W q houseRules houseGroups) => Delete_calls (f := f) (t := t) hs (Rp.row_pure hr hu) hlc (by omega))
  have HD6 := As.mk (fun (W : World) (hu : Pure w W) (q : Nat) (hs : H6 W q) => Delete12_calls (f := f) (t := t) hs (Rp.row_pure hr hu) hlc (by omega))
  rw [toldB_none, toldC_zero] at HD6
  have HTR := As.mk (fun W (hu : Pure w W) => told_row9 (e := insErr l f text) (s := repl f f text) (Rp.row_pure hx hu))
  have HSL := As.mk (show (toldS (repl f f text) (insErr l f text)).sl.length ≤ 1048576 * 4 by rw [told_sl]; split <;> simp [repl] <;> omega)
  have HSE := As.mk (show (toldS (repl f t []) (delErr l f t)).sl = [] by rw [told_sl]; split <;> rfl)
  have t2 : decide ((200 : Int) < (l.length : Int)) = false := decide_eq_false (by omega)
  have t3 : decide (200 < l.length) = false := decide_eq_false (by omega)
  have t4 : decide ((200 : Int) < (text.length : Int)) = false := decide_eq_false (by omega)
  have t5 : decide (200 < text.length) = false := decide_eq_false (by omega)
  clear hr hx
  generalize toldS (repl f f text) (insErr l f text) = s1 at *
  generalize toldS (repl f t []) (delErr l f t) = s2 at *
  generalize toldB T (insErr l f text) = B6 at *
  generalize toldC ct (insErr l f text) = c6 at *
  generalize insErr l f text = ie at *
  generalize delErr l f t = de at *
  have HSM1 := As.mk (fun W (e : Int) (A1 A2 : Option Addr) (c1 c2 : Nat) (F1 F2 : Nat → Prop) (h1 : tokR.row W F1 A1 s1.sl) (h2 : tokR.row W F2 A2 s1.sl) => same_same (c := c1) (c' := c2) (e := e) h1 h2 HSL.out)
  have HSM2 := As.mk (fun W (e : Int) => same_same (w := W) (F := fun _ => True) (G := fun _ => True) (A := none) (B := none) (c := 0) (c' := 0) (s := s2) (e := e) (.inl HSE.out) (.inl HSE.out) (by rw [HSE.out]; exact Nat.zero_le _))
  have HS2L := As.mk (show s2.sl.length = 0 by rw [HSE.out]; rfl)
  unfold Told StepD.val at *
  go_enter Tryz.func5, Tryz.ntmps5
  go_wp2_with (first | (go_at_call 14; refine (House6_calls w1).mono ?_; rintro r w2 ⟨cb6, rfl, hs, hu⟩; have HK2 := As.mk hs; have HS2 := As.mk (HS.out.pure hu); have HU2 := As.mk (HU1.out.trans hu (fun _ _ h => h)); clear hu hs; apply As.out) | (go_at_call 13; refine (House_calls w).mono ?_; rintro r w1 ⟨cb, rfl, hs, hu⟩; have HS := As.mk hs; have HU1 := As.mk hu; clear hu hs))
  refine ⟨?_⟩
  have HPB := As.mk (HU2.out.alloc (.cells #[] 71))
  go_wp2_with (at_builtin; refine Rp.append_row tokR (c := ct) (Rp.own_empty0 (F := fun q => w2.heap.size ≤ q) tokR (heap_alloc_new w2 _) (Nat.le_refl _)) (Rp.row'_of (Rp.row_pure HX.out HPB.out) (fun _ _ h => h)) (Fz := fun _ => False) (fun _ h => h.elim) rfl _ _ 22 (.agg #[.int .i64 0, .int .i64 0, .int .i64 0, .int .i64 0]) 32 rfl Tryz.underlying22 tok_info rfl (by decide) (by decide) rfl (by rfl) (by simp only [List.length_nil]; omega) ?_; intro v4 w4 ho4 hu4 hat4; rw [List.nil_append] at ho4; obtain ⟨A4, c4, rfl, hl4, hr4⟩ := Rp.own_slice ho4; have HR4 := As.mk hr4; have HP24 := As.mk (Upd.trans (Upd.alloc1 (fun _ => False) w2 (.cells #[] 71)) hu4 (fun q hq h => by injection h with h; (have e9 : w2.heap.size = q := h); omega)); clear ho4 hu4 hat4 hl4 hr4; apply As.out)
  refine ⟨?_⟩
  have HS4 := As.mk (HS2.out.pure HP24.out)
  have HK4 := As.mk (HK2.out.pure HP24.out)
  have HU4 := As.mk (HU2.out.trans HP24.out (fun _ _ h => h))
  go_wp2_with (go_at_call 29; refine (HIN.out _ HU4.out _ HS4.out _ _ _ HR4.out).mono ?_; rintro r w5 ⟨B5, c5, ⟨rfl, hu⟩, ⟨hrow, hlc5⟩, _⟩; have HR5 := As.mk hrow; have HU5 := As.mk (HU4.out.trans hu (fun _ _ h => h)); have HS5 := As.mk (HS4.out.pure hu); have HK5 := As.mk (HK4.out.pure hu); clear hu hrow hlc5; apply As.out)
  refine ⟨?_⟩
  have HX5 := As.mk (fun X => heap_alloc_new w5 X)
  go_wp2_with (go_at_call 30; refine (HI6.out _ (HU5.out.alloc _) _ (HK5.out.pure (Upd.alloc1 _ _ _))).mono ?_; rintro r w6 ⟨rfl, hu⟩; have HP6 := As.mk hu; clear hu; apply As.out)
  refine ⟨?_⟩
  obtain ⟨hb5, hp6⟩ := one_up HP6.out
  have HB5 := As.mk hb5
  have HU6 := As.mk (HU5.out.trans hp6 (fun _ _ h => h))
  have HS6 := As.mk (HS5.out.pure hp6)
  have HK6 := As.mk (HK5.out.pure hp6)
  have HR6 := As.mk (Rp.row_pure HR5.out hp6)
  clear hb5 hp6 HX5
  go_wp2_with (go_at_call 31; refine (HDE.out _ (HU6.out.alloc _) _ (HS6.out.pure (Upd.alloc1 _ _ _))).mono ?_; rintro r w7 ⟨rfl, hu⟩; have HP7 := As.mk hu; clear hu; apply As.out)
  refine ⟨?_⟩
  obtain ⟨hb6, hp7⟩ := one_up HP7.out
  have HB6 := As.mk hb6
  have HB57 := As.mk ((hp7.block _ (lt_of_block HB5.out) (fun h => h)).trans HB5.out)
  have HU7 := As.mk (HU6.out.trans hp7 (fun _ _ h => h))
  have HK7 := As.mk (HK6.out.pure hp7)
  have HR7 := As.mk (Rp.row_pure HR6.out hp7)
  clear hb6 hp7
  go_wp2_with (go_at_call 32; refine (HD6.out _ (HU7.out.alloc _) _ (HK7.out.pure (Upd.alloc1 _ _ _))).mono ?_; rintro r w8 ⟨rfl, hu⟩; have HP8 := As.mk hu; clear hu; apply As.out)
  refine ⟨?_⟩
  obtain ⟨hb7, hp8⟩ := one_up HP8.out
  have HB7 := As.mk hb7
  have HB58 := As.mk ((hp8.block _ (lt_of_block HB57.out) (fun h => h)).trans HB57.out)
  have HB68 := As.mk ((hp8.block _ (lt_of_block HB6.out) (fun h => h)).trans HB6.out)
  have HU8 := As.mk (HU7.out.trans hp8 (fun _ _ h => h))
  have HR8 := As.mk (Rp.row_pure HR7.out hp8)
  clear hb7 hp8
  obtain ⟨a0, a1, a2, a3, a4, a5, a6, a7⟩ := cells8 HB58.out
  obtain ⟨d0, d1, d2, d3, d4, d5, d6, d7⟩ := cells8 HB68.out
  obtain ⟨e0, e1, e2, e3, e4, e5, e6, e7⟩ := cells8 HB7.out
  have l5 := lt_of_block HB58.out
  have l6 := lt_of_block HB68.out
  have l7 := lt_of_block HB7.out
  go_wp2_with (go_at_call 33; refine (HSM1.out _ _ _ _ _ _ _ _ (Rp.row_pure HR8.out (Upd.alloc1 _ _ _)) (HTR.out _ (HU8.out.alloc _))).mono ?_; rintro r w9 ⟨rfl, hu⟩; have HP9 := As.mk hu; clear hu; apply As.out)
  refine ⟨?_⟩
  obtain ⟨hb8, hp9⟩ := one_up HP9.out
  have HB89 := As.mk hb8
  have HB79 := As.mk ((hp9.block _ (lt_of_block HB7.out) (fun h => h)).trans HB7.out)
  have HU9 := As.mk (HU8.out.trans hp9 (fun _ _ h => h))
  clear hb8 hp9 a0 a1 a2 a3 a4 a5 a6 a7 d0 d1 d2 d3 d4 d5 d6 d7 e0 e1 e2 e3 e4 e5 e6 e7
  obtain ⟨e0, e1, e2, e3, e4, e5, e6, e7⟩ := cells8 HB79.out
  obtain ⟨d0, d1, d2, d3, d4, d5, d6, d7⟩ := cells8 HB89.out
  have l8 := lt_of_block HB79.out
  have l9 := lt_of_block HB89.out
  go_wp2_with (first | (go_at_call 28; refine (awake12_calls _).mono ?_; rintro r wb ⟨rfl, hu9⟩; have HUB := As.mk (HUA.out.trans hu9 (fun _ _ h => h)); clear hu9) | (go_at_call 33; refine (HSM2.out _ _).mono ?_; rintro r wa ⟨rfl, hu⟩; have HUA := As.mk (HU9.out.trans hu (fun _ _ h => h)); clear hu))
  go_ret
  exact ⟨rfl, HUB.out⟩
theorem EditTexts_walk {w : World} {F G : Nat → Prop} {A T : Option Addr} {c ct : Nat} {l text : List Tok} {f t : Int} (hr : tokR.row w F A l) (hlc : l.length ≤ c) (hx : tokR.row w G T text) (hxc : text.length ≤ ct) :
    Calls Tryz.prog 5 #[.slice A l.length c, .int .i64 f, .int .i64 t, .slice T text.length ct] w fun r w' => r = .returned (.bool true) ∧ Pure w w' := by
  by_cases h : 200 < l.length ∨ 200 < text.length
  · exact ETexts_long h
  · exact ETexts_main hr hlc (by omega) hx hxc (by omega)
end Go.Proofs.YtofjodppljnlaaaGreatDoor
namespace Go.Proofs.YtofjodppljnlaaaGreatDoor
open Go.ChangeShapes Go.WideShapes Go.ChangeAt Go.RowKit
set_option linter.unusedVariables false
set_option linter.unusedSimpArgs false
/-- A token's numbers are ints. -/
def TokWf (x : Tok) : Prop := (Lit.int .i64 x.k).wf = true ∧ (Lit.int .i64 x.t).wf = true ∧ (Lit.int .i64 x.n).wf = true ∧ (Lit.int .i64 x.m).wf = true
set_option maxRecDepth 100000 in
theorem opens_tok : Opens Tryz.prog 71 tokR (fun y _ => TokWf y) := by
  intro H enc w base spare held fuel cs x h
  obtain ⟨ys, n, _, rfl, hl, hyl, hf⟩ := DataW.trod_struct Tryz.underlying71 h
  have hc : Tryz.prog.cellsOf 71 = 4 := by kernel_rfl
  have hc1 : Tryz.prog.cellsOf 3 = 1 := by kernel_rfl
  rw [hc] at hl
  match cs, hl with
  | [c0, c1, c2, c3], _ =>
    match ys, hyl with
    | [y0, y1, y2, y3], _ =>
      have f0 : DataW.trod enc Tryz.prog w base spare held n 3 [c0] = some y0 := by simpa [hc1] using hf 0 _ rfl
      have f1 : DataW.trod enc Tryz.prog w base spare held n 3 [c1] = some y1 := by simpa [hc1] using hf 1 _ rfl
      have f2 : DataW.trod enc Tryz.prog w base spare held n 3 [c2] = some y2 := by simpa [hc1] using hf 2 _ rfl
      have f3 : DataW.trod enc Tryz.prog w base spare held n 3 [c3] = some y3 := by simpa [hc1] using hf 3 _ rfl
      obtain ⟨n0, e0, _, w0⟩ := DataW.trod_int Tryz.underlying3 f0
      obtain ⟨n1, e1, _, w1⟩ := DataW.trod_int Tryz.underlying3 f1
      obtain ⟨n2, e2, _, w2⟩ := DataW.trod_int Tryz.underlying3 f2
      obtain ⟨n3, e3, _, w3⟩ := DataW.trod_int Tryz.underlying3 f3
      simp at e0 e1 e2 e3
      subst e0 e1 e2 e3
      exact ⟨⟨n0, n1, n2, n3⟩, rfl, w0, w1, w2, w3⟩
set_option maxRecDepth 100000 in
theorem arg_toks {H : Type} {enc : TypeId × Value → H} {W : World} {base : Nat} {spare : Nat → Bool} {held : Bool} {v : Value} {d : DataW H} {p : List MemPlace} {r : Reach} {b0 : Nat}
    (hv : Value.okWide Tryz.prog W r b0 22 v) (h : DataW.Trod enc Tryz.prog W base spare held 22 v d p) :
    ∃ (A : Option Addr) (c : Nat) (l : List Tok), v = .slice A l.length c ∧ l.length ≤ c ∧ tokR.row W (fun k => k < W.heap.size) A l ∧ l.length < Rows.uptoBulk d ∧ ∀ x ∈ l, TokWf x := by
  obtain ⟨a, len, cap, rfl⟩ := okWide_slice Tryz.underlying22 hv
  obtain ⟨fuel, hf⟩ := h
  obtain ⟨l, ⟨A, c, hcs, hlc, hrow⟩, hq, hw⟩ := opens_slice Tryz.underlying22 (d := tokR) (by kernel_rfl) (by decide) opens_tok H enc W base spare held fuel _ _ hf
  simp [Value.cells] at hcs
  obtain ⟨rfl, rfl, rfl⟩ := hcs
  exact ⟨_, _, l, rfl, hlc, hrow, hq, fun x hx => by obtain ⟨m, _, h⟩ := hw x hx; exact h⟩
end Go.Proofs.YtofjodppljnlaaaGreatDoor
namespace Go.Proofs.YtofjodppljnlaaaGreatDoor
open Go.ChangeShapes Go.WideShapes Go.ChangeAt Go.RowKit
set_option linter.unusedVariables false
set_option linter.unusedSimpArgs false
abbrev IntWf (x : Int) : Prop := (Lit.int .i64 x).wf = true
set_option maxRecDepth 100000 in
theorem arg_int {H : Type} {enc : TypeId × Value → H} {W : World} {base : Nat} {spare : Nat → Bool} {held : Bool} {v : Value} {d : DataW H} {p : List MemPlace} {r : Reach} {b0 : Nat}
    (hv : Value.okWide Tryz.prog W r b0 3 v) (h : DataW.Trod enc Tryz.prog W base spare held 3 v d p) : ∃ n : Int, v = .int .i64 n ∧ IntWf n := by
  obtain ⟨n, rfl⟩ := okWide_int Tryz.underlying3 hv
  obtain ⟨fuel, hf⟩ := h
  obtain ⟨m, e, _, hw⟩ := DataW.trod_int Tryz.underlying3 hf
  simp [Value.cells] at e
  subst e
  exact ⟨n, rfl, hw⟩
end Go.Proofs.YtofjodppljnlaaaGreatDoor
