/- utf8.AppendRune and (*strings.Builder).WriteRune at every code point. flat.Text: what it tells. -/
import Derived.Test.YtfapglhdakhbeaaGreatDoorBld
import Derived.Test.YtfapglhdakhbeaaGreatDoorMarkL
import Derived.Test.YtfapglhdakhbeaaGreatDoorFlatC
import Derived.Lib.RuneBytes
import Derived.Laws.Shifts
import Derived.Laws.ShiftsVar
import Derived.Laws.BitsAll
import Derived.Laws.BitsLemmas
namespace Go.Proofs.YtfapglhdakhbeaaGreatDoor
open Go.RowKit
set_option linter.unusedVariables false
set_option linter.unusedSimpArgs false

/-- What AppendRune leaves: the row with the rune's bytes behind it. -/
def RuneLeft (w : World) (v : Value) (n : Nat) (xs : List Value) (r : Int) (v' : Value) (w' : World) : Prop :=
  w'.ownsRow 0 5 1 v' (n + (Lib.runeCells r).length) (xs ++ Lib.runeCells r) ∧ Upd (fun k => v.ownBlock = some k) w w' ∧ (v'.ownBlock = v.ownBlock ∨ ∃ b, v'.ownBlock = some b ∧ w.heap.size ≤ b)

set_option maxRecDepth 100000 in
set_option maxHeartbeats 4000000 in
theorem nonASCII_two (v : Value) (n : Nat) (xs : List Value) (r : Int) (h0 : 128 ≤ r) (h1 : r ≤ 2047) (w : World) (hown : w.ownsRow 0 5 1 v n xs) (hlen : n + 4 ≤ 140737488355328) :
    Calls Tryz.prog 188 #[v, .int .i32 r] w fun e w' => ∃ v', e = .returned v' ∧ RuneLeft w v n xs r v' w' := by
  obtain ⟨i0, hi, hz0, hz1, hz2⟩ := info_parts bld_byte
  have hcells : As (Lib.runeCells r = [.int .u8 (192 + r / 64), .int .u8 (128 + r % 64)]) := ⟨by rw [Lib.runeCells, Lib.encodeRuneZ_two h0 h1]; rfl⟩
  go_enter Tryz.func188, Tryz.ntmps188
  go_wp2_with (at_builtin; refine wpList_append_own_at _ rfl _ _ 72 rfl 0 5 i0 (.int .u8 0) 1 1 Tryz.underlying72 hi hz0 hz1 hz2 rfl (by decide) _ _ _ rfl (hown.alloc _) ⟨w.heap.size, 0, none⟩ 2 2 [.int .u8 (192 + r / 64), .int .u8 (128 + r % 64)] rfl rfl ?c1 ?c2 ?c3 ?c4 ?c5 ?_)
  case c1 =>
    intro j u hj
    match j, hj with
    | 0, hj => simp at hj; subst hj; simp [Addr.add]
    | 1, hj => simp at hj; subst hj; simp [Addr.add]
    | (j + 2), hj => simp at hj
  case c2 => intro u hu; simp at hu; rcases hu with rfl | rfl <;> rfl
  case c3 => unfold maxLen; omega
  case c4 => omega
  case c5 => exact Nat.zero_le _
  intro v' w2 hown' hgrow _ hat
  have hg : w.grownBy w2 v.ownBlock := World.grownBy.trans (World.grownBy_alloc w _ _) hgrow
  have HF : As (RuneLeft w v n xs r v' w2) := ⟨by rw [hcells.out]; exact hown', Upd.grown1 hg (fun k hk => hk), by
    rcases hat with hat | hat
    · exact .inl hat
    · exact .inr ⟨_, hat, by simp⟩⟩
  clear hgrow hg hat hown'
  go_wp2
  go_ret
  exact ⟨_, rfl, HF.out⟩

set_option maxRecDepth 100000 in
set_option maxHeartbeats 4000000 in
theorem nonASCII_threelo (v : Value) (n : Nat) (xs : List Value) (r : Int) (h0 : 2048 ≤ r) (h1 : r < 55296) (w : World) (hown : w.ownsRow 0 5 1 v n xs) (hlen : n + 4 ≤ 140737488355328) :
    Calls Tryz.prog 188 #[v, .int .i32 r] w fun e w' => ∃ v', e = .returned v' ∧ RuneLeft w v n xs r v' w' := by
  obtain ⟨i0, hi, hz0, hz1, hz2⟩ := info_parts bld_byte
  have hcells : As (Lib.runeCells r = [.int .u8 (224 + r / 4096), .int .u8 (128 + r / 64 % 64), .int .u8 (128 + r % 64)]) := ⟨by rw [Lib.runeCells, Lib.encodeRuneZ_three (.inl ⟨h0, h1⟩)]; rfl⟩
  go_enter Tryz.func188, Tryz.ntmps188
  go_wp2_with (at_builtin; refine wpList_append_own_at _ rfl _ _ 72 rfl 0 5 i0 (.int .u8 0) 1 1 Tryz.underlying72 hi hz0 hz1 hz2 rfl (by decide) _ _ _ rfl (hown.alloc _) ⟨w.heap.size, 0, none⟩ 3 3 [.int .u8 (224 + r / 4096), .int .u8 (128 + r / 64 % 64), .int .u8 (128 + r % 64)] rfl rfl ?c1 ?c2 ?c3 ?c4 ?c5 ?_)
  case c1 =>
    intro j u hj
    match j, hj with
    | 0, hj => simp at hj; subst hj; simp [Addr.add]
    | 1, hj => simp at hj; subst hj; simp [Addr.add]
    | 2, hj => simp at hj; subst hj; simp [Addr.add]
    | (j + 3), hj => simp at hj
  case c2 => intro u hu; simp at hu; rcases hu with rfl | rfl | rfl <;> rfl
  case c3 => unfold maxLen; omega
  case c4 => omega
  case c5 => exact Nat.zero_le _
  intro v' w2 hown' hgrow _ hat
  have hg : w.grownBy w2 v.ownBlock := World.grownBy.trans (World.grownBy_alloc w _ _) hgrow
  have HF : As (RuneLeft w v n xs r v' w2) := ⟨by rw [hcells.out]; exact hown', Upd.grown1 hg (fun k hk => hk), by
    rcases hat with hat | hat
    · exact .inl hat
    · exact .inr ⟨_, hat, by simp⟩⟩
  clear hgrow hg hat hown'
  go_wp2
  go_ret
  exact ⟨_, rfl, HF.out⟩

set_option maxRecDepth 100000 in
set_option maxHeartbeats 4000000 in
theorem nonASCII_threehi (v : Value) (n : Nat) (xs : List Value) (r : Int) (h0 : 57343 < r) (h1 : r ≤ 65535) (w : World) (hown : w.ownsRow 0 5 1 v n xs) (hlen : n + 4 ≤ 140737488355328) :
    Calls Tryz.prog 188 #[v, .int .i32 r] w fun e w' => ∃ v', e = .returned v' ∧ RuneLeft w v n xs r v' w' := by
  obtain ⟨i0, hi, hz0, hz1, hz2⟩ := info_parts bld_byte
  have hcells : As (Lib.runeCells r = [.int .u8 (224 + r / 4096), .int .u8 (128 + r / 64 % 64), .int .u8 (128 + r % 64)]) := ⟨by rw [Lib.runeCells, Lib.encodeRuneZ_three (.inr ⟨h0, h1⟩)]; rfl⟩
  go_enter Tryz.func188, Tryz.ntmps188
  go_wp2_with (at_builtin; refine wpList_append_own_at _ rfl _ _ 72 rfl 0 5 i0 (.int .u8 0) 1 1 Tryz.underlying72 hi hz0 hz1 hz2 rfl (by decide) _ _ _ rfl (hown.alloc _) ⟨w.heap.size, 0, none⟩ 3 3 [.int .u8 (224 + r / 4096), .int .u8 (128 + r / 64 % 64), .int .u8 (128 + r % 64)] rfl rfl ?c1 ?c2 ?c3 ?c4 ?c5 ?_)
  case c1 =>
    intro j u hj
    match j, hj with
    | 0, hj => simp at hj; subst hj; simp [Addr.add]
    | 1, hj => simp at hj; subst hj; simp [Addr.add]
    | 2, hj => simp at hj; subst hj; simp [Addr.add]
    | (j + 3), hj => simp at hj
  case c2 => intro u hu; simp at hu; rcases hu with rfl | rfl | rfl <;> rfl
  case c3 => unfold maxLen; omega
  case c4 => omega
  case c5 => exact Nat.zero_le _
  intro v' w2 hown' hgrow _ hat
  have hg : w.grownBy w2 v.ownBlock := World.grownBy.trans (World.grownBy_alloc w _ _) hgrow
  have HF : As (RuneLeft w v n xs r v' w2) := ⟨by rw [hcells.out]; exact hown', Upd.grown1 hg (fun k hk => hk), by
    rcases hat with hat | hat
    · exact .inl hat
    · exact .inr ⟨_, hat, by simp⟩⟩
  clear hgrow hg hat hown'
  go_wp2
  go_ret
  exact ⟨_, rfl, HF.out⟩

set_option maxRecDepth 100000 in
set_option maxHeartbeats 4000000 in
theorem nonASCII_four (v : Value) (n : Nat) (xs : List Value) (r : Int) (h0 : 65536 ≤ r) (h1 : r ≤ 1114111) (w : World) (hown : w.ownsRow 0 5 1 v n xs) (hlen : n + 4 ≤ 140737488355328) :
    Calls Tryz.prog 188 #[v, .int .i32 r] w fun e w' => ∃ v', e = .returned v' ∧ RuneLeft w v n xs r v' w' := by
  obtain ⟨i0, hi, hz0, hz1, hz2⟩ := info_parts bld_byte
  have hcells : As (Lib.runeCells r = [.int .u8 (240 + r / 262144), .int .u8 (128 + r / 4096 % 64), .int .u8 (128 + r / 64 % 64), .int .u8 (128 + r % 64)]) := ⟨by rw [Lib.runeCells, Lib.encodeRuneZ_four h0 h1]; rfl⟩
  go_enter Tryz.func188, Tryz.ntmps188
  go_wp2_with (at_builtin; refine wpList_append_own_at _ rfl _ _ 72 rfl 0 5 i0 (.int .u8 0) 1 1 Tryz.underlying72 hi hz0 hz1 hz2 rfl (by decide) _ _ _ rfl (hown.alloc _) ⟨w.heap.size, 0, none⟩ 4 4 [.int .u8 (240 + r / 262144), .int .u8 (128 + r / 4096 % 64), .int .u8 (128 + r / 64 % 64), .int .u8 (128 + r % 64)] rfl rfl ?c1 ?c2 ?c3 ?c4 ?c5 ?_)
  case c1 =>
    intro j u hj
    match j, hj with
    | 0, hj => simp at hj; subst hj; simp [Addr.add]
    | 1, hj => simp at hj; subst hj; simp [Addr.add]
    | 2, hj => simp at hj; subst hj; simp [Addr.add]
    | 3, hj => simp at hj; subst hj; simp [Addr.add]
    | (j + 4), hj => simp at hj
  case c2 => intro u hu; simp at hu; rcases hu with rfl | rfl | rfl | rfl <;> rfl
  case c3 => unfold maxLen; omega
  case c4 => omega
  case c5 => exact Nat.zero_le _
  intro v' w2 hown' hgrow _ hat
  have hg : w.grownBy w2 v.ownBlock := World.grownBy.trans (World.grownBy_alloc w _ _) hgrow
  have HF : As (RuneLeft w v n xs r v' w2) := ⟨by rw [hcells.out]; exact hown', Upd.grown1 hg (fun k hk => hk), by
    rcases hat with hat | hat
    · exact .inl hat
    · exact .inr ⟨_, hat, by simp⟩⟩
  clear hgrow hg hat hown'
  go_wp2
  go_ret
  exact ⟨_, rfl, HF.out⟩

set_option maxRecDepth 100000 in
set_option maxHeartbeats 4000000 in
theorem appendRune_ascii (v : Value) (n : Nat) (xs : List Value) (r : Int) (h0 : 0 ≤ r) (h1 : r ≤ 127) (w : World) (hown : w.ownsRow 0 5 1 v n xs) (hlen : n + 4 ≤ 140737488355328) :
    Calls Tryz.prog 163 #[v, .int .i32 r] w fun e w' => ∃ v', e = .returned v' ∧ RuneLeft w v n xs r v' w' := by
  obtain ⟨i0, hi, hz0, hz1, hz2⟩ := info_parts bld_byte
  have hcells : As (Lib.runeCells r = [.int .u8 r]) := ⟨by rw [Lib.runeCells, Lib.encodeRuneZ_one h0 h1]; rfl⟩
  go_enter Tryz.func163, Tryz.ntmps163
  go_wp2_with (at_builtin; refine wpList_append_own_at _ rfl _ _ 72 rfl 0 5 i0 (.int .u8 0) 1 1 Tryz.underlying72 hi hz0 hz1 hz2 rfl (by decide) _ _ _ rfl (hown.alloc _) ⟨w.heap.size, 0, none⟩ 1 1 [.int .u8 r] rfl rfl ?c1 ?c2 ?c3 ?c4 ?c5 ?_)
  case c1 =>
    intro j u hj
    match j, hj with
    | 0, hj => simp at hj; subst hj; simp [Addr.add]
    | (j + 1), hj => simp at hj
  case c2 => intro u hu; simp at hu; rcases hu with rfl <;> rfl
  case c3 => unfold maxLen; omega
  case c4 => omega
  case c5 => exact Nat.zero_le _
  intro v' w2 hown' hgrow _ hat
  have hg : w.grownBy w2 v.ownBlock := World.grownBy.trans (World.grownBy_alloc w _ _) hgrow
  have HF : As (RuneLeft w v n xs r v' w2) := ⟨by rw [hcells.out]; exact hown', Upd.grown1 hg (fun k hk => hk), by
    rcases hat with hat | hat
    · exact .inl hat
    · exact .inr ⟨_, hat, by simp⟩⟩
  clear hgrow hg hat hown'
  go_wp2
  go_ret
  exact ⟨_, rfl, HF.out⟩


set_option maxRecDepth 100000 in
set_option maxHeartbeats 4000000 in
theorem AppendRune_calls (v : Value) (n : Nat) (xs : List Value) (r : Int) (h0 : 0 ≤ r) (h1 : r ≤ 1114111) (hs : r < 55296 ∨ 57343 < r) (w : World) (hown : w.ownsRow 0 5 1 v n xs) (hlen : n + 4 ≤ 140737488355328) :
    Calls Tryz.prog 163 #[v, .int .i32 r] w fun e w' => ∃ v', e = .returned v' ∧ RuneLeft w v n xs r v' w' := by
  by_cases c : r ≤ 127
  · exact appendRune_ascii v n xs r h0 c w hown hlen
  · have hn : Calls Tryz.prog 188 #[v, .int .i32 r] w fun e w' => ∃ v', e = .returned v' ∧ RuneLeft w v n xs r v' w' := by
      by_cases c2 : r ≤ 2047
      · exact nonASCII_two v n xs r (by omega) c2 w hown hlen
      · by_cases c3 : r < 55296
        · exact nonASCII_threelo v n xs r (by omega) c3 w hown hlen
        · by_cases c4 : r ≤ 65535
          · exact nonASCII_threehi v n xs r (by omega) c4 w hown hlen
          · exact nonASCII_four v n xs r (by omega) h1 w hown hlen
    have HN := As.mk hn
    clear hn hown
    have c' : 127 < r := by omega
    clear c
    go_enter Tryz.func163, Tryz.ntmps163
    go_wp2_with (go_at_call 188; refine HN.out.mono ?_; rintro e w1 ⟨v', rfl, hl⟩; have HL := As.mk hl; clear hl)
    go_ret
    exact ⟨_, rfl, HL.out⟩

set_option maxRecDepth 100000 in
set_option maxHeartbeats 4000000 in
theorem WriteRune_calls {w : World} {F : Nat → Prop} {b : Nat} {l : List UInt8} (h : Bld w F b l) (r : Int) (h0 : 0 ≤ r) (h1 : r ≤ 1114111) (hs : r < 55296 ∨ 57343 < r) (hl : l.length + 4 ≤ 140737488355328) :
    Calls Tryz.prog 123 #[.pointer (some ⟨b, 0, none⟩), .int .i32 r] w fun e w' => (∃ v, e = .returned v) ∧ Bld w' (fun k => F k ∨ w.heap.size ≤ k) b (l ++ encB r) ∧ Upd F w w' := by
  have HB := As.mk h
  have hFb := HB.out.1
  have hlt0 := HB.out.lt
  clear h
  go_enter Tryz.func123, Tryz.ntmps123
  go_wp2_with (go_at_call 162; refine (copyCheck_calls HB.out).mono ?_)
  rintro e w1 ⟨rfl, hu, hsz, v, hbk, hown, hne⟩
  have hlt : b < w1.heap.size := by omega
  have c0 : w1.cell? ⟨b, 0, none⟩ = some (.pointer (some ⟨b, 0, none⟩)) := by simp [World.cell?, hbk]
  have hvs : ∃ ao cap, v = .slice ao l.length cap := by
    rcases hown.2 with ⟨hv, h0⟩ | ⟨g, cap, cur, hv, _⟩
    · exact ⟨none, 0, by rw [hv, h0]⟩
    · exact ⟨_, _, hv⟩
  obtain ⟨ao, cap, rfl⟩ := hvs
  have c1 : w1.cell? ⟨b, 1, none⟩ = some (.slice ao l.length cap) := by simp [World.cell?, hbk]
  have HU := As.mk hu
  have HN := As.mk hne
  have HS := As.mk hsz
  have HF := As.mk hFb
  have HO := As.mk hown
  have HK := As.mk hbk
  clear hu hne hsz hFb hown hbk
  go_wp2_with (go_at_call 163; refine (AppendRune_calls _ _ _ r h0 h1 hs _ HO.out (by omega)).mono ?_)
  rintro e w2 ⟨v', rfl, hown', hu2, hat⟩
  have hb2 : w2.heap[b]? = some (.cells #[.pointer (some ⟨b, 0, none⟩), .slice ao l.length cap] 165 (0, 0)) := by
    rw [hu2.block b hlt (fun e => (HN.out b e).2 rfl)]
    exact HK.out
  obtain ⟨ao', n', cap', rfl⟩ : ∃ ao n cap, v' = .slice ao n cap := by
    rcases hown'.2 with ⟨hv, h0⟩ | ⟨g, cap, cur, hv, _⟩
    · exact ⟨_, _, _, hv⟩
    · exact ⟨_, _, _, hv⟩
  have d0 : w2.cell? ⟨b, 0, none⟩ = some (.pointer (some ⟨b, 0, none⟩)) := by simp [World.cell?, hb2]
  have d1 : w2.cell? ⟨b, 1, none⟩ = some (.slice ao l.length cap) := by simp [World.cell?, hb2]
  have f1 : w2.frozen? ⟨b, 1, none⟩ = false := by simp [World.frozen?, hb2]
  have HO2 := As.mk hown'
  have HU2 := As.mk hu2
  have HA := As.mk hat
  clear hown' hu2 hat hb2
  go_wp2
  go_ret2
  refine ⟨⟨_, rfl⟩, ?_, ?_⟩
  · have := Bld.put2 (l' := l ++ encB r) (w := w) (l := l) HF.out HK.out HN.out HU2.out hlt (v' := .slice ao' n' cap') (by
      have e2 : Lib.byteCells (l ++ encB r) = Lib.byteCells l ++ Lib.runeCells r := by rw [← Lib.byteCells_encodeRune]; simp [Lib.byteCells]
      have e1 : (l ++ encB r).length = l.length + (Lib.runeCells r).length := by rw [← Lib.byteCells_encodeRune]; simp [Lib.byteCells]
      rw [e1, e2]
      exact HO2.out) HA.out
    rw [HS.out] at this
    exact this
  · exact (Upd.trans (HU.out.mono (S' := F) (fun k _ e => e ▸ HF.out)) HU2.out (fun k _ hk => (HN.out k hk).1)).setCell (p := ⟨b, 1, none⟩) (fun _ => HF.out) _
end Go.Proofs.YtfapglhdakhbeaaGreatDoor
namespace Go.Proofs.YtfapglhdakhbeaaGreatDoor
open Go.RowKit
set_option linter.unusedVariables false
set_option linter.unusedSimpArgs false


def TxRel (w wr : World) (l : List Tok) (k : Nat) : Prop := Bld wr (fun q => w.heap.size ≤ q) w.heap.size (textB (l.take k)) ∧ Pure w wr
theorem TxRel.skip {w wr w1 : World} {l : List Tok} {k : Nat} {x : Tok} (hx : l[k]? = some x) (hn : (decide (x.k = 0) && rightB x) = false) (hb : Bld wr (fun q => w.heap.size ≤ q) w.heap.size (textB (l.take k))) (hp : Pure w wr) (hu : Pure wr w1) : TxRel w w1 l (k + 1) := by
  refine ⟨?_, hp.trans hu (fun _ _ h => h)⟩
  rw [textB_take hx, hn]
  simpa using hb.upd hu (fun _ _ _ h => h)
theorem TxRel.push {w wr w1 w2 : World} {l : List Tok} {k : Nat} {x : Tok} (hx : l[k]? = some x) (hn : (decide (x.k = 0) && rightB x) = true) (hp : Pure w wr) (hu : Pure wr w1) (hb : Bld w2 (fun q => w.heap.size ≤ q ∨ w1.heap.size ≤ q) w.heap.size (textB (l.take k) ++ encB x.n)) (hu2 : Upd (fun q => w.heap.size ≤ q) w1 w2) : TxRel w w2 l (k + 1) := by
  have hp1 := hp.trans hu (fun _ _ h => h)
  refine ⟨?_, Upd.trans hp1 hu2 (fun k hk h => by omega)⟩
  rw [textB_take hx, if_pos hn]
  exact hb.fp (fun q h => by have := hp1.size; omega)

set_option maxRecDepth 100000 in
set_option maxHeartbeats 4000000 in
theorem Text_calls {F : Nat → Prop} {A : Option Addr} {c : Nat} {l : List Tok} {w : World} (hr : tokR.row w F A l) (hb : l.length ≤ 1048576 * 4) :
    Calls Tryz.prog 62 #[.slice A l.length c] w fun e w' => e = .returned (.string ⟨(textB l).toArray⟩) ∧ Pure w w' := by
  have HR := As.mk hr
  clear hr
  go_enter Tryz.func62, Tryz.ntmps62
  go_wp2
  go_loopg [8] l.length (fun g i wr => ∃ k : Nat, k + g = l.length ∧ i = .int .i64 k ∧ As (TxRel w wr l k))
  case atStart => exact ⟨0, by omega, rfl, ⟨Bld.fresh w (Nat.le_refl _), (Upd.refl _ _).alloc _⟩⟩
  case round =>
    obtain ⟨k, hk, rfl, HC⟩ := hrel
    obtain ⟨hbd, hp⟩ := HC.out
    by_cases hlt : k < l.length
    · obtain ⟨x, hx⟩ : ∃ x, l[k]? = some x := ⟨_, List.getElem?_eq_getElem hlt⟩
      obtain ⟨b, o, rfl, hF, hbl, c0, c1, c2, c3⟩ := tok_at (Rp.row_pure HR.out hp) hx
      obtain ⟨g1, rfl⟩ : ∃ m, gk = m + 1 := ⟨gk - 1, by omega⟩
      have HX := As.mk hx
      have HD := As.mk hbd
      have HP := As.mk hp
      have HK := As.mk hk
      have hln : (textB (l.take k)).length ≤ 4 * l.length := by have := textB_len (l.take k); rw [List.length_take] at this; omega
      clear hx hbd hp hk HC
      by_cases h0 : x.k = 0
      · have e0 : (x.k == 0) = true := by simp [h0]
        cases hr : rightB x
        · have HN := As.mk (show (decide (x.k = 0) && rightB x) = false by simp [hr])
          clear h0
          go_wp2_with (go_at_call 107; refine (flatRight_is hr _).mono ?_; rintro e w1 ⟨rfl, hu1⟩; have HU1 := As.mk hu1; obtain ⟨oc, of⟩ := hu1.olds; have hz1 := hu1.size; clear hu1)
          go_roundg g1
          case measure => omega
          case rel => exact ⟨k + 1, by have := HK.out; omega, by go_num, ⟨TxRel.skip HX.out HN.out HD.out HP.out (Upd.trans (Upd.alloc1 _ _ _) HU1.out (fun _ _ h => h))⟩⟩
        · have HN := As.mk (show (decide (x.k = 0) && rightB x) = true by simp [hr, h0])
          obtain ⟨p0, p1, p2⟩ := right_point h0 hr
          clear h0
          go_wp2_with (first | (go_at_call 107; refine (flatRight_is hr _).mono ?_; rintro e w1 ⟨rfl, hu1⟩; have HU1 := As.mk (show Pure wr w1 from Upd.trans (Upd.alloc1 _ _ _) hu1 (fun _ _ h => h)); obtain ⟨oc, of⟩ := hu1.olds; have hz1 := hu1.size; clear hu1) | (go_at_call 123; refine (WriteRune_calls (HD.out.upd HU1.out (fun _ _ _ h => h)) x.n p0 p1 p2 (by omega)).mono ?_; rintro e w2 ⟨⟨v2, rfl⟩, hb2, hu2⟩; have HB2 := As.mk hb2; have HU2 := As.mk hu2; clear hb2 hu2))
          go_roundg g1
          case measure => omega
          case rel => exact ⟨k + 1, by have := HK.out; omega, by go_num, ⟨TxRel.push HX.out HN.out HP.out HU1.out HB2.out HU2.out⟩⟩
      · have e0 : (x.k == 0) = false := by simp [h0]
        have HN := As.mk (show (decide (x.k = 0) && rightB x) = false by simp [h0])
        clear h0
        go_wp2
        go_roundg g1
        case measure => omega
        case rel => exact ⟨k + 1, by have := HK.out; omega, by go_num, ⟨TxRel.skip HX.out HN.out HD.out HP.out (Upd.alloc1 _ _ _)⟩⟩
    · have hkl : k = l.length := by omega
      subst hkl
      rw [List.take_length] at hbd
      have HD := As.mk hbd
      have HP := As.mk hp
      clear hbd hp HC
      go_wp2_with (go_at_call 124; refine (String_calls HD.out).mono ?_; rintro e w2 ⟨rfl, hu⟩; have HU := As.mk hu; clear hu)
      go_ret
      exact ⟨rfl, Upd.trans HP.out HU.out (fun k hk h => by omega)⟩
end Go.Proofs.YtfapglhdakhbeaaGreatDoor
