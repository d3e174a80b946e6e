/- utf8.AppendRune and (*strings.Builder).WriteRune at every code point. -/
import Derived.Test.YtlombemkjjalkaaBld
import Derived.Lib.RuneBytes
import Derived.Laws.Shifts
import Derived.Laws.ShiftsVar
import Derived.Laws.BitsAll
import Derived.Laws.BitsLemmas
namespace Go.Proofs.Ytlombemkjjalkaa
open Go.RowKit
set_option linter.unusedVariables false
set_option linter.unusedSimpArgs false

/-- What AppendRune leaves: the row with the rune's bytes behind it. -/
def RuneLeft (w : World) (v : Value) (n : Nat) (xs : List Value) (r : Int) (v' : Value) (w' : World) : Prop :=
  w'.ownsRow 0 5 1 v' (n + (Lib.runeCells r).length) (xs ++ Lib.runeCells r) ∧ Upd (fun k => v.ownBlock = some k) w w' ∧ (v'.ownBlock = v.ownBlock ∨ ∃ b, v'.ownBlock = some b ∧ w.heap.size ≤ b)

set_option maxRecDepth 100000 in
set_option maxHeartbeats 4000000 in
theorem nonASCII_two (v : Value) (n : Nat) (xs : List Value) (r : Int) (h0 : 128 ≤ r) (h1 : r ≤ 2047) (w : World) (hown : w.ownsRow 0 5 1 v n xs) (hlen : n + 4 ≤ 140737488355328) :
    Calls Try.prog 32 #[v, .int .i32 r] w fun e w' => ∃ v', e = .returned v' ∧ RuneLeft w v n xs r v' w' := by
  obtain ⟨i0, hi, hz0, hz1, hz2⟩ := info_parts bld_byte
  have hcells : As (Lib.runeCells r = [.int .u8 (192 + r / 64), .int .u8 (128 + r % 64)]) := ⟨by rw [Lib.runeCells, Lib.encodeRuneZ_two h0 h1]; rfl⟩
  go_enter Try.func32, Try.ntmps32
  go_wp2_with (at_builtin; refine wpList_append_own_at _ rfl _ _ 41 rfl 0 5 i0 (.int .u8 0) 1 1 Try.underlying41 hi hz0 hz1 hz2 rfl (by decide) _ _ _ rfl (hown.alloc _) ⟨w.heap.size, 0, none⟩ 2 2 [.int .u8 (192 + r / 64), .int .u8 (128 + r % 64)] rfl rfl ?c1 ?c2 ?c3 ?c4 ?c5 ?_)
  case c1 =>
    intro j u hj
    match j, hj with
    | 0, hj => simp at hj; subst hj; simp [Addr.add]
    | 1, hj => simp at hj; subst hj; simp [Addr.add]
    | (j + 2), hj => simp at hj
  case c2 => intro u hu; simp at hu; rcases hu with rfl | rfl <;> rfl
  case c3 => unfold maxLen; omega
  case c4 => omega
  case c5 => exact Nat.zero_le _
  intro v' w2 hown' hgrow _ hat
  have hg : w.grownBy w2 v.ownBlock := World.grownBy.trans (World.grownBy_alloc w _ _) hgrow
  have HF : As (RuneLeft w v n xs r v' w2) := ⟨by rw [hcells.out]; exact hown', Upd.grown1 hg (fun k hk => hk), by
    rcases hat with hat | hat
    · exact .inl hat
    · exact .inr ⟨_, hat, by simp⟩⟩
  clear hgrow hg hat hown'
  go_wp2
  go_ret
  exact ⟨_, rfl, HF.out⟩

set_option maxRecDepth 100000 in
set_option maxHeartbeats 4000000 in
theorem nonASCII_threelo (v : Value) (n : Nat) (xs : List Value) (r : Int) (h0 : 2048 ≤ r) (h1 : r < 55296) (w : World) (hown : w.ownsRow 0 5 1 v n xs) (hlen : n + 4 ≤ 140737488355328) :
    Calls Try.prog 32 #[v, .int .i32 r] w fun e w' => ∃ v', e = .returned v' ∧ RuneLeft w v n xs r v' w' := by
  obtain ⟨i0, hi, hz0, hz1, hz2⟩ := info_parts bld_byte
  have hcells : As (Lib.runeCells r = [.int .u8 (224 + r / 4096), .int .u8 (128 + r / 64 % 64), .int .u8 (128 + r % 64)]) := ⟨by rw [Lib.runeCells, Lib.encodeRuneZ_three (.inl ⟨h0, h1⟩)]; rfl⟩
  go_enter Try.func32, Try.ntmps32
  go_wp2_with (at_builtin; refine wpList_append_own_at _ rfl _ _ 41 rfl 0 5 i0 (.int .u8 0) 1 1 Try.underlying41 hi hz0 hz1 hz2 rfl (by decide) _ _ _ rfl (hown.alloc _) ⟨w.heap.size, 0, none⟩ 3 3 [.int .u8 (224 + r / 4096), .int .u8 (128 + r / 64 % 64), .int .u8 (128 + r % 64)] rfl rfl ?c1 ?c2 ?c3 ?c4 ?c5 ?_)
  case c1 =>
    intro j u hj
    match j, hj with
    | 0, hj => simp at hj; subst hj; simp [Addr.add]
    | 1, hj => simp at hj; subst hj; simp [Addr.add]
    | 2, hj => simp at hj; subst hj; simp [Addr.add]
    | (j + 3), hj => simp at hj
  case c2 => intro u hu; simp at hu; rcases hu with rfl | rfl | rfl <;> rfl
  case c3 => unfold maxLen; omega
  case c4 => omega
  case c5 => exact Nat.zero_le _
  intro v' w2 hown' hgrow _ hat
  have hg : w.grownBy w2 v.ownBlock := World.grownBy.trans (World.grownBy_alloc w _ _) hgrow
  have HF : As (RuneLeft w v n xs r v' w2) := ⟨by rw [hcells.out]; exact hown', Upd.grown1 hg (fun k hk => hk), by
    rcases hat with hat | hat
    · exact .inl hat
    · exact .inr ⟨_, hat, by simp⟩⟩
  clear hgrow hg hat hown'
  go_wp2
  go_ret
  exact ⟨_, rfl, HF.out⟩

set_option maxRecDepth 100000 in
set_option maxHeartbeats 4000000 in
theorem nonASCII_threehi (v : Value) (n : Nat) (xs : List Value) (r : Int) (h0 : 57343 < r) (h1 : r ≤ 65535) (w : World) (hown : w.ownsRow 0 5 1 v n xs) (hlen : n + 4 ≤ 140737488355328) :
    Calls Try.prog 32 #[v, .int .i32 r] w fun e w' => ∃ v', e = .returned v' ∧ RuneLeft w v n xs r v' w' := by
  obtain ⟨i0, hi, hz0, hz1, hz2⟩ := info_parts bld_byte
  have hcells : As (Lib.runeCells r = [.int .u8 (224 + r / 4096), .int .u8 (128 + r / 64 % 64), .int .u8 (128 + r % 64)]) := ⟨by rw [Lib.runeCells, Lib.encodeRuneZ_three (.inr ⟨h0, h1⟩)]; rfl⟩
  go_enter Try.func32, Try.ntmps32
  go_wp2_with (at_builtin; refine wpList_append_own_at _ rfl _ _ 41 rfl 0 5 i0 (.int .u8 0) 1 1 Try.underlying41 hi hz0 hz1 hz2 rfl (by decide) _ _ _ rfl (hown.alloc _) ⟨w.heap.size, 0, none⟩ 3 3 [.int .u8 (224 + r / 4096), .int .u8 (128 + r / 64 % 64), .int .u8 (128 + r % 64)] rfl rfl ?c1 ?c2 ?c3 ?c4 ?c5 ?_)
  case c1 =>
    intro j u hj
    match j, hj with
    | 0, hj => simp at hj; subst hj; simp [Addr.add]
    | 1, hj => simp at hj; subst hj; simp [Addr.add]
    | 2, hj => simp at hj; subst hj; simp [Addr.add]
    | (j + 3), hj => simp at hj
  case c2 => intro u hu; simp at hu; rcases hu with rfl | rfl | rfl <;> rfl
  case c3 => unfold maxLen; omega
  case c4 => omega
  case c5 => exact Nat.zero_le _
  intro v' w2 hown' hgrow _ hat
  have hg : w.grownBy w2 v.ownBlock := World.grownBy.trans (World.grownBy_alloc w _ _) hgrow
  have HF : As (RuneLeft w v n xs r v' w2) := ⟨by rw [hcells.out]; exact hown', Upd.grown1 hg (fun k hk => hk), by
    rcases hat with hat | hat
    · exact .inl hat
    · exact .inr ⟨_, hat, by simp⟩⟩
  clear hgrow hg hat hown'
  go_wp2
  go_ret
  exact ⟨_, rfl, HF.out⟩

set_option maxRecDepth 100000 in
set_option maxHeartbeats 4000000 in
theorem nonASCII_four (v : Value) (n : Nat) (xs : List Value) (r : Int) (h0 : 65536 ≤ r) (h1 : r ≤ 1114111) (w : World) (hown : w.ownsRow 0 5 1 v n xs) (hlen : n + 4 ≤ 140737488355328) :
    Calls Try.prog 32 #[v, .int .i32 r] w fun e w' => ∃ v', e = .returned v' ∧ RuneLeft w v n xs r v' w' := by
  obtain ⟨i0, hi, hz0, hz1, hz2⟩ := info_parts bld_byte
  have hcells : As (Lib.runeCells r = [.int .u8 (240 + r / 262144), .int .u8 (128 + r / 4096 % 64), .int .u8 (128 + r / 64 % 64), .int .u8 (128 + r % 64)]) := ⟨by rw [Lib.runeCells, Lib.encodeRuneZ_four h0 h1]; rfl⟩
  go_enter Try.func32, Try.ntmps32
  go_wp2_with (at_builtin; refine wpList_append_own_at _ rfl _ _ 41 rfl 0 5 i0 (.int .u8 0) 1 1 Try.underlying41 hi hz0 hz1 hz2 rfl (by decide) _ _ _ rfl (hown.alloc _) ⟨w.heap.size, 0, none⟩ 4 4 [.int .u8 (240 + r / 262144), .int .u8 (128 + r / 4096 % 64), .int .u8 (128 + r / 64 % 64), .int .u8 (128 + r % 64)] rfl rfl ?c1 ?c2 ?c3 ?c4 ?c5 ?_)
  case c1 =>
    intro j u hj
    match j, hj with
    | 0, hj => simp at hj; subst hj; simp [Addr.add]
    | 1, hj => simp at hj; subst hj; simp [Addr.add]
    | 2, hj => simp at hj; subst hj; simp [Addr.add]
    | 3, hj => simp at hj; subst hj; simp [Addr.add]
    | (j + 4), hj => simp at hj
  case c2 => intro u hu; simp at hu; rcases hu with rfl | rfl | rfl | rfl <;> rfl
  case c3 => unfold maxLen; omega
  case c4 => omega
  case c5 => exact Nat.zero_le _
  intro v' w2 hown' hgrow _ hat
  have hg : w.grownBy w2 v.ownBlock := World.grownBy.trans (World.grownBy_alloc w _ _) hgrow
  have HF : As (RuneLeft w v n xs r v' w2) := ⟨by rw [hcells.out]; exact hown', Upd.grown1 hg (fun k hk => hk), by
    rcases hat with hat | hat
    · exact .inl hat
    · exact .inr ⟨_, hat, by simp⟩⟩
  clear hgrow hg hat hown'
  go_wp2
  go_ret
  exact ⟨_, rfl, HF.out⟩

set_option maxRecDepth 100000 in
set_option maxHeartbeats 4000000 in
theorem appendRune_ascii (v : Value) (n : Nat) (xs : List Value) (r : Int) (h0 : 0 ≤ r) (h1 : r ≤ 127) (w : World) (hown : w.ownsRow 0 5 1 v n xs) (hlen : n + 4 ≤ 140737488355328) :
    Calls Try.prog 30 #[v, .int .i32 r] w fun e w' => ∃ v', e = .returned v' ∧ RuneLeft w v n xs r v' w' := by
  obtain ⟨i0, hi, hz0, hz1, hz2⟩ := info_parts bld_byte
  have hcells : As (Lib.runeCells r = [.int .u8 r]) := ⟨by rw [Lib.runeCells, Lib.encodeRuneZ_one h0 h1]; rfl⟩
  go_enter Try.func30, Try.ntmps30
  go_wp2_with (at_builtin; refine wpList_append_own_at _ rfl _ _ 41 rfl 0 5 i0 (.int .u8 0) 1 1 Try.underlying41 hi hz0 hz1 hz2 rfl (by decide) _ _ _ rfl (hown.alloc _) ⟨w.heap.size, 0, none⟩ 1 1 [.int .u8 r] rfl rfl ?c1 ?c2 ?c3 ?c4 ?c5 ?_)
  case c1 =>
    intro j u hj
    match j, hj with
    | 0, hj => simp at hj; subst hj; simp [Addr.add]
    | (j + 1), hj => simp at hj
  case c2 => intro u hu; simp at hu; rcases hu with rfl <;> rfl
  case c3 => unfold maxLen; omega
  case c4 => omega
  case c5 => exact Nat.zero_le _
  intro v' w2 hown' hgrow _ hat
  have hg : w.grownBy w2 v.ownBlock := World.grownBy.trans (World.grownBy_alloc w _ _) hgrow
  have HF : As (RuneLeft w v n xs r v' w2) := ⟨by rw [hcells.out]; exact hown', Upd.grown1 hg (fun k hk => hk), by
    rcases hat with hat | hat
    · exact .inl hat
    · exact .inr ⟨_, hat, by simp⟩⟩
  clear hgrow hg hat hown'
  go_wp2
  go_ret
  exact ⟨_, rfl, HF.out⟩

/-- The bytes of a code point. -/
abbrev runeB (r : Int) : List UInt8 := Lib.encodeRune r

set_option maxRecDepth 100000 in
set_option maxHeartbeats 4000000 in
theorem AppendRune_calls (v : Value) (n : Nat) (xs : List Value) (r : Int) (h0 : 0 ≤ r) (h1 : r ≤ 1114111) (hs : r < 55296 ∨ 57343 < r) (w : World) (hown : w.ownsRow 0 5 1 v n xs) (hlen : n + 4 ≤ 140737488355328) :
    Calls Try.prog 30 #[v, .int .i32 r] w fun e w' => ∃ v', e = .returned v' ∧ RuneLeft w v n xs r v' w' := by
  by_cases c : r ≤ 127
  · exact appendRune_ascii v n xs r h0 c w hown hlen
  · have hn : Calls Try.prog 32 #[v, .int .i32 r] w fun e w' => ∃ v', e = .returned v' ∧ RuneLeft w v n xs r v' w' := by
      by_cases c2 : r ≤ 2047
      · exact nonASCII_two v n xs r (by omega) c2 w hown hlen
      · by_cases c3 : r < 55296
        · exact nonASCII_threelo v n xs r (by omega) c3 w hown hlen
        · by_cases c4 : r ≤ 65535
          · exact nonASCII_threehi v n xs r (by omega) c4 w hown hlen
          · exact nonASCII_four v n xs r (by omega) h1 w hown hlen
    have HN := As.mk hn
    clear hn hown
    have c' : 127 < r := by omega
    clear c
    go_enter Try.func30, Try.ntmps30
    go_wp2_with (go_at_call 32; refine HN.out.mono ?_; rintro e w1 ⟨v', rfl, hl⟩; have HL := As.mk hl; clear hl)
    go_ret
    exact ⟨_, rfl, HL.out⟩

set_option maxRecDepth 100000 in
set_option maxHeartbeats 4000000 in
theorem WriteRune_calls {w : World} {F : Nat → Prop} {b : Nat} {l : List UInt8} (h : Bld w F b l) (r : Int) (h0 : 0 ≤ r) (h1 : r ≤ 1114111) (hs : r < 55296 ∨ 57343 < r) (hl : l.length + 4 ≤ 140737488355328) :
    Calls Try.prog 26 #[.pointer (some ⟨b, 0, none⟩), .int .i32 r] w fun e w' => (∃ v, e = .returned v) ∧ Bld w' (fun k => F k ∨ w.heap.size ≤ k) b (l ++ runeB r) ∧ Upd F w w' := by
  have HB := As.mk h
  have hFb := HB.out.1
  have hlt0 := HB.out.lt
  clear h
  go_enter Try.func26, Try.ntmps26
  go_wp2_with (go_at_call 27; refine (copyCheck_calls HB.out).mono ?_)
  rintro e w1 ⟨rfl, hu, hsz, v, hbk, hown, hne⟩
  have hlt : b < w1.heap.size := by omega
  have c0 : w1.cell? ⟨b, 0, none⟩ = some (.pointer (some ⟨b, 0, none⟩)) := by simp [World.cell?, hbk]
  have hvs : ∃ ao cap, v = .slice ao l.length cap := by
    rcases hown.2 with ⟨hv, h0⟩ | ⟨g, cap, cur, hv, _⟩
    · exact ⟨none, 0, by rw [hv, h0]⟩
    · exact ⟨_, _, hv⟩
  obtain ⟨ao, cap, rfl⟩ := hvs
  have c1 : w1.cell? ⟨b, 1, none⟩ = some (.slice ao l.length cap) := by simp [World.cell?, hbk]
  have HU := As.mk hu
  have HN := As.mk hne
  have HS := As.mk hsz
  have HF := As.mk hFb
  have HO := As.mk hown
  have HK := As.mk hbk
  clear hu hne hsz hFb hown hbk
  go_wp2_with (go_at_call 30; refine (AppendRune_calls _ _ _ r h0 h1 hs _ HO.out (by omega)).mono ?_)
  rintro e w2 ⟨v', rfl, hown', hu2, hat⟩
  have hb2 : w2.heap[b]? = some (.cells #[.pointer (some ⟨b, 0, none⟩), .slice ao l.length cap] 43 (0, 0)) := by
    rw [hu2.block b hlt (fun e => (HN.out b e).2 rfl)]
    exact HK.out
  obtain ⟨ao', n', cap', rfl⟩ : ∃ ao n cap, v' = .slice ao n cap := by
    rcases hown'.2 with ⟨hv, h0⟩ | ⟨g, cap, cur, hv, _⟩
    · exact ⟨_, _, _, hv⟩
    · exact ⟨_, _, _, hv⟩
  have d0 : w2.cell? ⟨b, 0, none⟩ = some (.pointer (some ⟨b, 0, none⟩)) := by simp [World.cell?, hb2]
  have d1 : w2.cell? ⟨b, 1, none⟩ = some (.slice ao l.length cap) := by simp [World.cell?, hb2]
  have f1 : w2.frozen? ⟨b, 1, none⟩ = false := by simp [World.frozen?, hb2]
  have HO2 := As.mk hown'
  have HU2 := As.mk hu2
  have HA := As.mk hat
  clear hown' hu2 hat hb2
  go_wp2
  go_ret2
  refine ⟨⟨_, rfl⟩, ?_, ?_⟩
  · have := Bld.put2 (l' := l ++ runeB r) (w := w) (l := l) HF.out HK.out HN.out HU2.out hlt (v' := .slice ao' n' cap') (by
      have e2 : Lib.byteCells (l ++ runeB r) = Lib.byteCells l ++ Lib.runeCells r := by rw [← Lib.byteCells_encodeRune]; simp [Lib.byteCells]
      have e1 : (l ++ runeB r).length = l.length + (Lib.runeCells r).length := by rw [← Lib.byteCells_encodeRune]; simp [Lib.byteCells]
      rw [e1, e2]
      exact HO2.out) HA.out
    rw [HS.out] at this
    exact this
  · exact (Upd.trans (HU.out.mono (S' := F) (fun k _ e => e ▸ HF.out)) HU2.out (fun k _ hk => (HN.out k hk).1)).setCell (p := ⟨b, 1, none⟩) (fun _ => HF.out) _
end Go.Proofs.Ytlombemkjjalkaa
