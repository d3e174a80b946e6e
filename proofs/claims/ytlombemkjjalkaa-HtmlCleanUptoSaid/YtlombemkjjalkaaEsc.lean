/- html.Escape: what it writes. -/
import Derived.Test.YtlombemkjjalkaaBld
import Derived.LoopTactic
import Derived.Laws.Strings
import Derived.Outline
namespace Go.Proofs.Ytlombemkjjalkaa
open Go.RowKit
set_option linter.unusedVariables false
set_option linter.unusedSimpArgs false

/-- How a byte is written. -/
def escB (c : UInt8) : List UInt8 :=
  if c = 38 then [38, 97, 109, 112, 59] else if c = 60 then [38, 108, 116, 59] else if c = 62 then [38, 103, 116, 59] else if c = 34 then [38, 113, 117, 111, 116, 59] else [c]
def esc (l : List UInt8) : List UInt8 := l.flatMap escB

theorem escB_len (c : UInt8) : (escB c).length ≤ 6 := by unfold escB; (repeat' split) <;> simp
theorem esc_len (l : List UInt8) : (esc l).length ≤ 6 * l.length := by
  induction l with
  | nil => simp [esc]
  | cons c l ih => have := escB_len c; simp only [esc, List.flatMap_cons, List.length_append, List.length_cons] at *; omega

def signsV : Value := .agg #[.int .u8 38, .string ⟨#[38, 97, 109, 112, 59]⟩, .int .u8 60, .string ⟨#[38, 108, 116, 59]⟩, .int .u8 62, .string ⟨#[38, 103, 116, 59]⟩, .int .u8 34, .string ⟨#[38, 113, 117, 111, 116, 59]⟩]

set_option maxHeartbeats 1000000 in
theorem signs_calls (w : World) : Calls Try.prog 18 #[] w fun e w' => e = .returned signsV ∧ Pure w w' := by
  go_enter Try.func18, Try.ntmps18
  go_wp2
  exact bodyPost_ret (v := signsV) (by simp [results, Try.results18, go_sem, signsV]) rfl ⟨rfl, (Upd.refl _ _).alloc _⟩

theorem take_succ_esc (s : ByteArray) (k : Nat) (h : k < s.size) : esc (s.data.toList.take (k + 1)) = esc (s.data.toList.take k) ++ escB s[k] := by
  rw [List.take_succ_eq_append_getElem (by simpa using h)]
  simp [esc, List.flatMap_append]
  rfl

theorem escB_38 {c : UInt8} (h : c = 38) : escB c = [38, 97, 109, 112, 59] := by subst h; rfl
theorem escB_60 {c : UInt8} (h : c = 60) : escB c = [38, 108, 116, 59] := by subst h; rfl
theorem escB_62 {c : UInt8} (h : c = 62) : escB c = [38, 103, 116, 59] := by subst h; rfl
theorem escB_34 {c : UInt8} (h : c = 34) : escB c = [38, 113, 117, 111, 116, 59] := by subst h; rfl
theorem escB_other {c : UInt8} (h0 : c ≠ 38) (h1 : c ≠ 60) (h2 : c ≠ 62) (h3 : c ≠ 34) : escB c = [c] := by
  unfold escB
  rw [if_neg h0, if_neg h1, if_neg h2, if_neg h3]

/-- The outer loop's relation behind a round. -/
theorem esc_rel {s : ByteArray} {w w2 : World} {k g : Nat} {c : UInt8} {bs : List UInt8} (hs : k + (g + 1) = s.size) (ht : esc (s.data.toList.take (k + 1)) = esc (s.data.toList.take k) ++ escB c) (he : escB c = bs)
    (hb : Bld w2 (fun k => w.heap.size ≤ k) w.heap.size (esc (s.data.toList.take k) ++ bs)) (hu : Upd (fun _ => False) w w2) :
    ∃ k' : Nat, k' + g = s.size ∧ Value.int .i64 ((k : Int) + 1) = .int .i64 k' ∧ As (Bld w2 (fun k => w.heap.size ≤ k) w.heap.size (esc (s.data.toList.take k'))) ∧ As (Upd (fun _ => False) w w2) :=
  ⟨k + 1, by omega, by go_num, ⟨by rw [ht, he]; exact hb⟩, ⟨hu⟩⟩

set_option maxHeartbeats 4000000 in
theorem Escape_calls (s : ByteArray) (w : World) (hs : s.size ≤ 1048576) :
    Calls Try.prog 7 #[.string s] w fun e w' => e = .returned (.string ⟨(esc s.data.toList).toArray⟩) ∧ Pure w w' := by
  have hfresh := As.mk (Bld.fresh w (F := fun k => w.heap.size ≤ k) (Nat.le_refl _))
  go_enter Try.func7, Try.ntmps7
  go_wp2
  go_step3
  go_wp2
  go_step3
  go_wp2
  go_loopg [9] s.size (fun g i wr => ∃ k : Nat, k + g = s.size ∧ i = .int .i64 k ∧ As (Bld wr (fun k => w.heap.size ≤ k) w.heap.size (esc (s.data.toList.take k))) ∧ As (Upd (fun _ => False) w wr))
  case atStart => exact ⟨0, by omega, rfl, by simpa [esc] using hfresh, ⟨(Upd.refl _ _).alloc _⟩⟩
  case round =>
    obtain ⟨k, hk, rfl, HB, HU⟩ := hrel
    by_cases hlt : k < s.size
    · have hidx : s[k] = s[k] := rfl
      obtain ⟨c, hc⟩ : ∃ c, s[k] = c := ⟨_, rfl⟩
      have HT := As.mk (take_succ_esc s k hlt)
      rw [hc] at HT
      have HL := As.mk (esc_len (s.data.toList.take k))
      rw [List.length_take] at HL
      have hss : s.data.toList.length = s.size := by rw [Array.length_toList]; rfl
      have HL : As ((esc (s.data.toList.take k)).length ≤ 6 * 1048576) := ⟨by have := HL.out; omega⟩
      clear hss
      have hat : ∀ W : World, (Instr.index 9 (.string s) (.int .i64 k)).run Try.prog W = .ok (.int .u8 c.toNat) W := by
        intro W
        rw [run_index_string W _ s .i64 k Try.underlying9, dif_pos (by omega)]
        simp [← hc]
      have HS := As.mk hk
      obtain ⟨gk1, rfl⟩ : ∃ m, gk = m + 1 := ⟨gk - 1, by omega⟩
      clear hc hidx
      go_wp2_with (go_at_call 18; refine (signs_calls _).mono ?_; rintro e w1 ⟨rfl, hu1⟩)
      have HB1 : As (Bld w1 (fun k => w.heap.size ≤ k) w.heap.size (esc (s.data.toList.take k))) := ⟨HB.out.upd hu1 (fun _ _ _ h => h)⟩
      have HU1 : As (Upd (fun _ => False) w w1) := ⟨HU.out.trans hu1 (fun _ _ h => h)⟩
      clear HB HU hu1
      go_loopg [13] 4 (fun g j wx => ∃ n : Nat, n + g = 4 ∧ j = .int .i64 n ∧ As (∀ m, m < n → c ≠ ([38, 60, 62, 34] : List UInt8).getD m 0) ∧ As (Bld wx (fun k => w.heap.size ≤ k) w.heap.size (esc (s.data.toList.take k))) ∧ As (Upd (fun _ => False) w wx))
      case atStart => exact ⟨0, rfl, rfl, ⟨fun m hm => by omega⟩, HB1, HU1⟩
      case round =>
        clear HB1 HU1
        obtain ⟨n, hn, rfl, HC, HB, HU⟩ := hrel
        have hn5 : n = 0 ∨ n = 1 ∨ n = 2 ∨ n = 3 ∨ n = 4 := by omega
        have i0 : ∀ W, (Instr.index 45 signsV (.int .i64 0)).run Try.prog W = .ok (.agg #[.int .u8 38, .string ⟨#[38, 97, 109, 112, 59]⟩]) W := fun _ => by kernel_rfl
        have i1 : ∀ W, (Instr.index 45 signsV (.int .i64 1)).run Try.prog W = .ok (.agg #[.int .u8 60, .string ⟨#[38, 108, 116, 59]⟩]) W := fun _ => by kernel_rfl
        have i2 : ∀ W, (Instr.index 45 signsV (.int .i64 2)).run Try.prog W = .ok (.agg #[.int .u8 62, .string ⟨#[38, 103, 116, 59]⟩]) W := fun _ => by kernel_rfl
        have i3 : ∀ W, (Instr.index 45 signsV (.int .i64 3)).run Try.prog W = .ok (.agg #[.int .u8 34, .string ⟨#[38, 113, 117, 111, 116, 59]⟩]) W := fun _ => by kernel_rfl
        rcases hn5 with rfl | rfl | rfl | rfl | rfl
        · by_cases he : c = 38
          · have hesc := As.mk (escB_38 he)
            have hcn : (((38 : Int)) == (c.toNat : Int)) = true := by subst he; rfl
            clear he
            go_wp2
            go_region
            all_goals go_wp2_with (go_at_call 19; refine (WriteString_calls ((HB.out.alloc _).drew) _ (by simp only [ByteArray.size, Array.size, List.length]; have := HL.out; omega)).mono ?_; rintro e w2 ⟨rfl, hb2, hu2⟩; have HB2 := As.mk hb2; have HU2 := As.mk hu2; clear hb2 hu2)
            all_goals go_roundg gk1
            all_goals first
              | (case measure => omega)
              | (case rel => exact esc_rel HS.out HT.out hesc.out (HB2.out.fp (fun k hk => by have := HU.out.size; simp at hk; omega)) (((HU.out.alloc _).drew).trans HU2.out (fun k hk h => by omega)))
          · have hne := As.mk he
            have hcn : (((38 : Int)) == (c.toNat : Int)) = false := by
              rw [beq_eq_false_iff_ne]
              intro h
              exact he (by have : c.toNat = 38 := by omega
                           exact UInt8.toNat_inj.1 this)
            clear he
            go_wp2
            go_region
            all_goals go_wp2
            all_goals go_roundg 3
            all_goals first
              | (case measure => omega)
              | (case rel => exact ⟨1, rfl, rfl, ⟨fun m hm => by
                  rcases Nat.lt_or_ge m 0 with h | h
                  · exact HC.out m h
                  · obtain rfl : m = 0 := by omega
                    exact hne.out⟩, ⟨(HB.out.alloc _).drew⟩, ⟨(HU.out.alloc _).drew⟩⟩)
        · by_cases he : c = 60
          · have hesc := As.mk (escB_60 he)
            have hcn : (((60 : Int)) == (c.toNat : Int)) = true := by subst he; rfl
            clear he
            go_wp2
            go_region
            all_goals go_wp2_with (go_at_call 19; refine (WriteString_calls ((HB.out.alloc _).drew) _ (by simp only [ByteArray.size, Array.size, List.length]; have := HL.out; omega)).mono ?_; rintro e w2 ⟨rfl, hb2, hu2⟩; have HB2 := As.mk hb2; have HU2 := As.mk hu2; clear hb2 hu2)
            all_goals go_roundg gk1
            all_goals first
              | (case measure => omega)
              | (case rel => exact esc_rel HS.out HT.out hesc.out (HB2.out.fp (fun k hk => by have := HU.out.size; simp at hk; omega)) (((HU.out.alloc _).drew).trans HU2.out (fun k hk h => by omega)))
          · have hne := As.mk he
            have hcn : (((60 : Int)) == (c.toNat : Int)) = false := by
              rw [beq_eq_false_iff_ne]
              intro h
              exact he (by have : c.toNat = 60 := by omega
                           exact UInt8.toNat_inj.1 this)
            clear he
            go_wp2
            go_region
            all_goals go_wp2
            all_goals go_roundg 2
            all_goals first
              | (case measure => omega)
              | (case rel => exact ⟨2, rfl, rfl, ⟨fun m hm => by
                  rcases Nat.lt_or_ge m 1 with h | h
                  · exact HC.out m h
                  · obtain rfl : m = 1 := by omega
                    exact hne.out⟩, ⟨(HB.out.alloc _).drew⟩, ⟨(HU.out.alloc _).drew⟩⟩)
        · by_cases he : c = 62
          · have hesc := As.mk (escB_62 he)
            have hcn : (((62 : Int)) == (c.toNat : Int)) = true := by subst he; rfl
            clear he
            go_wp2
            go_region
            all_goals go_wp2_with (go_at_call 19; refine (WriteString_calls ((HB.out.alloc _).drew) _ (by simp only [ByteArray.size, Array.size, List.length]; have := HL.out; omega)).mono ?_; rintro e w2 ⟨rfl, hb2, hu2⟩; have HB2 := As.mk hb2; have HU2 := As.mk hu2; clear hb2 hu2)
            all_goals go_roundg gk1
            all_goals first
              | (case measure => omega)
              | (case rel => exact esc_rel HS.out HT.out hesc.out (HB2.out.fp (fun k hk => by have := HU.out.size; simp at hk; omega)) (((HU.out.alloc _).drew).trans HU2.out (fun k hk h => by omega)))
          · have hne := As.mk he
            have hcn : (((62 : Int)) == (c.toNat : Int)) = false := by
              rw [beq_eq_false_iff_ne]
              intro h
              exact he (by have : c.toNat = 62 := by omega
                           exact UInt8.toNat_inj.1 this)
            clear he
            go_wp2
            go_region
            all_goals go_wp2
            all_goals go_roundg 1
            all_goals first
              | (case measure => omega)
              | (case rel => exact ⟨3, rfl, rfl, ⟨fun m hm => by
                  rcases Nat.lt_or_ge m 2 with h | h
                  · exact HC.out m h
                  · obtain rfl : m = 2 := by omega
                    exact hne.out⟩, ⟨(HB.out.alloc _).drew⟩, ⟨(HU.out.alloc _).drew⟩⟩)
        · by_cases he : c = 34
          · have hesc := As.mk (escB_34 he)
            have hcn : (((34 : Int)) == (c.toNat : Int)) = true := by subst he; rfl
            clear he
            go_wp2
            go_region
            all_goals go_wp2_with (go_at_call 19; refine (WriteString_calls ((HB.out.alloc _).drew) _ (by simp only [ByteArray.size, Array.size, List.length]; have := HL.out; omega)).mono ?_; rintro e w2 ⟨rfl, hb2, hu2⟩; have HB2 := As.mk hb2; have HU2 := As.mk hu2; clear hb2 hu2)
            all_goals go_roundg gk1
            all_goals first
              | (case measure => omega)
              | (case rel => exact esc_rel HS.out HT.out hesc.out (HB2.out.fp (fun k hk => by have := HU.out.size; simp at hk; omega)) (((HU.out.alloc _).drew).trans HU2.out (fun k hk h => by omega)))
          · have hne := As.mk he
            have hcn : (((34 : Int)) == (c.toNat : Int)) = false := by
              rw [beq_eq_false_iff_ne]
              intro h
              exact he (by have : c.toNat = 34 := by omega
                           exact UInt8.toNat_inj.1 this)
            clear he
            go_wp2
            go_region
            all_goals go_wp2
            all_goals go_roundg 0
            all_goals first
              | (case measure => omega)
              | (case rel => exact ⟨4, rfl, rfl, ⟨fun m hm => by
                  rcases Nat.lt_or_ge m 3 with h | h
                  · exact HC.out m h
                  · obtain rfl : m = 3 := by omega
                    exact hne.out⟩, ⟨(HB.out.alloc _).drew⟩, ⟨(HU.out.alloc _).drew⟩⟩)
        · go_wp2_with (go_at_call 20; refine (WriteByte_calls HB.out _ ?hl).mono ?_)
          case hl => have := HL.out; omega
          rintro e w2 ⟨rfl, hb2, hu2⟩
          have HB2 := As.mk hb2
          have HU2 := As.mk hu2
          clear hb2 hu2
          go_wp2
          go_roundg gk1
          all_goals first
            | (case measure => omega)
            | (case rel => exact esc_rel HS.out HT.out (escB_other (HC.out 0 (by omega)) (HC.out 1 (by omega)) (HC.out 2 (by omega)) (HC.out 3 (by omega))) (HB2.out.fp (fun k hk => by have := HU.out.size; omega)) (HU.out.trans HU2.out (fun k hk h => by omega)))
    · have hge : ¬ ((k : Int) < (s.size : Int)) := by omega
      go_wp2_with (go_at_call 21; refine (String_calls HB.out).mono ?_; rintro e w2 ⟨rfl, hu2⟩)
      have HU2 := As.mk hu2
      clear hu2
      try rw [Exit.noGoto_ret]
      go_ret
      refine ⟨?_, HU.out.trans HU2.out (fun k hk h => by have := HU.out.size; omega)⟩
      have e : s.data.toList.length = s.size := by rw [Array.length_toList]; rfl
      rw [List.take_of_length_le (by omega)]
      rfl
end Go.Proofs.Ytlombemkjjalkaa
