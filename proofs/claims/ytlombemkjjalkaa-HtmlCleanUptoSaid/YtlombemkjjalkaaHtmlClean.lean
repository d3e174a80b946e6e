/- The law HtmlClean: signs are written. Its walk. -/
import Derived.Test.YtlombemkjjalkaaEscLaw
import Derived.Laws.Strings2
import Derived.Laws.Strings3
namespace Go.Proofs.Ytlombemkjjalkaa
open Go.RowKit
set_option linter.unusedVariables false
set_option linter.unusedSimpArgs false

theorem str_size (l : List UInt8) : (⟨l.toArray⟩ : ByteArray).size = l.length := by simp [ByteArray.size]
theorem str_at {l : List UInt8} {k : Nat} {c : UInt8} (hc : l[k]? = some c) (W : World) : (Instr.index 9 (.string ⟨l.toArray⟩) (.int .i64 k)).run Try.prog W = .ok (.int .u8 c.toNat) W := by
  obtain ⟨hk, he⟩ := List.getElem?_eq_some_iff.1 hc
  have hs := str_size l
  rw [run_index_string W _ _ .i64 k Try.underlying9, dif_pos (by omega)]
  have : (⟨l.toArray⟩ : ByteArray)[k]'(by omega) = c := by
    show l.toArray[k] = c
    simpa using he
  simp [this]
theorem extract_mk (l : List UInt8) (i j : Nat) : (⟨l.toArray⟩ : ByteArray).extract i j = ⟨((l.drop i).take (j - i)).toArray⟩ := by
  apply ByteArray.ext
  rw [ByteArray.data_extract]
  apply Array.ext'
  simp [List.extract_eq_take_drop]
theorem str_from (l : List UInt8) {k : Nat} (hk : k ≤ l.length) (W : World) : (Instr.slice 9 (.string ⟨l.toArray⟩) (some (.int .i64 k)) none none).run Try.prog W = .ok (.string ⟨(l.drop k).toArray⟩) W := by
  have hs := str_size l
  rw [run_slice_string_from_if W _ _ .i64 k Try.underlying9, if_pos (by omega), extract_mk]
  rw [List.take_of_length_le (by rw [List.length_drop, hs]; omega)]
  rfl
theorem str_to (l : List UInt8) {k : Int} {n : Nat} (hn : k = n) (hk : n ≤ l.length) (W : World) : (Instr.slice 9 (.string ⟨l.toArray⟩) none (some (.int .i64 k)) none).run Try.prog W = .ok (.string ⟨(l.take n).toArray⟩) W := by
  have hs := str_size l
  subst hn
  rw [run_slice_string_to_if W _ _ .i64 n Try.underlying9, if_pos (by omega), extract_mk]
  simp
theorem byte_ne {c d : UInt8} (h : c ≠ d) : ((c.toNat : Int) != (d.toNat : Int)) = true ∧ ((c.toNat : Int) == (d.toNat : Int)) = false := by
  have : (c.toNat : Int) ≠ (d.toNat : Int) := fun e => h (UInt8.toNat_inj.1 (by omega))
  exact ⟨by simpa using this, by simpa using this⟩
theorem byte_eq {c d : UInt8} (h : c = d) : ((c.toNat : Int) != (d.toNat : Int)) = false ∧ ((c.toNat : Int) == (d.toNat : Int)) = true := by
  subst h; simp

set_option maxHeartbeats 4000000 in
theorem awake29_calls (w : World) : Calls Try.prog 8 #[] w fun e w' => e = .returned (.bool true) ∧ Pure w w' := by
  go_enter Try.func8, Try.ntmps8
  go_wp2_with (go_at_call 7; refine (Escape_calls _ _ (by decide)).mono ?_; rintro e w1 ⟨rfl, hu1⟩; have HU1 := As.mk hu1; clear hu1)
  go_ret
  exact ⟨rfl, HU1.out⟩

set_option maxRecDepth 100000 in
set_option maxHeartbeats 4000000 in
theorem HtmlClean_walk (l : List UInt8) (w : World) (hs : l.length ≤ 1048576) :
    Calls Try.prog 3 #[.string ⟨l.toArray⟩] w fun e w' => e = .returned (.bool true) ∧ Pure w w' := by
  have hsz := str_size l
  go_enter Try.func3, Try.ntmps3
  go_wp2_with (go_at_call 7; refine (Escape_calls _ _ (by omega)).mono ?_; rintro e w1 ⟨rfl, hu1⟩; have HU1 := As.mk hu1; clear hu1)
  go_loopg [4, 5] l.length (fun g p i wr => ∃ k : Nat, k + g = l.length ∧ i = .int .i64 k ∧ p = .bool (plainB (l.take k)) ∧ As (Pure w wr))
  case atStart => exact ⟨0, by omega, rfl, by simp [plainB], HU1⟩
  case round =>
    clear HU1
    obtain ⟨k, hk, rfl, rfl, HU⟩ := hrel
    by_cases hlt : k < l.length
    · obtain ⟨g1, rfl⟩ : ∃ m, gk = m + 1 := ⟨gk - 1, by omega⟩
      obtain ⟨c, hc⟩ : ∃ c, l[k]? = some c := ⟨_, List.getElem?_eq_getElem hlt⟩
      have hat := str_at hc
      have HP : As (plainB (l.take (k + 1)) = (plainB (l.take k) && !special c)) := ⟨by
        rw [List.take_add_one, hc]; simp [plainB]⟩
      have HK := As.mk hk
      clear hk hc
      generalize hp : plainB (l.take k) = p at *
      cases p
      · go_wp2
        go_roundg g1
        case measure => omega
        case rel => exact ⟨k + 1, by have := HK.out; omega, by go_num, by rw [HP.out]; simp [special], HU⟩
      · by_cases h60 : c = 60
        · have F := byte_eq h60
          subst h60
          go_wp2
          go_roundg g1
          case measure => omega
          case rel => exact ⟨k + 1, by have := HK.out; omega, by go_num, by rw [HP.out]; simp [special], HU⟩
        by_cases h62 : c = 62
        · have F := byte_eq h62
          subst h62
          go_wp2
          go_roundg g1
          case measure => omega
          case rel => exact ⟨k + 1, by have := HK.out; omega, by go_num, by rw [HP.out]; simp [special], HU⟩
        by_cases h34 : c = 34
        · have F := byte_eq h34
          subst h34
          go_wp2
          go_roundg g1
          case measure => omega
          case rel => exact ⟨k + 1, by have := HK.out; omega, by go_num, by rw [HP.out]; simp [special], HU⟩
        by_cases h38 : c = 38
        · have F := byte_eq h38
          subst h38
          go_wp2
          go_roundg g1
          case measure => omega
          case rel => exact ⟨k + 1, by have := HK.out; omega, by go_num, by rw [HP.out]; simp [special], HU⟩
        have HN := As.mk (And.intro h60 (And.intro h62 (And.intro h34 h38)))
        have f1 : ((c.toNat : Int) != 60) = true := (byte_ne h60).1
        have f2 : ((c.toNat : Int) != 62) = true := (byte_ne h62).1
        have f3 : ((c.toNat : Int) != 34) = true := (byte_ne h34).1
        have f4 : ((c.toNat : Int) != 38) = true := (byte_ne h38).1
        clear h60 h62 h34 h38
        go_wp2
        go_roundg g1
        case measure => omega
        case rel => exact ⟨k + 1, by have := HK.out; omega, by go_num, by rw [HP.out]; obtain ⟨h1, h2, h3, h4⟩ := HN.out; simp [special, h1, h2, h3, h4], HU⟩
    · have hkl : k = l.length := by omega
      subst hkl
      rw [List.take_length]
      have hdec : (plainB l == (esc l == l)) = true := by rw [esc_plain l]; by_cases h : esc l = l <;> simp [h]
      have HT := As.mk (esc_at l)
      have hlen : (esc l).length ≤ 6 * 1048576 := by have := esc_len l; omega
      have hts := str_size (esc l)
      clear hk
      go_wp2
      clear hdec
      generalize esc l = t at *
      go_loopg [6] t.length (fun g i wx => ∃ k : Nat, k + g = t.length ∧ i = .int .i64 k ∧ As (Pure w wx))
      case atStart => exact ⟨0, by omega, rfl, HU⟩
      case round =>
        clear HU
        obtain ⟨k, hk, rfl, HU⟩ := hrel
        by_cases hlt : k < t.length
        · obtain ⟨g1, rfl⟩ : ∃ m, gk = m + 1 := ⟨gk - 1, by omega⟩
          obtain ⟨c, hc⟩ : ∃ c, t[k]? = some c := ⟨_, List.getElem?_eq_getElem hlt⟩
          have hat := str_at hc
          obtain ⟨h1, h2, h3, h4⟩ := HT.out k c hc
          have HK := As.mk hk
          clear hk hc
          have f1 : ((c.toNat : Int) == 60) = false := (byte_ne h1).2
          have f2 : ((c.toNat : Int) == 62) = false := (byte_ne h2).2
          have f3 : ((c.toNat : Int) == 34) = false := (byte_ne h3).2
          clear h1 h2 h3
          by_cases h38 : c = 38
          · have hsl := str_from t (k := k) (by omega)
            have f4 : ((c.toNat : Int) == 38) = true := (byte_eq h38).2
            have H4 := As.mk (h4 h38)
            clear h4 h38
            obtain ⟨r, hr | hr | hr | hr⟩ := H4.out
            · rw [hr] at hsl
              simp only [List.cons_append, List.nil_append] at hsl
              clear hr H4
              have x4 : (⟨(38 :: 108 :: 116 :: 59 :: r).toArray⟩ : ByteArray).extract 0 4 = ⟨#[38, 108, 116, 59]⟩ := by rw [extract_mk]; rfl
              go_wp2
              go_roundg g1
              case measure => omega
              case rel => exact ⟨k + 1, by have := HK.out; omega, by go_num, HU⟩
            · rw [hr] at hsl
              simp only [List.cons_append, List.nil_append] at hsl
              clear hr H4
              have x4 : (⟨(38 :: 103 :: 116 :: 59 :: r).toArray⟩ : ByteArray).extract 0 4 = ⟨#[38, 103, 116, 59]⟩ := by rw [extract_mk]; rfl
              go_wp2
              go_roundg g1
              case measure => omega
              case rel => exact ⟨k + 1, by have := HK.out; omega, by go_num, HU⟩
            · rw [hr] at hsl
              simp only [List.cons_append, List.nil_append] at hsl
              clear hr H4
              have x4 : (⟨(38 :: 97 :: 109 :: 112 :: 59 :: r).toArray⟩ : ByteArray).extract 0 4 = ⟨#[38, 97, 109, 112]⟩ := by rw [extract_mk]; rfl
              have x5 : (⟨(38 :: 97 :: 109 :: 112 :: 59 :: r).toArray⟩ : ByteArray).extract 0 5 = ⟨#[38, 97, 109, 112, 59]⟩ := by rw [extract_mk]; rfl
              go_wp2
              go_roundg g1
              case measure => omega
              case rel => exact ⟨k + 1, by have := HK.out; omega, by go_num, HU⟩
            · rw [hr] at hsl
              simp only [List.cons_append, List.nil_append] at hsl
              clear hr H4
              have x4 : (⟨(38 :: 113 :: 117 :: 111 :: 116 :: 59 :: r).toArray⟩ : ByteArray).extract 0 4 = ⟨#[38, 113, 117, 111]⟩ := by rw [extract_mk]; rfl
              have x5 : (⟨(38 :: 113 :: 117 :: 111 :: 116 :: 59 :: r).toArray⟩ : ByteArray).extract 0 5 = ⟨#[38, 113, 117, 111, 116]⟩ := by rw [extract_mk]; rfl
              have x6 : (⟨(38 :: 113 :: 117 :: 111 :: 116 :: 59 :: r).toArray⟩ : ByteArray).extract 0 6 = ⟨#[38, 113, 117, 111, 116, 59]⟩ := by rw [extract_mk]; rfl
              go_wp2
              go_roundg g1
              case measure => omega
              case rel => exact ⟨k + 1, by have := HK.out; omega, by go_num, HU⟩
          · have f4 : ((c.toNat : Int) == 38) = false := (byte_ne h38).2
            clear h4 h38
            go_wp2
            go_roundg g1
            case measure => omega
            case rel => exact ⟨k + 1, by have := HK.out; omega, by go_num, HU⟩
        · have hge : ¬ ((k : Int) < (t.length : Int)) := by omega
          go_wp2_with (go_at_call 8; refine (awake29_calls _).mono ?_; rintro e w2 ⟨rfl, hu2⟩; have HU2 := As.mk hu2; clear hu2)
          go_ret
          exact ⟨rfl, HU.out.trans HU2.out (fun _ _ h => h)⟩
end Go.Proofs.Ytlombemkjjalkaa
