/- A step of any kind is told; what a step around some tokens does. -/
import Derived.Test.YtfapglhdakhbeaaGreatDoorEdAw
import Derived.Test.YtfapglhdakhbeaaGreatDoorMarkL
import Derived.Test.YtfapglhdakhbeaaGreatDoorRowK
namespace Go.Proofs.YtfapglhdakhbeaaGreatDoor
open Go.RowKit
set_option linter.unusedVariables false
set_option linter.unusedSimpArgs false

theorem DoC.pure {w W : World} {A B : Option Addr} {c cb : Nat} {l : List Tok} {s : StepD} (h : DoC w A c l B cb s) (hu : Pure w W) : DoC W A c l B cb s := fun V hV => h V (hu.trans hV (fun _ _ h => h))
theorem doc_arnd {w : World} {F G : Nat → Prop} {A B : Option Addr} {c cb : Nat} {l sl : List Tok} {a b g h ins : Int} (hne : l ≠ []) (hr : tokR.row w F A l) (hlc : l.length ≤ c) (hs : tokR.row w G B sl) (hsc : sl.length ≤ cb) (hn : sl = [] → B = none ∧ cb = 0)
    (h0 : (flatCheck l).2 = 0) (h1 : stepCheck (arnd a b g h ins sl) = 0) (h2 : b ≤ l.length) : DoC w A c l B cb (arnd a b g h ins sl) := by
  obtain ⟨bA, oA, rfl⟩ := row_some hr hne
  obtain ⟨h3, hok⟩ := step_check_zero.1 h1
  obtain ⟨o1, o2, o3, o4, o5, o6, o7, _⟩ := arnd_ok.1 hok
  have hl := flat_len h0
  have h3' : sl.length ≤ 2048 := h3
  intro W hW
  obtain ⟨a, rfl⟩ := Int.eq_ofNat_of_zero_le o1
  obtain ⟨g, rfl⟩ := Int.eq_ofNat_of_zero_le (Int.le_trans o1 o2)
  obtain ⟨h, rfl⟩ := Int.eq_ofNat_of_zero_le (Int.le_trans (Int.le_trans o1 o2) (Int.le_of_lt o3))
  obtain ⟨b, rfl⟩ := Int.eq_ofNat_of_zero_le (Int.le_trans (Int.le_trans (Int.le_trans o1 o2) (Int.le_of_lt o3)) o4)
  obtain ⟨ins, rfl⟩ := Int.eq_ofNat_of_zero_le o6
  rw [arnd_do]
  simp only [Int.toNat_natCast]
  by_cases hz : sl = []
  · subst hz
    obtain ⟨rfl, rfl⟩ := hn rfl
    obtain rfl : ins = 0 := by simp at o7; omega
    have := do_arnd_none (p := a) (q := b) (g := g) (h := h) (Rp.row_pure hr hW) hlc (by omega) (by omega) (by omega) (by omega) (by omega)
    simpa using this
  · obtain ⟨bB, oB, rfl⟩ := row_some hs hz
    have := do_arnd_some (p := a) (q := b) (g := g) (h := h) (n := ins) (Rp.row_pure hr hW) hlc (Rp.row_pure hs hW) hsc (by omega) (by omega) (by omega) (by omega) (by omega) (by omega)
    rw [← List.append_assoc, ← List.append_assoc, ← List.append_assoc] at this
    exact this
theorem tell_doc {w : World} {F G : Nat → Prop} {cb : Nat} {A B : Option Addr} {c cs : Nat} {l : List Tok} {s : StepD} (h : SchR w cb houseRules houseGroups) (hr : tokR.row w F A l) (hb : l.length ≤ 1048576 * 4) (hs : tokR.row w G B s.sl) (hsb : s.sl.length ≤ 1048576 * 4)
    (hd : (flatCheck l).2 = 0 → stepCheck s = 0 → s.tt ≤ l.length → DoC w A c l B cs s) :
    Calls Tryz.prog 96 #[deskV cb A l.length c, s.val B cs] w (Told (toldS s (remapErr l s)) (toldB B (remapErr l s)) (toldC cs (remapErr l s)) (remapErr l s) w) :=
  (tell_calls (fun W hW => Do_calls (h.pure hW) (fun V hV => Apply_calls (s := s) (Rp.row_pure (Rp.row_pure hr hW) hV) (Rp.row_pure (Rp.row_pure hs hW) hV) hb hsb (fun h0 h1 h2 => ((hd h0 h1 h2).pure hW).pure hV)))).mono (fun _ _ h => ToldR.told h)
theorem Apply_doc {w : World} {F G : Nat → Prop} {A B : Option Addr} {c cs : Nat} {l : List Tok} {s : StepD} (hr : tokR.row w F A l) (hb : l.length ≤ 1048576 * 4) (hs : tokR.row w G B s.sl) (hsb : s.sl.length ≤ 1048576 * 4)
    (hd : DoC w A c l B cs s) (he : remapErr l s = 0) :
    Calls Tryz.prog 59 #[.slice A l.length c, s.val B cs] w (fun r w' => (∃ B', r = .returned (.tuple #[.slice (some B') (stepDo l s).length (stepDo l s).length, .int .i64 0]) ∧ tokR.row w' (fun k => w.heap.size ≤ k) (some B') (stepDo l s)) ∧ Pure w w') := by
  have h1 := Apply_calls (s := s) hr hs hb hsb (fun _ _ _ => hd)
  rw [(remap_step he).1] at h1
  exact h1.mono fun r w' h => DocR.zero h
theorem part_bound {l : List Tok} {i : Nat} (h : l.length ≤ 2048) : -1 ≤ partL l i ∧ partL l i < (l.length : Int) := by
  by_cases h0 : 0 ≤ partL l i
  · obtain ⟨k, h1, _, h2, _⟩ := part_some (l := l) (i := i) rfl h0
    omega
  · unfold partL at h0 ⊢
    split
    · rename_i k hk
      rw [hk] at h0
      simp only at h0
      omega
    · omega
end Go.Proofs.YtfapglhdakhbeaaGreatDoor
