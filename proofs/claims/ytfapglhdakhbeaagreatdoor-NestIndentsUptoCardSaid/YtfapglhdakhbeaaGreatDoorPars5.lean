/- expr.Parse of the empty text, and of a name with one sign. expr: an atom that is a name, a sign behind it. expr: a part that is a name with one sign; a row, a choice of one such part; the whole; Parse. expr: a row, a choice of one part that is a name with a sign; the whole; Parse. expr: the whole; Parse. -/
import Derived.Test.YtfapglhdakhbeaaGreatDoorExpr
import Derived.Test.YtfapglhdakhbeaaGreatDoorHeldZ
import Derived.WalkSpells
namespace Go.Proofs.YtfapglhdakhbeaaGreatDoor
open Go.RowKit
set_option linter.unusedVariables false
set_option linter.unusedSimpArgs false

/-- A text that is read, up to a place. -/
def TB (w : World) (tb : Nat) (s : ByteArray) (k : Nat) : Prop := w.heap[tb]? = some (.cells #[.string s, .int .i64 k] 216 (0, 0))
theorem TB.pure {w w1 : World} {tb : Nat} {s : ByteArray} {k : Nat} (h : TB w tb s k) (hu : Pure w w1) : TB w1 tb s k := (hu.block _ (Array.getElem?_eq_some_iff.1 h).1 (fun h => h)).trans h
theorem TB.cells {w : World} {tb : Nat} {s : ByteArray} {k : Nat} (h : TB w tb s k) : (w.cell? ⟨tb, 0, none⟩ = some (.string s) ∧ w.cell? ⟨tb, 1, none⟩ = some (.int .i64 k)) ∧ w.frozen? ⟨tb, 1, none⟩ = false ∧ tb < w.heap.size := by
  have h' : w.heap[tb]? = some (.cells #[.string s, .int .i64 k] 216 (0, 0)) := h
  refine ⟨⟨?_, ?_⟩, ?_, (Array.getElem?_eq_some_iff.1 h).1⟩
  · unfold World.cell?; simp only [h']; rfl
  · unfold World.cell?; simp only [h']; rfl
  · simp [World.frozen?, h']
theorem TB.set {w : World} {tb : Nat} {s : ByteArray} {k : Nat} (h : TB w tb s k) (m : Nat) : TB (w.setCell ⟨tb, 1, none⟩ (.int .i64 m)) tb s m := by
  have h' : w.heap[tb]? = some (.cells #[.string s, .int .i64 k] 216 (0, 0)) := h
  unfold TB
  simp [World.setCell, Array.getElem?_modify, h']

set_option maxRecDepth 100000 in
set_option maxHeartbeats 4000000 in
theorem next_end {w : World} {tb : Nat} {s : ByteArray} (h : TB w tb s s.size) (hs : s.size ≤ 1000) :
    Calls Tryz.prog 189 #[.pointer (some ⟨tb, 0, none⟩)] w fun r w' => r = .returned (.int .u8 0) ∧ Pure w w' := by
  have HT := As.mk h
  have hlt : ¬ ((s.size : Int) < (s.size : Int)) := by omega
  have hlt2 : decide (s.size < s.size) = false := by simp
  have heq2 : (s.size == s.size) = true := by simp
  clear h
  go_enter Tryz.func189, Tryz.ntmps189
  go_wp2
  go_loopg [] 0 (fun g wr => As (wr = w))
  case atStart => exact ⟨rfl⟩
  case round =>
    obtain rfl := hrel.out
    obtain ⟨⟨c0, c1⟩, f1, htb⟩ := HT.out.cells
    have c0d : wr.drew.cell? ⟨tb, 0, none⟩ = some (.string s) := c0
    have c1d : wr.drew.cell? ⟨tb, 1, none⟩ = some (.int .i64 s.size) := c1
    go_wp2
    refine wp_region_held_drew (S := (fun v => v.cell? ⟨tb, 0, none⟩ = some (.string s) ∧ v.cell? ⟨tb, 1, none⟩ = some (.int .i64 s.size))) (by kernel_rfl) ?_ (fun hHeld => ?_)
    · exact ⟨c0d, c1d⟩
    refine zH 0 ?_
    refine zH 1 ?_
    refine zH 2 ?_
    refine zH 3 ?_
    (try simp only [Act.put, List.setIfInBounds_toArray, List.set_cons_zero, List.set_cons_succ])
    refine zH 4 ?_
    refine zH 5 ?_
    refine zH 6 ?_
    refine zH 7 ?_
    (try simp only [Act.put, List.setIfInBounds_toArray, List.set_cons_zero, List.set_cons_succ])
    refine zH 8 ?_
    refine zH 9 ?_
    refine zH 10 ?_
    refine sH 11 ?_
    (try simp only [Act.put, List.setIfInBounds_toArray, List.set_cons_zero, List.set_cons_succ])
    refine sH 12 ?_
    refine sH 13 ?_
    refine sH 14 ?_
    refine sH 15 ?_
    (try simp only [Act.put, List.setIfInBounds_toArray, List.set_cons_zero, List.set_cons_succ])
    refine sH 16 ?_
    refine sH 17 ?_
    refine sH 18 ?_
    refine sH 19 ?_
    (try simp only [Act.put, List.setIfInBounds_toArray, List.set_cons_zero, List.set_cons_succ])
    refine sH 20 ?_
    refine zH 21 ?_
    refine wpAnyH_done (by kernel_rfl) ?_ _
    go_wp2
    refine wp_region_held_drew (S := (fun v => v.cell? ⟨tb, 0, none⟩ = some (.string s) ∧ v.cell? ⟨tb, 1, none⟩ = some (.int .i64 s.size))) (by kernel_rfl) ?_ (fun hHeld => ?_)
    · exact ⟨c0d, c1d⟩
    refine zH 0 ?_
    refine zH 1 ?_
    (try simp only [Act.put, List.setIfInBounds_toArray, List.set_cons_zero, List.set_cons_succ])
    refine zH 2 ?_
    refine zH 3 ?_
    refine zH 4 ?_
    refine zH 5 ?_
    (try simp only [Act.put, List.setIfInBounds_toArray, List.set_cons_zero, List.set_cons_succ])
    refine zH 6 ?_
    refine zH 7 ?_
    refine zH 8 ?_
    refine zH 9 ?_
    (try simp only [Act.put, List.setIfInBounds_toArray, List.set_cons_zero, List.set_cons_succ])
    refine wpAnyH_done (by kernel_rfl) ?_ _
    go_wp2
    go_ret
    exact ⟨rfl, ((Upd.refl _ _).drew).drew⟩

set_option maxRecDepth 100000 in
set_option maxHeartbeats 4000000 in
theorem next_at {w : World} {tb k : Nat} {s : ByteArray} (h : TB w tb s k) (hk : k < s.size) (h32 : (s[k] == 32) = false) (h0 : 1 ≤ s[k].toNat) (hs : s.size ≤ 1000) :
    Calls Tryz.prog 189 #[.pointer (some ⟨tb, 0, none⟩)] w fun r w' => r = .returned (.int .u8 s[k].toNat) ∧ Pure w w' := by
  have HT := As.mk h
  have hlt : ((k : Int) < (s.size : Int)) := by omega
  have hlt2 : decide (k < s.size) = true := by simp; exact hk
  have hlt3 : decide ((k : Int) < (s.size : Int)) = true := by simp; omega
  have heq2 : (k == s.size) = false := by simp; omega
  have heq3 : ((k : Int) == (s.size : Int)) = false := by simp; omega
  have hb1 : ((s[k].toNat : Int) == 32) = false := by
    have : s[k] ≠ 32 := by simpa using h32
    simp
    intro h
    apply this
    apply UInt8.toNat_inj.1
    have : s[k].toNat = 32 := by omega
    rw [this]; rfl
  have hb2 : (s[k].toNat == 32) = false := by
    simp at hb1 ⊢
    omega
  have hmx : max (s[k].toNat : Int) 1 = (s[k].toNat : Int) := by omega
  clear h
  go_enter Tryz.func189, Tryz.ntmps189
  go_wp2
  go_loopg [] 0 (fun g wr => As (wr = w))
  case atStart => exact ⟨rfl⟩
  case round =>
    obtain rfl := hrel.out
    obtain ⟨⟨c0, c1⟩, f1, htb⟩ := HT.out.cells
    have c0d : wr.drew.cell? ⟨tb, 0, none⟩ = some (.string s) := c0
    have c1d : wr.drew.cell? ⟨tb, 1, none⟩ = some (.int .i64 k) := c1
    go_wp2
    refine wp_region_held_drew (S := (fun v => v.cell? ⟨tb, 0, none⟩ = some (.string s) ∧ v.cell? ⟨tb, 1, none⟩ = some (.int .i64 k))) (by kernel_rfl) ?_ (fun hHeld => ?_)
    · exact ⟨c0d, c1d⟩
    refine zH 0 ?_
    refine zH 1 ?_
    refine zH 2 ?_
    refine zH 3 ?_
    (try simp only [Act.put, List.setIfInBounds_toArray, List.set_cons_zero, List.set_cons_succ])
    refine zH 4 ?_
    refine zH 5 ?_
    refine zH 6 ?_
    refine zH 7 ?_
    (try simp only [Act.put, List.setIfInBounds_toArray, List.set_cons_zero, List.set_cons_succ])
    refine zH 8 ?_
    refine zH 9 ?_
    refine zH 10 ?_
    refine zH 11 ?_
    (try simp only [Act.put, List.setIfInBounds_toArray, List.set_cons_zero, List.set_cons_succ])
    refine zH 12 ?_
    refine zH 13 ?_
    refine zH 14 ?_
    refine zH 15 ?_
    (try simp only [Act.put, List.setIfInBounds_toArray, List.set_cons_zero, List.set_cons_succ])
    refine zH 16 ?_
    refine zH 17 ?_
    refine zH 18 ?_
    refine zH 19 ?_
    (try simp only [Act.put, List.setIfInBounds_toArray, List.set_cons_zero, List.set_cons_succ])
    refine zH 20 ?_
    refine zH 21 ?_
    refine wpAnyH_done (by kernel_rfl) ?_ _
    go_wp2
    refine wp_region_held_drew (S := (fun v => v.cell? ⟨tb, 0, none⟩ = some (.string s) ∧ v.cell? ⟨tb, 1, none⟩ = some (.int .i64 k))) (by kernel_rfl) ?_ (fun hHeld => ?_)
    · exact ⟨c0d, c1d⟩
    refine zH 0 ?_
    refine zH 1 ?_
    (try simp only [Act.put, List.setIfInBounds_toArray, List.set_cons_zero, List.set_cons_succ])
    refine zH 2 ?_
    refine zH 3 ?_
    refine zH 4 ?_
    refine zH 5 ?_
    (try simp only [Act.put, List.setIfInBounds_toArray, List.set_cons_zero, List.set_cons_succ])
    refine zH 6 ?_
    refine zH 7 ?_
    refine zH 8 ?_
    refine zH 9 ?_
    (try simp only [Act.put, List.setIfInBounds_toArray, List.set_cons_zero, List.set_cons_succ])
    refine wpAnyH_done (by kernel_rfl) ?_ _
    go_wp2
    refine wp_region_held_drew (S := (fun v => v.cell? ⟨tb, 0, none⟩ = some (.string s) ∧ v.cell? ⟨tb, 1, none⟩ = some (.int .i64 k))) (by kernel_rfl) ?_ (fun hHeld => ?_)
    · exact ⟨c0d, c1d⟩
    refine zH 0 ?_
    refine zH 1 ?_
    refine zH 2 ?_
    refine zH 3 ?_
    (try simp only [Act.put, List.setIfInBounds_toArray, List.set_cons_zero, List.set_cons_succ])
    refine zH 4 ?_
    refine zH 5 ?_
    refine zH 6 ?_
    refine zH 7 ?_
    (try simp only [Act.put, List.setIfInBounds_toArray, List.set_cons_zero, List.set_cons_succ])
    refine zH 8 ?_
    refine zH 9 ?_
    refine zH 10 ?_
    refine wpAnyH_done (by kernel_rfl) ?_ _
    go_wp2
    go_ret
    exact ⟨rfl, (((Upd.refl _ _).drew).drew).drew⟩
end Go.Proofs.YtfapglhdakhbeaaGreatDoor
namespace Go.Proofs.YtfapglhdakhbeaaGreatDoor
open Go.RowKit
set_option linter.unusedVariables false
set_option linter.unusedSimpArgs false

theorem set3U (w : World) (rb : Nat) (y0 y1 y2 : Value) : Upd (fun k => k = rb) w (((w.setCell ⟨rb, 0, none⟩ y0).setCell ⟨rb, 1, none⟩ y1).setCell ⟨rb, 2, none⟩ y2) :=
  (((Upd.refl (fun k => k = rb) w).setCell (p := ⟨rb, 0, none⟩) (fun _ => rfl) _).setCell (p := ⟨rb, 1, none⟩) (fun _ => rfl) _).setCell (p := ⟨rb, 2, none⟩) (fun _ => rfl) _
theorem cells3P {w : World} {b : Nat} {x0 x1 x2 : Value} {t : TypeId} (h : w.heap[b]? = some (.cells #[x0, x1, x2] t (0, 0))) :
    (w.cell? ⟨b, 0, none⟩ = some x0 ∧ w.cell? ⟨b, 1, none⟩ = some x1 ∧ w.cell? ⟨b, 2, none⟩ = some x2) ∧ (w.frozen? ⟨b, 0, none⟩ = false ∧ w.frozen? ⟨b, 1, none⟩ = false ∧ w.frozen? ⟨b, 2, none⟩ = false) ∧ b < w.heap.size := by
  refine ⟨⟨?_, ?_, ?_⟩, ⟨?_, ?_, ?_⟩, (Array.getElem?_eq_some_iff.1 h).1⟩
  all_goals first | (unfold World.cell?; simp only [h]; rfl) | simp [World.frozen?, h]

/-- A name in a text: from k to m. -/
structure NameIn (s : ByteArray) (k m : Nat) : Prop where
  lt : k < m
  le : m ≤ s.size
  small : s.size ≤ 1000
  in_ : ∀ i, k ≤ i → i < m → nameB (s.extract i (i + 1)) = true
  out : m < s.size → nameB (s.extract m (m + 1)) = false

set_option maxRecDepth 100000 in
set_option maxHeartbeats 4000000 in
theorem atom_name {w : World} {tb k m : Nat} {s : ByteArray} (h : TB w tb s k) (hn : NameIn s k m) (hk : k < s.size) (h40 : (s[k] == 40) = false) (h32 : (s[k] == 32) = false) (h0 : 1 ≤ s[k].toNat) :
    Calls Tryz.prog 230 #[.pointer (some ⟨tb, 0, none⟩)] w fun r w' => r = .returned (.tuple #[.agg #[.int .i64 1, .string (s.extract k m), .slice none 0 0], .nilIface]) ∧ TB w' tb s m ∧ Upd (fun q => q = tb) w w' := by
  have HN := As.mk hn
  have hks := hn.lt
  have hms := hn.le
  have hsm := hn.small
  have hT1 : Pure w (w.alloc (.cells #[.int .i64 0, .string ⟨#[]⟩, .slice none 0 0] 95)) := Upd.alloc1 _ _ _
  have htbw := h.cells.2.2
  have HNX := As.mk (next_at (h.pure hT1) hk h32 h0 hsm)
  have HT := As.mk (h.pure hT1)
  have hb1 : ((s[k].toNat : Int) == 40) = false := by
    have : s[k] ≠ 40 := by simpa using h40
    simp
    intro h
    apply this
    apply UInt8.toNat_inj.1
    have : s[k].toNat = 40 := by omega
    rw [this]; rfl
  have hb2 : (s[k].toNat == 40) = false := by
    simp at hb1 ⊢
    omega
  clear h hn h40 h32 h0
  go_enter Tryz.func230, Tryz.ntmps230
  go_wp2_with (go_at_call 189; refine HNX.out.mono ?_; rintro e w1 ⟨rfl, hu⟩; have HU1 := As.mk hu; clear hu; apply As.out)
  refine ⟨?_⟩
  have HT1 := As.mk (HT.out.pure HU1.out)
  obtain ⟨⟨c0, c1⟩, f1, htb⟩ := HT1.out.cells
  have hrb0 := (HU1.out.block w.heap.size (by simp) (fun h => h)).trans (heap_alloc_new w _)
  have HRB := As.mk hrb0
  clear hrb0
  go_wp2
  go_loopg [] (m - k) (fun g wr => ∃ i : Nat, i + g = m ∧ k ≤ i ∧ As (TB wr tb s i ∧ Upd (fun q => q = tb) w1 wr))
  case atStart => exact ⟨k, by omega, Nat.le_refl _, ⟨HT1.out, Upd.refl _ _⟩⟩
  case round =>
    obtain ⟨i, hi, hki, HP⟩ := hrel
    clear c0 c1 f1
    obtain ⟨⟨c0, c1⟩, f1, htb2⟩ := HP.out.1.cells
    have c0d : wr.drew.cell? ⟨tb, 0, none⟩ = some (.string s) := c0
    have c1d : wr.drew.cell? ⟨tb, 1, none⟩ = some (.int .i64 i) := c1
    by_cases hlt : i < m
    · obtain ⟨g1, rfl⟩ : ∃ g, gk = g + 1 := ⟨gk - 1, by omega⟩
      have hl1 : ((i : Int) < (s.size : Int)) := by omega
      have hl2 : decide (i < s.size) = true := by simp; omega
      have hl3 : decide ((i : Int) < (s.size : Int)) = true := by simp; omega
      have hwr : IntKind.i64.wrap ((i : Int) + 1) = (i : Int) + 1 := by rw [IntKind.wrap_i64]; omega
      have hx1 : (0 : Int) ≤ (i : Int) + 1 := by omega
      have hx2 : (i : Int) + 1 ≤ (s.size : Int) := by omega
      have hx3 : (i : Int) ≤ (i : Int) + 1 := by omega
      have HI := As.mk hi
      have HNM := As.mk (HN.out.in_ i hki hlt)
      clear hi
      go_wp2
      refine wp_region_held_drew (S := (fun v => v.cell? ⟨tb, 0, none⟩ = some (.string s) ∧ v.cell? ⟨tb, 1, none⟩ = some (.int .i64 i))) (by kernel_rfl) ?_ (fun hHeld => ?_)
      · first | exact ⟨(HUn.out.cell htb2 (fun h => h)).trans c0d, (HUn.out.cell htb2 (fun h => h)).trans c1d⟩ | exact ⟨c0d, c1d⟩
      refine zH 0 ?_
      (try simp only [Act.put, List.setIfInBounds_toArray, List.set_cons_zero, List.set_cons_succ])
      refine zH 1 ?_
      refine zH 2 ?_
      refine zH 3 ?_
      refine zH 4 ?_
      (try simp only [Act.put, List.setIfInBounds_toArray, List.set_cons_zero, List.set_cons_succ])
      refine zH 5 ?_
      refine zH 6 ?_
      refine zH 7 ?_
      refine zH 8 ?_
      (try simp only [Act.put, List.setIfInBounds_toArray, List.set_cons_zero, List.set_cons_succ])
      refine zH 9 ?_
      refine zH 10 ?_
      refine zH 11 ?_
      refine zH 12 ?_
      (try simp only [Act.put, List.setIfInBounds_toArray, List.set_cons_zero, List.set_cons_succ])
      refine zH 13 ?_
      refine zH 14 ?_
      refine zH 15 ?_
      refine zH 16 ?_
      (try simp only [Act.put, List.setIfInBounds_toArray, List.set_cons_zero, List.set_cons_succ])
      refine zH 17 ?_
      refine zH 18 ?_
      refine zH 19 ?_
      refine zH 20 ?_
      (try simp only [Act.put, List.setIfInBounds_toArray, List.set_cons_zero, List.set_cons_succ])
      refine zH 21 ?_
      refine zH 22 ?_
      refine zH 23 ?_
      refine zH 24 ?_
      (try simp only [Act.put, List.setIfInBounds_toArray, List.set_cons_zero, List.set_cons_succ])
      refine wpAnyH_ready (rs := [25]) (by kernel_rfl) (by simp) (AllReadyH.cons (o := { dst := (some 71), op := (Go.Op.call { callee := (Go.Callee.value (Go.Operand.func 165)), args := #[(Go.Operand.tmp 70)], argTypes := #[9] }), type := 4, pos := "expr.go:172", after := #[{ on := 24, ground := Go.Ground.data }, { on := 10, ground := Go.Ground.chain }, { on := 10, ground := Go.Ground.guard }], guard := (some (10, true)) }) rfl (fun K hK => ?_) AllReadyH.nil)
      go_simp
      (go_at_call 165; refine (Name_calls (s.extract i (i + 1)) _ (by simp; omega)).mono ?_; rintro e wn ⟨rfl, hu⟩; rw [HNM.out]; have HUn := As.mk (show Pure wr.drew wn from hu); clear hu)
      refine hK.out _ _ (by first | exact ⟨(HUn.out.cell htb2 (fun h => h)).trans c0d, (HUn.out.cell htb2 (fun h => h)).trans c1d⟩ | exact ⟨c0d, c1d⟩) (fun hHeld => ?_)
      clear hK K
      (try simp only [Act.put, List.setIfInBounds_toArray, List.set_cons_zero, List.set_cons_succ])
      refine zH 26 ?_
      refine wpAnyH_done (by kernel_rfl) ?_ _
      obtain ⟨⟨n0, n1⟩, nf1, ntb⟩ := (HP.out.1.pure ((Upd.refl (fun _ => False) wr).drew.trans HUn.out (fun _ _ h => h))).cells
      go_wp2
      go_roundg g1
      case measure => omega
      case rel =>
        have hT2 := (HP.out.1.pure ((Upd.refl (fun _ => False) wr).drew.trans HUn.out (fun _ _ h => h))).set (i + 1)
        exact ⟨i + 1, by have := HI.out; omega, by omega, ⟨hT2, (HP.out.2.trans ((Upd.refl (fun _ => False) wr).drew.trans HUn.out (fun _ _ h => h)) (fun _ _ h => h.elim)).setCell (p := ⟨tb, 1, none⟩) (fun _ => rfl) _⟩⟩
    · have him : i = m := by omega
      have hik : ((i : Int) == (k : Int)) = false := by simp; omega
      have hik2 : (i == k) = false := by simp; omega
      have hsl1 : (0 : Int) ≤ (i : Int) := by omega
      have hsl2 : (i : Int) ≤ (s.size : Int) := by omega
      have hsl3 : (k : Int) ≤ (i : Int) := by omega
      by_cases hend : i < s.size
      · have hl1 : ((i : Int) < (s.size : Int)) := by omega
        have hl2 : decide (i < s.size) = true := by simp; omega
        have hl3 : decide ((i : Int) < (s.size : Int)) = true := by simp; omega
        have hwr : IntKind.i64.wrap ((i : Int) + 1) = (i : Int) + 1 := by rw [IntKind.wrap_i64]; omega
        have hx1 : (0 : Int) ≤ (i : Int) + 1 := by omega
        have hx2 : (i : Int) + 1 ≤ (s.size : Int) := by omega
        have hx3 : (i : Int) ≤ (i : Int) + 1 := by omega
        have HNM : As (nameB (s.extract i (i + 1)) = false) := ⟨by rw [him]; exact HN.out.out (by omega)⟩
        have HIM := As.mk him
        clear him
        go_wp2
        refine wp_region_held_drew (S := (fun v => v.cell? ⟨tb, 0, none⟩ = some (.string s) ∧ v.cell? ⟨tb, 1, none⟩ = some (.int .i64 i))) (by kernel_rfl) ?_ (fun hHeld => ?_)
        · first | exact ⟨(HUn.out.cell htb2 (fun h => h)).trans c0d, (HUn.out.cell htb2 (fun h => h)).trans c1d⟩ | exact ⟨c0d, c1d⟩
        refine zH 0 ?_
        refine zH 1 ?_
        (try simp only [Act.put, List.setIfInBounds_toArray, List.set_cons_zero, List.set_cons_succ])
        refine zH 2 ?_
        refine zH 3 ?_
        refine zH 4 ?_
        refine zH 5 ?_
        (try simp only [Act.put, List.setIfInBounds_toArray, List.set_cons_zero, List.set_cons_succ])
        refine zH 6 ?_
        refine zH 7 ?_
        refine zH 8 ?_
        refine zH 9 ?_
        (try simp only [Act.put, List.setIfInBounds_toArray, List.set_cons_zero, List.set_cons_succ])
        refine zH 10 ?_
        refine zH 11 ?_
        refine zH 12 ?_
        refine zH 13 ?_
        (try simp only [Act.put, List.setIfInBounds_toArray, List.set_cons_zero, List.set_cons_succ])
        refine zH 14 ?_
        refine zH 15 ?_
        refine zH 16 ?_
        refine zH 17 ?_
        (try simp only [Act.put, List.setIfInBounds_toArray, List.set_cons_zero, List.set_cons_succ])
        refine zH 18 ?_
        refine zH 19 ?_
        refine zH 20 ?_
        refine zH 21 ?_
        (try simp only [Act.put, List.setIfInBounds_toArray, List.set_cons_zero, List.set_cons_succ])
        refine zH 22 ?_
        refine zH 23 ?_
        refine zH 24 ?_
        refine wpAnyH_ready (rs := [25]) (by kernel_rfl) (by simp) (AllReadyH.cons (o := { dst := (some 71), op := (Go.Op.call { callee := (Go.Callee.value (Go.Operand.func 165)), args := #[(Go.Operand.tmp 70)], argTypes := #[9] }), type := 4, pos := "expr.go:172", after := #[{ on := 24, ground := Go.Ground.data }, { on := 10, ground := Go.Ground.chain }, { on := 10, ground := Go.Ground.guard }], guard := (some (10, true)) }) rfl (fun K hK => ?_) AllReadyH.nil)
        go_simp
        (go_at_call 165; refine (Name_calls (s.extract i (i + 1)) _ (by simp; omega)).mono ?_; rintro e wn ⟨rfl, hu⟩; rw [HNM.out]; have HUn := As.mk (show Pure wr.drew wn from hu); clear hu)
        refine hK.out _ _ (by first | exact ⟨(HUn.out.cell htb2 (fun h => h)).trans c0d, (HUn.out.cell htb2 (fun h => h)).trans c1d⟩ | exact ⟨c0d, c1d⟩) (fun hHeld => ?_)
        clear hK K
        (try simp only [Act.put, List.setIfInBounds_toArray, List.set_cons_zero, List.set_cons_succ])
        refine zH 26 ?_
        refine wpAnyH_done (by kernel_rfl) ?_ _
        have HW9 := As.mk ((Upd.refl (fun _ => False) wr).drew.trans HUn.out (fun _ _ h => h))
        obtain ⟨⟨n0, n1⟩, nf1, ntb⟩ := (HP.out.1.pure HW9.out).cells
        have hrb : wn.heap[w.heap.size]? = some (.cells #[.int .i64 0, .string ⟨#[]⟩, .slice none 0 0] 95 (0, 0)) := ((HW9.out.block _ (by have := HP.out.2.size; have := (Array.getElem?_eq_some_iff.1 HRB.out).1; omega) (fun h => h)).trans (HP.out.2.block _ (Array.getElem?_eq_some_iff.1 HRB.out).1 (by omega))).trans HRB.out
        obtain ⟨⟨r0, r1, r2⟩, ⟨rf0, rf1, rf2⟩, hrl⟩ := cells3P hrb
        have n0d : wn.drew.cell? ⟨tb, 0, none⟩ = some (.string s) := n0
        have n1d : wn.drew.cell? ⟨tb, 1, none⟩ = some (.int .i64 i) := n1
        have hne : ¬ tb = w.heap.size := by omega
        go_wp2
        refine wp_region_T (P := Tryz.prog) (fun v => (v.cell? ⟨tb, 0, none⟩ = some (.string s) ∧ v.cell? ⟨tb, 1, none⟩ = some (.int .i64 i)) ∧ v.frozen? ⟨w.heap.size, 0, none⟩ = false ∧ v.frozen? ⟨w.heap.size, 1, none⟩ = false ∧ v.frozen? ⟨w.heap.size, 2, none⟩ = false) 12 (by kernel_rfl) ?_ (fun hHeld => ?_)
        · first | exact ⟨⟨((set3U _ w.heap.size _ _ _).cell ntb hne).trans n0d, ((set3U _ w.heap.size _ _ _).cell ntb hne).trans n1d⟩, by simp [World.frozen?_setCell, rf0], by simp [World.frozen?_setCell, rf1], by simp [World.frozen?_setCell, rf2]⟩ | exact ⟨⟨n0d, n1d⟩, rf0, rf1, rf2⟩
        refine zT 0 ?_
        refine zT 1 ?_
        refine zT 2 ?_
        (try simp only [Act.put, List.setIfInBounds_toArray, List.set_cons_zero, List.set_cons_succ])
        refine zT 3 ?_
        refine zT 4 ?_
        refine zT 5 ?_
        refine zT 6 ?_
        (try simp only [Act.put, List.setIfInBounds_toArray, List.set_cons_zero, List.set_cons_succ])
        refine zT 7 ?_
        refine zT 8 ?_
        refine zT 9 ?_
        refine zT 10 ?_
        (try simp only [Act.put, List.setIfInBounds_toArray, List.set_cons_zero, List.set_cons_succ])
        refine oT 11 (fun K hK => ?_)
        go_simp
        refine hK.out _ _ (fun _ => by first | exact ⟨⟨((set3U _ w.heap.size _ _ _).cell ntb hne).trans n0d, ((set3U _ w.heap.size _ _ _).cell ntb hne).trans n1d⟩, by simp [World.frozen?_setCell, rf0], by simp [World.frozen?_setCell, rf1], by simp [World.frozen?_setCell, rf2]⟩ | exact ⟨⟨n0d, n1d⟩, rf0, rf1, rf2⟩) (fun hHeld => ?_)
        replace hHeld := hHeld (by decide)
        clear hK K
        (try simp only [Act.put, List.setIfInBounds_toArray, List.set_cons_zero, List.set_cons_succ])
        refine oT 12 (fun K hK => ?_)
        go_simp
        refine hK.out _ _ (fun h => absurd rfl h) (fun hHeld => ?_)
        clear hK K
        (try simp only [Act.put, List.setIfInBounds_toArray, List.set_cons_zero, List.set_cons_succ])
        refine wpAnyT_done (by kernel_rfl) ?_ _
        go_wp2
        exact bodyPost_ret (v := .tuple #[.agg #[.int .i64 1, .string (s.extract k i), .slice none 0 0], .nilIface]) (by simp [results, Tryz.results230, go_sem, r0, r1, r2, rf0, rf1, rf2]) rfl ⟨by rw [HIM.out], by
          have hT := HP.out.1.pure HW9.out
          unfold TB at hT ⊢
          rw [← HIM.out]
          exact (((set3U _ w.heap.size _ _ _).drew).block _ ntb hne).trans hT, by
          refine Upd.trans (S' := fun q => q = w.heap.size) (((hT1.trans HU1.out (fun _ _ h => h)).mono (fun _ _ h => h.elim)).trans (HP.out.2.trans HW9.out (fun _ _ h => h.elim)) (fun q hq h => h)) ?_ (fun q hq h => absurd h (by omega))
          first | exact (set3U _ w.heap.size _ _ _).drew | exact ((set3U _ w.heap.size _ _ _).drew).drew⟩
      · have hl2 : decide (i < s.size) = false := by simp; omega
        have hl3 : decide ((i : Int) < (s.size : Int)) = false := by simp; omega
        have hl1 : ¬ ((i : Int) < (s.size : Int)) := by omega
        have HIM := As.mk him
        clear him
        go_wp2
        refine wp_region_held_drew (S := (fun v => v.cell? ⟨tb, 0, none⟩ = some (.string s) ∧ v.cell? ⟨tb, 1, none⟩ = some (.int .i64 i))) (by kernel_rfl) ?_ (fun hHeld => ?_)
        · exact ⟨c0d, c1d⟩
        refine zH 0 ?_
        refine zH 1 ?_
        (try simp only [Act.put, List.setIfInBounds_toArray, List.set_cons_zero, List.set_cons_succ])
        refine zH 2 ?_
        refine zH 3 ?_
        refine zH 4 ?_
        refine zH 5 ?_
        (try simp only [Act.put, List.setIfInBounds_toArray, List.set_cons_zero, List.set_cons_succ])
        refine zH 6 ?_
        refine zH 7 ?_
        refine zH 8 ?_
        refine zH 9 ?_
        (try simp only [Act.put, List.setIfInBounds_toArray, List.set_cons_zero, List.set_cons_succ])
        refine zH 10 ?_
        refine sH 11 ?_
        refine sH 12 ?_
        refine sH 13 ?_
        (try simp only [Act.put, List.setIfInBounds_toArray, List.set_cons_zero, List.set_cons_succ])
        refine sH 14 ?_
        refine sH 15 ?_
        refine sH 16 ?_
        refine sH 17 ?_
        (try simp only [Act.put, List.setIfInBounds_toArray, List.set_cons_zero, List.set_cons_succ])
        refine sH 18 ?_
        refine sH 19 ?_
        refine sH 20 ?_
        refine sH 21 ?_
        (try simp only [Act.put, List.setIfInBounds_toArray, List.set_cons_zero, List.set_cons_succ])
        refine sH 22 ?_
        refine sH 23 ?_
        refine sH 24 ?_
        refine sH 25 ?_
        (try simp only [Act.put, List.setIfInBounds_toArray, List.set_cons_zero, List.set_cons_succ])
        refine zH 26 ?_
        refine wpAnyH_done (by kernel_rfl) ?_ _
        have HW9 := As.mk (Upd.refl (fun _ => False) wr)
        obtain ⟨⟨n0, n1⟩, nf1, ntb⟩ := (HP.out.1.pure HW9.out).cells
        have hrb : wr.heap[w.heap.size]? = some (.cells #[.int .i64 0, .string ⟨#[]⟩, .slice none 0 0] 95 (0, 0)) := ((HW9.out.block _ (by have := HP.out.2.size; have := (Array.getElem?_eq_some_iff.1 HRB.out).1; omega) (fun h => h)).trans (HP.out.2.block _ (Array.getElem?_eq_some_iff.1 HRB.out).1 (by omega))).trans HRB.out
        obtain ⟨⟨r0, r1, r2⟩, ⟨rf0, rf1, rf2⟩, hrl⟩ := cells3P hrb
        have n0d : wr.drew.drew.cell? ⟨tb, 0, none⟩ = some (.string s) := n0
        have n1d : wr.drew.drew.cell? ⟨tb, 1, none⟩ = some (.int .i64 i) := n1
        have hne : ¬ tb = w.heap.size := by omega
        go_wp2
        refine wp_region_T (P := Tryz.prog) (fun v => (v.cell? ⟨tb, 0, none⟩ = some (.string s) ∧ v.cell? ⟨tb, 1, none⟩ = some (.int .i64 i)) ∧ v.frozen? ⟨w.heap.size, 0, none⟩ = false ∧ v.frozen? ⟨w.heap.size, 1, none⟩ = false ∧ v.frozen? ⟨w.heap.size, 2, none⟩ = false) 12 (by kernel_rfl) ?_ (fun hHeld => ?_)
        · first | exact ⟨⟨((set3U _ w.heap.size _ _ _).cell ntb hne).trans n0d, ((set3U _ w.heap.size _ _ _).cell ntb hne).trans n1d⟩, by simp [World.frozen?_setCell, rf0], by simp [World.frozen?_setCell, rf1], by simp [World.frozen?_setCell, rf2]⟩ | exact ⟨⟨n0d, n1d⟩, rf0, rf1, rf2⟩
        refine zT 0 ?_
        refine zT 1 ?_
        refine zT 2 ?_
        (try simp only [Act.put, List.setIfInBounds_toArray, List.set_cons_zero, List.set_cons_succ])
        refine zT 3 ?_
        refine zT 4 ?_
        refine zT 5 ?_
        refine zT 6 ?_
        (try simp only [Act.put, List.setIfInBounds_toArray, List.set_cons_zero, List.set_cons_succ])
        refine zT 7 ?_
        refine zT 8 ?_
        refine zT 9 ?_
        refine zT 10 ?_
        (try simp only [Act.put, List.setIfInBounds_toArray, List.set_cons_zero, List.set_cons_succ])
        refine oT 11 (fun K hK => ?_)
        go_simp
        refine hK.out _ _ (fun _ => by first | exact ⟨⟨((set3U _ w.heap.size _ _ _).cell ntb hne).trans n0d, ((set3U _ w.heap.size _ _ _).cell ntb hne).trans n1d⟩, by simp [World.frozen?_setCell, rf0], by simp [World.frozen?_setCell, rf1], by simp [World.frozen?_setCell, rf2]⟩ | exact ⟨⟨n0d, n1d⟩, rf0, rf1, rf2⟩) (fun hHeld => ?_)
        replace hHeld := hHeld (by decide)
        clear hK K
        (try simp only [Act.put, List.setIfInBounds_toArray, List.set_cons_zero, List.set_cons_succ])
        refine oT 12 (fun K hK => ?_)
        go_simp
        refine hK.out _ _ (fun h => absurd rfl h) (fun hHeld => ?_)
        clear hK K
        (try simp only [Act.put, List.setIfInBounds_toArray, List.set_cons_zero, List.set_cons_succ])
        refine wpAnyT_done (by kernel_rfl) ?_ _
        go_wp2
        exact bodyPost_ret (v := .tuple #[.agg #[.int .i64 1, .string (s.extract k i), .slice none 0 0], .nilIface]) (by simp [results, Tryz.results230, go_sem, r0, r1, r2, rf0, rf1, rf2]) rfl ⟨by rw [HIM.out], by
          have hT := HP.out.1.pure HW9.out
          unfold TB at hT ⊢
          rw [← HIM.out]
          exact (((set3U _ w.heap.size _ _ _).drew).block _ ntb hne).trans hT, by
          refine Upd.trans (S' := fun q => q = w.heap.size) (((hT1.trans HU1.out (fun _ _ h => h)).mono (fun _ _ h => h.elim)).trans (HP.out.2.trans HW9.out (fun _ _ h => h.elim)) (fun q hq h => h)) ?_ (fun q hq h => absurd h (by omega))
          first | exact (set3U _ w.heap.size _ _ _).drew | exact ((set3U _ w.heap.size _ _ _).drew).drew⟩
end Go.Proofs.YtfapglhdakhbeaaGreatDoor
namespace Go.Proofs.YtfapglhdakhbeaaGreatDoor
open Go.RowKit
set_option linter.unusedVariables false
set_option linter.unusedSimpArgs false

set_option maxRecDepth 100000 in
set_option maxHeartbeats 4000000 in
theorem sign_is {c kk : Int} (h : (c = 42 ∧ kk = 4) ∨ (c = 43 ∧ kk = 5) ∨ (c = 63 ∧ kk = 6) ∨ (c = 0 ∧ kk = 0)) (w : World) : Calls Tryz.prog 231 #[.int .u8 c] w fun r w' => r = .returned (.int .i64 kk) ∧ w = w' := by
  rcases h with ⟨rfl, rfl⟩ | ⟨rfl, rfl⟩ | ⟨rfl, rfl⟩ | ⟨rfl, rfl⟩
  all_goals
    go_enter Tryz.func231, Tryz.ntmps231
    go_wp2
    go_ret
    exact ⟨rfl, rfl⟩

/-- A text: a name, and one sign. -/
structure NameSign (s : ByteArray) (m : Nat) (kk : Int) : Prop where
  nm : NameIn s 0 m
  len : m + 1 = s.size
  sg : ∀ h : m < s.size, ((s[m].toNat : Int) = 42 ∧ kk = 4) ∨ ((s[m].toNat : Int) = 43 ∧ kk = 5) ∨ ((s[m].toNat : Int) = 63 ∧ kk = 6)
  nb : nameB (s.extract 0 m) = true
  c0 : ∀ h : 0 < s.size, (s[0] == 40) = false ∧ (s[0] == 32) = false ∧ 1 ≤ s[0].toNat

/-- A name in a block of its own. -/
abbrev NameB (w : World) (nb : Nat) (nm : ByteArray) : Prop := w.heap[nb]? = some (.cells #[.int .i64 1, .string nm, .slice none 0 0] 95 (0, 0))

/-- What lies there behind the sign. -/
structure PartR (w : World) (tb : Nat) (s : ByteArray) (m : Nat) (kk : Int) (eb nb : Nat) (wr : World) : Prop where
  ht : TB wr tb s s.size
  nm : NameB wr nb (s.extract 0 m)
  le : w.heap.size < nb
  eb : wr.heap[eb]? = some (.cells #[.int .i64 kk, .string ⟨#[]⟩, .slice (some ⟨nb, 0, none⟩) 1 1] 95 (0, 0))
  rb : wr.heap[w.heap.size]? = some (.cells #[.int .i64 0, .string ⟨#[]⟩, .slice none 0 0] 95 (0, 0))
  up : Upd (fun q => q = tb) w wr

theorem part_step {w2 : World} {tb eb m : Nat} {s : ByteArray} {kk : Int} {x0 x1 x2 : Value} (hT : TB (w2.setCell ⟨tb, 1, none⟩ (.int .i64 (m : Nat))) tb s m) (he : w2.heap[eb]? = some (.cells #[x0, x1, x2] 95 (0, 0))) (hne : tb ≠ eb) (nm : ByteArray) :
    TB (((((w2.setCell ⟨tb, 1, none⟩ (.int .i64 (m : Nat))).setCell ⟨eb, 0, none⟩ (.int .i64 kk)).setCell ⟨eb, 1, none⟩ (.string ⟨#[]⟩)).setCell ⟨eb, 2, none⟩ (.slice (some ⟨w2.heap.size, 0, none⟩) 1 1)).alloc (.cells #[.int .i64 1, .string nm, .slice none 0 0] 95)) tb s m ∧
    NameB (((((w2.setCell ⟨tb, 1, none⟩ (.int .i64 (m : Nat))).setCell ⟨eb, 0, none⟩ (.int .i64 kk)).setCell ⟨eb, 1, none⟩ (.string ⟨#[]⟩)).setCell ⟨eb, 2, none⟩ (.slice (some ⟨w2.heap.size, 0, none⟩) 1 1)).alloc (.cells #[.int .i64 1, .string nm, .slice none 0 0] 95)) w2.heap.size nm ∧
    (((((w2.setCell ⟨tb, 1, none⟩ (.int .i64 (m : Nat))).setCell ⟨eb, 0, none⟩ (.int .i64 kk)).setCell ⟨eb, 1, none⟩ (.string ⟨#[]⟩)).setCell ⟨eb, 2, none⟩ (.slice (some ⟨w2.heap.size, 0, none⟩) 1 1)).alloc (.cells #[.int .i64 1, .string nm, .slice none 0 0] 95)).heap[eb]? = some (.cells #[.int .i64 kk, .string ⟨#[]⟩, .slice (some ⟨w2.heap.size, 0, none⟩) 1 1] 95 (0, 0)) ∧
    Upd (fun q => q = tb ∨ q = eb) w2 (((((w2.setCell ⟨tb, 1, none⟩ (.int .i64 (m : Nat))).setCell ⟨eb, 0, none⟩ (.int .i64 kk)).setCell ⟨eb, 1, none⟩ (.string ⟨#[]⟩)).setCell ⟨eb, 2, none⟩ (.slice (some ⟨w2.heap.size, 0, none⟩) 1 1)).alloc (.cells #[.int .i64 1, .string nm, .slice none 0 0] 95)) := by
  have hebl := (Array.getElem?_eq_some_iff.1 he).1
  have hu3 := set3U (w2.setCell ⟨tb, 1, none⟩ (.int .i64 (m : Nat))) eb (.int .i64 kk) (.string ⟨#[]⟩) (.slice (some ⟨w2.heap.size, 0, none⟩) 1 1)
  have hu1 : Upd (fun q => q = tb) w2 (w2.setCell ⟨tb, 1, none⟩ (.int .i64 (m : Nat))) := Upd.setCell1 (S := fun q => q = tb) w2 (p := ⟨tb, 1, none⟩) rfl _
  have he1 := (hu1.block eb hebl (fun h => hne h.symm)).trans he
  have hsz : (w2.setCell ⟨tb, 1, none⟩ (.int .i64 (m : Nat))).heap.size = w2.heap.size := by simp [World.setCell]
  refine ⟨?_, ?_, ?_, ?_⟩
  · exact (Below.heap_alloc _ _ _ (by have := hT.cells.2.2; have := hu3.size; omega)).trans ((hu3.block tb hT.cells.2.2 hne).trans hT)
  · have := heap_alloc_new ((((w2.setCell ⟨tb, 1, none⟩ (.int .i64 (m : Nat))).setCell ⟨eb, 0, none⟩ (.int .i64 kk)).setCell ⟨eb, 1, none⟩ (.string ⟨#[]⟩)).setCell ⟨eb, 2, none⟩ (.slice (some ⟨w2.heap.size, 0, none⟩) 1 1)) (.cells #[.int .i64 1, .string nm, .slice none 0 0] 95)
    rw [show ((((w2.setCell ⟨tb, 1, none⟩ (.int .i64 (m : Nat))).setCell ⟨eb, 0, none⟩ (.int .i64 kk)).setCell ⟨eb, 1, none⟩ (.string ⟨#[]⟩)).setCell ⟨eb, 2, none⟩ (.slice (some ⟨w2.heap.size, 0, none⟩) 1 1)).heap.size = w2.heap.size by simp [World.setCell]] at this
    exact this
  · refine (Below.heap_alloc _ _ _ (by have := hu3.size; omega)).trans ?_
    simp [World.setCell, Array.getElem?_modify] at he1 ⊢
    simp [he1]
  · exact (hu1.mono (fun _ _ h => .inl h)).trans (hu3.alloc _) (fun _ _ h => .inr h)

set_option maxRecDepth 100000 in
set_option maxHeartbeats 4000000 in
theorem part_name {w : World} {tb m : Nat} {s : ByteArray} {kk : Int} (h : TB w tb s 0) (hn : NameSign s m kk) :
    Calls Tryz.prog 227 #[.pointer (some ⟨tb, 0, none⟩)] w fun r w' => ∃ nb, r = .returned (.tuple #[.agg #[.int .i64 kk, .string ⟨#[]⟩, .slice (some ⟨nb, 0, none⟩) 1 1], .nilIface]) ∧ NameB w' nb (s.extract 0 m) ∧ w.heap.size ≤ nb ∧ TB w' tb s s.size ∧ Upd (fun q => q = tb) w w' := by
  have HN := As.mk hn
  have hms := hn.nm.le
  have hm0 := hn.nm.lt
  have hlen := hn.len
  have hsm := hn.nm.small
  have htb := h.cells.2.2
  have hT1 : Pure w (w.alloc (.cells #[.int .i64 0, .string ⟨#[]⟩, .slice none 0 0] 95)) := Upd.alloc1 _ _ _
  obtain ⟨a1, a2, a3⟩ := hn.c0 (by omega)
  have HAT := As.mk (atom_name (h.pure hT1) hn.nm (by omega) a1 a2 a3)
  have hsgn := hn.sg (by omega)
  have HT1 := As.mk hT1
  obtain ⟨cm, hcm⟩ : ∃ c : Int, c = (s[m]'(by omega)).toNat := ⟨_, rfl⟩
  rw [← hcm] at hsgn
  have hc32 : ((s[m]'(by omega)) == 32) = false := by
    rw [beq_eq_false_iff_ne]
    intro e
    rw [e] at hcm
    have : cm = 32 := hcm
    omega
  have HNA := As.mk (fun (W : World) (hT : TB W tb s m) => next_at hT (by omega : m < s.size) hc32 (by omega) hsm)
  have HNE := As.mk (fun (W : World) (hT : TB W tb s s.size) => next_end hT hsm)
  have HSG := As.mk (fun W => sign_is (c := cm) (kk := kk) (by omega) W)
  have HS0 := As.mk (fun W => sign_is (c := 0) (kk := 0) (by omega) W)
  have HCM := As.mk hcm
  have hkk : (kk == 0) = false := by simp; omega
  clear h hn hT1 a1 a2 a3 hcm hc32 hsgn
  go_enter Tryz.func227, Tryz.ntmps227
  go_wp2_with (go_at_call 230; refine HAT.out.mono ?_; rintro e w1 ⟨rfl, hT, hu⟩; have HTB := As.mk hT; have HU1 := As.mk hu; clear hT hu; apply As.out)
  refine ⟨?_⟩
  have hz1 := HU1.out.size
  have hrb1 := (HU1.out.block w.heap.size (by simp) (by omega)).trans (heap_alloc_new w _)
  have HRB := As.mk hrb1
  simp at hz1
  have hp01 : Upd (fun q => q = tb) w w1 := (HT1.out.mono (fun _ _ h => h.elim)).trans HU1.out (fun q hq h => h)
  have HP01 := As.mk hp01
  clear hrb1 hp01
  have hne1 : ¬ tb = w1.heap.size := by omega
  have hne2 : ¬ w.heap.size = w1.heap.size := by omega
  have hne3 : ¬ w1.heap.size = tb := by omega
  have hm1 : IntKind.i64.wrap ((m : Int) + 1) = (m : Int) + 1 := by rw [IntKind.wrap_i64]; omega
  go_wp2
  go_loopg [] 1 (fun g wr => (g = 1 ∧ As (wr = w1.alloc (.cells #[.int .i64 1, .string (s.extract 0 m), .slice none 0 0] 95))) ∨ (g = 0 ∧ ∃ nb, As (PartR w tb s m kk w1.heap.size nb wr)))
  case atStart => exact .inl ⟨rfl, ⟨rfl⟩⟩
  case round =>
    rcases hrel with ⟨rfl, HW⟩ | ⟨rfl, nb, HR⟩
    · obtain rfl := HW.out
      have heb := heap_alloc_new w1 (.cells #[.int .i64 1, .string (s.extract 0 m), .slice none 0 0] 95)
      have HEB := As.mk heb
      have HTW := As.mk (HTB.out.pure (Upd.alloc1 (fun _ => False) w1 (.cells #[.int .i64 1, .string (s.extract 0 m), .slice none 0 0] 95)))
      clear heb
      go_wp2_with (go_at_call 189; refine (HNA.out _ HTW.out).mono ?_; rintro e w2 ⟨rfl, hu⟩; rw [← HCM.out]; have HU2 := As.mk hu; clear hu; apply As.out)
      refine ⟨?_⟩
      obtain ⟨⟨c0, c1⟩, f1, htb2⟩ := (HTW.out.pure HU2.out).cells
      have hz2 := HU2.out.size
      simp at hz2
      have heb2 := (HU2.out.block w1.heap.size (by simp) (fun h => h)).trans HEB.out
      obtain ⟨⟨e0, e1, e2⟩, ⟨ef0, ef1, ef2⟩, hel⟩ := cells3P heb2
      have HEB2 := As.mk heb2
      clear heb2
      go_wp2_with (go_at_call 231; refine (HSG.out _).mono ?_; rintro e w3 ⟨rfl, rfl⟩)
      go_roundg 0
      case measure => omega
      case rel =>
        have hT3 := (HTW.out.pure HU2.out).set (m + 1)
        have hrb2 := (HU2.out.block w.heap.size (by simp; omega) (fun h => h)).trans ((Below.heap_alloc w1 _ w.heap.size (by omega)).trans HRB.out)
        have hup2 : Upd (fun q => q = tb) w w2 := HP01.out.trans ((Upd.alloc1 (fun _ => False) w1 _).trans HU2.out (fun _ _ h => h)) (fun _ _ h => h.elim)
        have hstep := part_step (kk := kk) hT3 (HEB2.out) (by omega : tb ≠ w1.heap.size) (s.extract 0 m)
        have hz5 : (((((w2.setCell ⟨tb, 1, none⟩ (.int .i64 ((m + 1 : Nat) : Int))).setCell ⟨w1.heap.size, 0, none⟩ (.int .i64 kk)).setCell ⟨w1.heap.size, 1, none⟩ (.string ⟨#[]⟩)).setCell ⟨w1.heap.size, 2, none⟩ (.slice (some ⟨w2.heap.size, 0, none⟩) 1 1))).heap.size = w2.heap.size := by simp [World.setCell]
        obtain ⟨p1, p2, p3, p4⟩ := hstep
        refine .inr ⟨rfl, w2.heap.size, ⟨⟨by rw [← hlen]; exact p1, p2, by omega, p3, ?_, ?_⟩⟩⟩
        · exact (p4.block w.heap.size (by omega) (by omega)).trans hrb2
        · exact hup2.trans p4 (fun q hq h => by omega)
    · have HTW := As.mk HR.out.ht
      go_wp2_with (go_at_call 189; refine (HNE.out _ HTW.out).mono ?_; rintro e w2 ⟨rfl, hu⟩; have HU2 := As.mk hu; clear hu; apply As.out)
      refine ⟨?_⟩
      have heb2 := (HU2.out.block w1.heap.size (Array.getElem?_eq_some_iff.1 HR.out.eb).1 (fun h => h)).trans HR.out.eb
      obtain ⟨⟨e0, e1, e2⟩, ⟨ef0, ef1, ef2⟩, hel⟩ := cells3P heb2
      have hrb2 := (HU2.out.block w.heap.size (Array.getElem?_eq_some_iff.1 HR.out.rb).1 (fun h => h)).trans HR.out.rb
      obtain ⟨⟨r0, r1, r2⟩, ⟨rf0, rf1, rf2⟩, hrl⟩ := cells3P hrb2
      clear heb2 hrb2
      go_wp2_with (go_at_call 231; refine (HS0.out _).mono ?_; rintro e w3 ⟨rfl, rfl⟩)
      exact bodyPost_ret (v := .tuple #[.agg #[.int .i64 kk, .string ⟨#[]⟩, .slice (some ⟨nb, 0, none⟩) 1 1], .nilIface]) (by simp [results, Tryz.results227, go_sem, r0, r1, r2, rf0, rf1, rf2]) rfl ⟨nb, rfl, by
          have hnb := (Array.getElem?_eq_some_iff.1 HR.out.nm).1
          exact (((set3U w2 w.heap.size _ _ _).block nb (Nat.lt_of_lt_of_le hnb HU2.out.size) (by have := HR.out.le; omega)).trans ((HU2.out.block nb hnb (fun h => h)).trans HR.out.nm)), by have := HR.out.le; omega, by
          have hT := HR.out.ht.pure HU2.out
          exact ((set3U w2 w.heap.size _ _ _).block tb hT.cells.2.2 (by omega)).trans hT, (HR.out.up.trans HU2.out (fun _ _ h => h.elim)).trans (set3U w2 w.heap.size _ _ _) (fun q hq h => absurd h (by omega))⟩
end Go.Proofs.YtfapglhdakhbeaaGreatDoor
namespace Go.Proofs.YtfapglhdakhbeaaGreatDoor
open Go.RowKit
set_option linter.unusedVariables false
set_option linter.unusedSimpArgs false

theorem ex_info : (Tryz.prog.info? 95).map (fun i => (i.zero, i.size, i.bytes)) = some (some (.agg #[.int .i64 0, .string ⟨#[]⟩, .slice none 0 0]), 3, 48) := by kernel_rfl
/-- What a name with a sign gives. -/
abbrev PartPost (w : World) (tb : Nat) (s : ByteArray) (m : Nat) (kk : Int) (r : Ending) (w' : World) : Prop := ∃ nb, r = .returned (.tuple #[.agg #[.int .i64 kk, .string ⟨#[]⟩, .slice (some ⟨nb, 0, none⟩) 1 1], .nilIface]) ∧ NameB w' nb (s.extract 0 m) ∧ w.heap.size ≤ nb ∧ TB w' tb s s.size ∧ Upd (fun q => q = tb) w w'
theorem name_row {w : World} {nb : Nat} {nm : ByteArray} {F : Nat → Prop} (h : NameB w nb nm) (hF : F nb) : exR.row w F (some ⟨nb, 0, none⟩) [.mk 1 nm []] :=
  Rp.row_of_block h hF (Reps.single (R := exR.rep _ _) (size := exR.sz) (ExRep.of_parts (l := []) (Nat.le_refl _) (.inl rfl)) rfl)
theorem name_rep {w : World} {nb : Nat} {nm : ByteArray} {F : Nat → Prop} {kk : Int} (h : NameB w nb nm) (hF : F nb) : exR.rep w F (.mk kk ⟨#[]⟩ [.mk 1 nm []]) [.int .i64 kk, .string ⟨#[]⟩, .slice (some ⟨nb, 0, none⟩) 1 1] :=
  ExRep.of_parts (l := [.mk 1 nm []]) (Nat.le_refl _) (name_row h hF)

set_option maxRecDepth 100000 in
set_option maxHeartbeats 4000000 in
theorem moreRow {w : World} {tb mb : Nat} {s : ByteArray} (h : TB w tb s s.size) (hc : w.cell? ⟨mb, 0, none⟩ = some (.pointer (some ⟨tb, 0, none⟩))) (hs : s.size ≤ 1000) :
    Calls Tryz.prog 228 #[.pointer (some ⟨mb, 0, none⟩)] w fun r w' => r = .returned (.bool false) ∧ Pure w w' := by
  have HN := As.mk (next_end h hs)
  clear h
  go_enter Tryz.func228, Tryz.ntmps228
  go_wp2_with (go_at_call 189; refine HN.out.mono ?_; rintro e w1 ⟨rfl, hu⟩)
  go_ret
  exact ⟨rfl, hu⟩
set_option maxRecDepth 100000 in
set_option maxHeartbeats 4000000 in
theorem moreChoice {w : World} {tb mb : Nat} {s : ByteArray} (h : TB w tb s s.size) (hc : w.cell? ⟨mb, 0, none⟩ = some (.pointer (some ⟨tb, 0, none⟩))) (hs : s.size ≤ 1000) :
    Calls Tryz.prog 219 #[.pointer (some ⟨mb, 0, none⟩)] w fun r w' => r = .returned (.bool false) ∧ Pure w w' := by
  have HN := As.mk (next_end h hs)
  clear h
  go_enter Tryz.func219, Tryz.ntmps219
  go_wp2_with (go_at_call 189; refine HN.out.mono ?_; rintro e w1 ⟨rfl, hu⟩)
  go_ret
  exact ⟨rfl, hu⟩

set_option maxRecDepth 100000 in
set_option maxHeartbeats 4000000 in
theorem someRow {w : World} {tb m mb : Nat} {s : ByteArray} {kk : Int} (h : TB w tb s 0) (hn : NameSign s m kk) (hc : w.cell? ⟨mb, 0, none⟩ = some (.pointer (some ⟨tb, 0, none⟩))) (hmb : mb < w.heap.size) (hne : mb ≠ tb) :
    Calls Tryz.prog 218 #[.pointer (some ⟨tb, 0, none⟩), .int .i64 2, .func (.func 227) #[.pointer (some ⟨tb, 0, none⟩)] #[], .func (.func 228) #[] #[.pointer (some ⟨mb, 0, none⟩)]] w (PartPost w tb s m kk) := by
  have hsm := hn.nm.small
  have hsgn := hn.sg (by have := hn.len; omega)
  have htb := h.cells.2.2
  have hkk : (kk == 2) = false := by simp; omega
  have hT1 : Pure w ((w.alloc (.cells #[.int .i64 0, .string ⟨#[]⟩, .slice none 0 0] 95)).alloc (.cells #[.int .i64 2, .string ⟨#[]⟩, .slice none 0 0] 95)) := (Upd.alloc1 _ _ _).alloc _
  have HT1 := As.mk hT1
  have HPT := As.mk (part_name (h.pure hT1) hn)
  have hrb0 := (Below.heap_alloc (w.alloc (.cells #[.int .i64 0, .string ⟨#[]⟩, .slice none 0 0] 95)) (.cells #[.int .i64 2, .string ⟨#[]⟩, .slice none 0 0] 95) w.heap.size (by simp)).trans (heap_alloc_new w _)
  have hkb0 := heap_alloc_new (w.alloc (.cells #[.int .i64 0, .string ⟨#[]⟩, .slice none 0 0] 95)) (.cells #[.int .i64 2, .string ⟨#[]⟩, .slice none 0 0] 95)
  rw [show (w.alloc (.cells #[.int .i64 0, .string ⟨#[]⟩, .slice none 0 0] 95)).heap.size = w.heap.size + 1 by simp] at hkb0
  have HRB := As.mk hrb0
  have HKB := As.mk hkb0
  have HMR := As.mk (fun (W : World) (h : TB W tb s s.size) (hc : W.cell? ⟨mb, 0, none⟩ = some (.pointer (some ⟨tb, 0, none⟩))) => moreRow h hc hsm)
  have HC := As.mk hc
  clear h hn hT1 hrb0 hkb0 hsgn hc
  go_enter Tryz.func218, Tryz.ntmps218
  go_wp2
  go_loopg [11] 0 (fun g n wr => n = .int .i64 0 ∧ As (wr = (w.alloc (.cells #[.int .i64 0, .string ⟨#[]⟩, .slice none 0 0] 95)).alloc (.cells #[.int .i64 2, .string ⟨#[]⟩, .slice none 0 0] 95)))
  case atStart => exact ⟨rfl, ⟨rfl⟩⟩
  case round =>
    obtain ⟨rfl, HW⟩ := hrel
    obtain rfl := HW.out
    go_wp2_with (go_at_call 227; refine HPT.out.mono ?_; rintro e w1 ⟨nb, rfl, hnm, hnb, hT, hu⟩; have HNM := As.mk hnm; have HT := As.mk hT; have HU1 := As.mk hu; clear hnm hT hu; apply As.out)
    refine ⟨?_⟩
    simp at hnb
    have hz1 := HU1.out.size
    simp at hz1
    have hnbl := (Array.getElem?_eq_some_iff.1 HNM.out).1
    have hrb1 := (HU1.out.block w.heap.size (by simp; omega) (by omega)).trans HRB.out
    have hkb1 := (HU1.out.block (w.heap.size + 1) (by simp) (by omega)).trans HKB.out
    have HRB1 := As.mk hrb1
    have HKB1 := As.mk hkb1
    obtain ⟨⟨r0, r1, r2⟩, ⟨rf0, rf1, rf2⟩, hrl⟩ := cells3P hrb1
    obtain ⟨⟨k0, k1, k2⟩, ⟨kf0, kf1, kf2⟩, hkl⟩ := cells3P hkb1
    have HP3 : As (Upd (fun q => q = tb) w w1) := ⟨(HT1.out.mono (fun _ _ h => h.elim)).trans HU1.out (fun _ _ h => h)⟩
    have HEB := As.mk (heap_alloc_new w1 (.cells #[.int .i64 kk, .string ⟨#[]⟩, .slice (some ⟨nb, 0, none⟩) 1 1] 95))
    clear hrb1 hkb1
    have HREP : As (exR.rep (w1.alloc (.cells #[.int .i64 kk, .string ⟨#[]⟩, .slice (some ⟨nb, 0, none⟩) 1 1] 95)) (fun q => q = nb) (.mk kk ⟨#[]⟩ [.mk 1 (s.extract 0 m) []]) [.int .i64 kk, .string ⟨#[]⟩, .slice (some ⟨nb, 0, none⟩) 1 1]) := ⟨name_rep ((Below.heap_alloc w1 _ nb hnbl).trans HNM.out) rfl⟩
    go_wp2_with (at_builtin; refine Rp.own_append exR (Rp.own_nil exR _ _ (fun _ => False)) _ _ HREP.out (G := fun _ => True) (fun _ _ _ => ⟨trivial, by simp [Value.ownBlock]⟩) (fun _ h => h.elim) (fun _ _ => trivial) rfl _ _ 93 _ 48 rfl Tryz.underlying93 ex_info rfl (by decide) (by decide) rfl (by simp [Act.eval]) (by simp) ?_; intro v1 w2 ho1 hu1; have HO1 := As.mk ho1; have HU2 := As.mk (show Pure (w1.alloc (.cells #[.int .i64 kk, .string ⟨#[]⟩, .slice (some ⟨nb, 0, none⟩) 1 1] 95)) w2 from hu1.mono (fun _ _ h => by simp [Value.ownBlock] at h)); clear ho1 hu1; apply As.out)
    refine ⟨?_⟩
    obtain ⟨A2, c2, rfl, _, _⟩ := Rp.own_slice HO1.out
    have hz2 := HU2.out.size
    simp at hz2
    clear r0 r1 r2 rf0 rf1 rf2 k0 k1 k2 kf0 kf1 kf2
    have hP2 : Pure w1 w2 := (Upd.alloc1 (fun _ => False) w1 _).trans HU2.out (fun _ _ h => h)
    have hrb2 := (hP2.block w.heap.size (by omega) (fun h => h)).trans HRB1.out
    have hkb2 := (hP2.block (w.heap.size + 1) (by omega) (fun h => h)).trans HKB1.out
    have heb2 := (HU2.out.block w1.heap.size (by simp) (fun h => h)).trans HEB.out
    have HT2 := As.mk (HT.out.pure hP2)
    have hc2 : w2.cell? ⟨mb, 0, none⟩ = some (.pointer (some ⟨tb, 0, none⟩)) := (hP2.cell (by omega) (fun h => h)).trans ((HP3.out.cell (by omega) (by omega)).trans HC.out)
    have hne1 : ¬ tb = w.heap.size + 1 := by omega
    have hne2 : ¬ mb = w.heap.size + 1 := by omega
    have HT3 : As (∀ u, TB (w2.setCell ⟨w.heap.size + 1, 2, none⟩ u) tb s s.size) := ⟨fun u => (Below.heap_setCell w2 ⟨w.heap.size + 1, 2, none⟩ u tb hne1).trans HT2.out⟩
    have HC3 : As (∀ u, (w2.setCell ⟨w.heap.size + 1, 2, none⟩ u).cell? ⟨mb, 0, none⟩ = some (.pointer (some ⟨tb, 0, none⟩))) := ⟨fun u => (World.cell?_of_block (Below.heap_setCell w2 ⟨w.heap.size + 1, 2, none⟩ u mb hne2)).trans hc2⟩
    have HRB2 := As.mk hrb2
    have HEB2 := As.mk heb2
    have HP12 := As.mk hP2
    have HNM2 : As (NameB w2 nb (s.extract 0 m)) := ⟨(hP2.block nb hnbl (fun h => h)).trans HNM.out⟩
    obtain ⟨⟨k0, k1, k2⟩, ⟨kf0, kf1, kf2⟩, hkl⟩ := cells3P hkb2
    clear hrb2 hkb2 heb2 hP2 hc2
    go_wp2_with (go_at_call 228; refine (HMR.out _ (HT3.out _) (HC3.out _)).mono ?_; rintro e w4 ⟨rfl, hu⟩; have HU4 := As.mk (show Pure (w2.setCell ⟨w.heap.size + 1, 2, none⟩ _) w4 from hu); clear hu; apply As.out)
    refine ⟨?_⟩
    have hsz3 : ∀ u, (w2.setCell ⟨w.heap.size + 1, 2, none⟩ u).heap.size = w2.heap.size := fun u => by simp [World.setCell]
    have hU24 : Upd (fun q => q = w.heap.size + 1) w2 w4 := (Upd.setCell1 (S := fun q => q = w.heap.size + 1) w2 (p := ⟨w.heap.size + 1, 2, none⟩) rfl _).trans HU4.out (fun _ _ h => h.elim)
    have hrb4 := (hU24.block w.heap.size (Array.getElem?_eq_some_iff.1 HRB2.out).1 (by omega)).trans HRB2.out
    have heb4 := (hU24.block w1.heap.size (Array.getElem?_eq_some_iff.1 HEB2.out).1 (by omega)).trans HEB2.out
    obtain ⟨⟨r0, r1, r2⟩, ⟨rf0, rf1, rf2⟩, hrl⟩ := cells3P hrb4
    obtain ⟨⟨e0, e1, e2⟩, ⟨ef0, ef1, ef2⟩, hel⟩ := cells3P heb4
    have HU24 := As.mk hU24
    clear k0 k1 k2 kf0 kf1 kf2 hrb4 heb4 hU24
    go_wp2
    exact bodyPost_ret (v := .tuple #[.agg #[.int .i64 kk, .string ⟨#[]⟩, .slice (some ⟨nb, 0, none⟩) 1 1], .nilIface]) (by simp [results, Tryz.results218, go_sem, r0, r1, r2, rf0, rf1, rf2]) rfl ⟨nb, rfl, by
        have hnb2 := (Array.getElem?_eq_some_iff.1 HNM2.out).1
        exact ((set3U w4 w.heap.size _ _ _).block nb (Nat.lt_of_lt_of_le hnb2 HU24.out.size) (by omega)).trans ((HU24.out.block nb hnb2 (by omega)).trans HNM2.out), by omega, by
        have hT4 : TB w4 tb s s.size := (HU24.out.block tb HT2.out.cells.2.2 (by omega)).trans HT2.out
        exact ((set3U w4 w.heap.size _ _ _).block tb hT4.cells.2.2 (by omega)).trans hT4, by
        exact (((HP3.out.trans HP12.out (fun _ _ h => h.elim)).trans HU24.out (fun q hq h => absurd h (by omega))).trans (set3U w4 w.heap.size _ _ _) (fun q hq h => absurd h (by omega)))⟩

set_option maxRecDepth 100000 in
set_option maxHeartbeats 4000000 in
theorem row_name {w : World} {tb m : Nat} {s : ByteArray} {kk : Int} (h : TB w tb s 0) (hn : NameSign s m kk) : Calls Tryz.prog 217 #[.pointer (some ⟨tb, 0, none⟩)] w (PartPost w tb s m kk) := by
  have hsm := hn.nm.small
  have htb := h.cells.2.2
  have hT1 : Pure w ((w.alloc (.cells #[.pointer (some ⟨tb, 0, none⟩)] 214)).alloc (.cells #[.int .i64 0, .string ⟨#[]⟩, .slice none 0 0] 95)) := (Upd.alloc1 _ _ _).alloc _
  have HT1 := As.mk hT1
  have hb0 := (Below.heap_alloc (w.alloc (.cells #[.pointer (some ⟨tb, 0, none⟩)] 214)) (.cells #[.int .i64 0, .string ⟨#[]⟩, .slice none 0 0] 95) w.heap.size (by simp)).trans (heap_alloc_new w _)
  have hc : ((w.alloc (.cells #[.pointer (some ⟨tb, 0, none⟩)] 214)).alloc (.cells #[.int .i64 0, .string ⟨#[]⟩, .slice none 0 0] 95)).cell? ⟨w.heap.size, 0, none⟩ = some (.pointer (some ⟨tb, 0, none⟩)) := by unfold World.cell?; simp only [hb0]; rfl
  have HSM := As.mk (someRow (mb := w.heap.size) (h.pure hT1) hn hc (by simp; omega) (by omega))
  have hrb0 := heap_alloc_new (w.alloc (.cells #[.pointer (some ⟨tb, 0, none⟩)] 214)) (.cells #[.int .i64 0, .string ⟨#[]⟩, .slice none 0 0] 95)
  rw [show (w.alloc (.cells #[.pointer (some ⟨tb, 0, none⟩)] 214)).heap.size = w.heap.size + 1 by simp] at hrb0
  have HRB := As.mk hrb0
  clear h hn hT1 hb0 hc hrb0
  go_enter Tryz.func217, Tryz.ntmps217
  go_wp2_with (go_at_call 218; refine HSM.out.mono ?_; rintro e w1 ⟨nb, rfl, hnm, hnb, hT, hu⟩; have HNM := As.mk hnm; have HT := As.mk hT; have HU1 := As.mk hu; clear hnm hT hu; apply As.out)
  refine ⟨?_⟩
  simp at hnb
  have hrb1 := (HU1.out.block (w.heap.size + 1) (by simp) (by omega)).trans HRB.out
  obtain ⟨⟨r0, r1, r2⟩, ⟨rf0, rf1, rf2⟩, hrl⟩ := cells3P hrb1
  clear hrb1
  go_wp2
  exact bodyPost_ret (v := .tuple #[.agg #[.int .i64 kk, .string ⟨#[]⟩, .slice (some ⟨nb, 0, none⟩) 1 1], .nilIface]) (by simp [results, Tryz.results217, go_sem, r0, r1, r2, rf0, rf1, rf2]) rfl ⟨nb, rfl, by
      have hnb2 := (Array.getElem?_eq_some_iff.1 HNM.out).1
      exact ((set3U w1 (w.heap.size + 1) _ _ _).block nb hnb2 (by omega)).trans HNM.out, by omega, by
      exact ((set3U w1 (w.heap.size + 1) _ _ _).block tb HT.out.cells.2.2 (by omega)).trans HT.out, by
      exact ((HT1.out.mono (fun _ _ h => h.elim)).trans HU1.out (fun _ _ h => h)).trans (set3U w1 (w.heap.size + 1) _ _ _) (fun q hq h => absurd h (by omega))⟩

set_option maxRecDepth 100000 in
set_option maxHeartbeats 4000000 in
theorem someChoice {w : World} {tb m mb : Nat} {s : ByteArray} {kk : Int} (h : TB w tb s 0) (hn : NameSign s m kk) (hc : w.cell? ⟨mb, 0, none⟩ = some (.pointer (some ⟨tb, 0, none⟩))) (hmb : mb < w.heap.size) (hne : mb ≠ tb) :
    Calls Tryz.prog 218 #[.pointer (some ⟨tb, 0, none⟩), .int .i64 3, .func (.func 217) #[.pointer (some ⟨tb, 0, none⟩)] #[], .func (.func 219) #[] #[.pointer (some ⟨mb, 0, none⟩)]] w (PartPost w tb s m kk) := by
  have hsm := hn.nm.small
  have hsgn := hn.sg (by have := hn.len; omega)
  have htb := h.cells.2.2
  have hkk : (kk == 3) = false := by simp; omega
  have hT1 : Pure w ((w.alloc (.cells #[.int .i64 0, .string ⟨#[]⟩, .slice none 0 0] 95)).alloc (.cells #[.int .i64 3, .string ⟨#[]⟩, .slice none 0 0] 95)) := (Upd.alloc1 _ _ _).alloc _
  have HT1 := As.mk hT1
  have HPT := As.mk (row_name (h.pure hT1) hn)
  have hrb0 := (Below.heap_alloc (w.alloc (.cells #[.int .i64 0, .string ⟨#[]⟩, .slice none 0 0] 95)) (.cells #[.int .i64 3, .string ⟨#[]⟩, .slice none 0 0] 95) w.heap.size (by simp)).trans (heap_alloc_new w _)
  have hkb0 := heap_alloc_new (w.alloc (.cells #[.int .i64 0, .string ⟨#[]⟩, .slice none 0 0] 95)) (.cells #[.int .i64 3, .string ⟨#[]⟩, .slice none 0 0] 95)
  rw [show (w.alloc (.cells #[.int .i64 0, .string ⟨#[]⟩, .slice none 0 0] 95)).heap.size = w.heap.size + 1 by simp] at hkb0
  have HRB := As.mk hrb0
  have HKB := As.mk hkb0
  have HMR := As.mk (fun (W : World) (h : TB W tb s s.size) (hc : W.cell? ⟨mb, 0, none⟩ = some (.pointer (some ⟨tb, 0, none⟩))) => moreChoice h hc hsm)
  have HC := As.mk hc
  clear h hn hT1 hrb0 hkb0 hsgn hc
  go_enter Tryz.func218, Tryz.ntmps218
  go_wp2
  go_loopg [11] 0 (fun g n wr => n = .int .i64 0 ∧ As (wr = (w.alloc (.cells #[.int .i64 0, .string ⟨#[]⟩, .slice none 0 0] 95)).alloc (.cells #[.int .i64 3, .string ⟨#[]⟩, .slice none 0 0] 95)))
  case atStart => exact ⟨rfl, ⟨rfl⟩⟩
  case round =>
    obtain ⟨rfl, HW⟩ := hrel
    obtain rfl := HW.out
    go_wp2_with (go_at_call 217; refine HPT.out.mono ?_; rintro e w1 ⟨nb, rfl, hnm, hnb, hT, hu⟩; have HNM := As.mk hnm; have HT := As.mk hT; have HU1 := As.mk hu; clear hnm hT hu; apply As.out)
    refine ⟨?_⟩
    simp at hnb
    have hz1 := HU1.out.size
    simp at hz1
    have hnbl := (Array.getElem?_eq_some_iff.1 HNM.out).1
    have hrb1 := (HU1.out.block w.heap.size (by simp; omega) (by omega)).trans HRB.out
    have hkb1 := (HU1.out.block (w.heap.size + 1) (by simp) (by omega)).trans HKB.out
    have HRB1 := As.mk hrb1
    have HKB1 := As.mk hkb1
    obtain ⟨⟨r0, r1, r2⟩, ⟨rf0, rf1, rf2⟩, hrl⟩ := cells3P hrb1
    obtain ⟨⟨k0, k1, k2⟩, ⟨kf0, kf1, kf2⟩, hkl⟩ := cells3P hkb1
    have HP3 : As (Upd (fun q => q = tb) w w1) := ⟨(HT1.out.mono (fun _ _ h => h.elim)).trans HU1.out (fun _ _ h => h)⟩
    have HEB := As.mk (heap_alloc_new w1 (.cells #[.int .i64 kk, .string ⟨#[]⟩, .slice (some ⟨nb, 0, none⟩) 1 1] 95))
    clear hrb1 hkb1
    have HREP : As (exR.rep (w1.alloc (.cells #[.int .i64 kk, .string ⟨#[]⟩, .slice (some ⟨nb, 0, none⟩) 1 1] 95)) (fun q => q = nb) (.mk kk ⟨#[]⟩ [.mk 1 (s.extract 0 m) []]) [.int .i64 kk, .string ⟨#[]⟩, .slice (some ⟨nb, 0, none⟩) 1 1]) := ⟨name_rep ((Below.heap_alloc w1 _ nb hnbl).trans HNM.out) rfl⟩
    go_wp2_with (at_builtin; refine Rp.own_append exR (Rp.own_nil exR _ _ (fun _ => False)) _ _ HREP.out (G := fun _ => True) (fun _ _ _ => ⟨trivial, by simp [Value.ownBlock]⟩) (fun _ h => h.elim) (fun _ _ => trivial) rfl _ _ 93 _ 48 rfl Tryz.underlying93 ex_info rfl (by decide) (by decide) rfl (by simp [Act.eval]) (by simp) ?_; intro v1 w2 ho1 hu1; have HO1 := As.mk ho1; have HU2 := As.mk (show Pure (w1.alloc (.cells #[.int .i64 kk, .string ⟨#[]⟩, .slice (some ⟨nb, 0, none⟩) 1 1] 95)) w2 from hu1.mono (fun _ _ h => by simp [Value.ownBlock] at h)); clear ho1 hu1; apply As.out)
    refine ⟨?_⟩
    obtain ⟨A2, c2, rfl, _, _⟩ := Rp.own_slice HO1.out
    have hz2 := HU2.out.size
    simp at hz2
    clear r0 r1 r2 rf0 rf1 rf2 k0 k1 k2 kf0 kf1 kf2
    have hP2 : Pure w1 w2 := (Upd.alloc1 (fun _ => False) w1 _).trans HU2.out (fun _ _ h => h)
    have hrb2 := (hP2.block w.heap.size (by omega) (fun h => h)).trans HRB1.out
    have hkb2 := (hP2.block (w.heap.size + 1) (by omega) (fun h => h)).trans HKB1.out
    have heb2 := (HU2.out.block w1.heap.size (by simp) (fun h => h)).trans HEB.out
    have HT2 := As.mk (HT.out.pure hP2)
    have hc2 : w2.cell? ⟨mb, 0, none⟩ = some (.pointer (some ⟨tb, 0, none⟩)) := (hP2.cell (by omega) (fun h => h)).trans ((HP3.out.cell (by omega) (by omega)).trans HC.out)
    have hne1 : ¬ tb = w.heap.size + 1 := by omega
    have hne2 : ¬ mb = w.heap.size + 1 := by omega
    have HT3 : As (∀ u, TB (w2.setCell ⟨w.heap.size + 1, 2, none⟩ u) tb s s.size) := ⟨fun u => (Below.heap_setCell w2 ⟨w.heap.size + 1, 2, none⟩ u tb hne1).trans HT2.out⟩
    have HC3 : As (∀ u, (w2.setCell ⟨w.heap.size + 1, 2, none⟩ u).cell? ⟨mb, 0, none⟩ = some (.pointer (some ⟨tb, 0, none⟩))) := ⟨fun u => (World.cell?_of_block (Below.heap_setCell w2 ⟨w.heap.size + 1, 2, none⟩ u mb hne2)).trans hc2⟩
    have HRB2 := As.mk hrb2
    have HEB2 := As.mk heb2
    have HP12 := As.mk hP2
    have HNM2 : As (NameB w2 nb (s.extract 0 m)) := ⟨(hP2.block nb hnbl (fun h => h)).trans HNM.out⟩
    obtain ⟨⟨k0, k1, k2⟩, ⟨kf0, kf1, kf2⟩, hkl⟩ := cells3P hkb2
    clear hrb2 hkb2 heb2 hP2 hc2
    go_wp2_with (go_at_call 219; refine (HMR.out _ (HT3.out _) (HC3.out _)).mono ?_; rintro e w4 ⟨rfl, hu⟩; have HU4 := As.mk (show Pure (w2.setCell ⟨w.heap.size + 1, 2, none⟩ _) w4 from hu); clear hu; apply As.out)
    refine ⟨?_⟩
    have hsz3 : ∀ u, (w2.setCell ⟨w.heap.size + 1, 2, none⟩ u).heap.size = w2.heap.size := fun u => by simp [World.setCell]
    have hU24 : Upd (fun q => q = w.heap.size + 1) w2 w4 := (Upd.setCell1 (S := fun q => q = w.heap.size + 1) w2 (p := ⟨w.heap.size + 1, 2, none⟩) rfl _).trans HU4.out (fun _ _ h => h.elim)
    have hrb4 := (hU24.block w.heap.size (Array.getElem?_eq_some_iff.1 HRB2.out).1 (by omega)).trans HRB2.out
    have heb4 := (hU24.block w1.heap.size (Array.getElem?_eq_some_iff.1 HEB2.out).1 (by omega)).trans HEB2.out
    obtain ⟨⟨r0, r1, r2⟩, ⟨rf0, rf1, rf2⟩, hrl⟩ := cells3P hrb4
    obtain ⟨⟨e0, e1, e2⟩, ⟨ef0, ef1, ef2⟩, hel⟩ := cells3P heb4
    have HU24 := As.mk hU24
    clear k0 k1 k2 kf0 kf1 kf2 hrb4 heb4 hU24
    go_wp2
    exact bodyPost_ret (v := .tuple #[.agg #[.int .i64 kk, .string ⟨#[]⟩, .slice (some ⟨nb, 0, none⟩) 1 1], .nilIface]) (by simp [results, Tryz.results218, go_sem, r0, r1, r2, rf0, rf1, rf2]) rfl ⟨nb, rfl, by
        have hnb2 := (Array.getElem?_eq_some_iff.1 HNM2.out).1
        exact ((set3U w4 w.heap.size _ _ _).block nb (Nat.lt_of_lt_of_le hnb2 HU24.out.size) (by omega)).trans ((HU24.out.block nb hnb2 (by omega)).trans HNM2.out), by omega, by
        have hT4 : TB w4 tb s s.size := (HU24.out.block tb HT2.out.cells.2.2 (by omega)).trans HT2.out
        exact ((set3U w4 w.heap.size _ _ _).block tb hT4.cells.2.2 (by omega)).trans hT4, by
        exact (((HP3.out.trans HP12.out (fun _ _ h => h.elim)).trans HU24.out (fun q hq h => absurd h (by omega))).trans (set3U w4 w.heap.size _ _ _) (fun q hq h => absurd h (by omega)))⟩

set_option maxRecDepth 100000 in
set_option maxHeartbeats 4000000 in
theorem choice_name {w : World} {tb m : Nat} {s : ByteArray} {kk : Int} (h : TB w tb s 0) (hn : NameSign s m kk) : Calls Tryz.prog 190 #[.pointer (some ⟨tb, 0, none⟩)] w (PartPost w tb s m kk) := by
  have hsm := hn.nm.small
  have htb := h.cells.2.2
  have hT1 : Pure w ((w.alloc (.cells #[.pointer (some ⟨tb, 0, none⟩)] 214)).alloc (.cells #[.int .i64 0, .string ⟨#[]⟩, .slice none 0 0] 95)) := (Upd.alloc1 _ _ _).alloc _
  have HT1 := As.mk hT1
  have hb0 := (Below.heap_alloc (w.alloc (.cells #[.pointer (some ⟨tb, 0, none⟩)] 214)) (.cells #[.int .i64 0, .string ⟨#[]⟩, .slice none 0 0] 95) w.heap.size (by simp)).trans (heap_alloc_new w _)
  have hc : ((w.alloc (.cells #[.pointer (some ⟨tb, 0, none⟩)] 214)).alloc (.cells #[.int .i64 0, .string ⟨#[]⟩, .slice none 0 0] 95)).cell? ⟨w.heap.size, 0, none⟩ = some (.pointer (some ⟨tb, 0, none⟩)) := by unfold World.cell?; simp only [hb0]; rfl
  have HSM := As.mk (someChoice (mb := w.heap.size) (h.pure hT1) hn hc (by simp; omega) (by omega))
  have hrb0 := heap_alloc_new (w.alloc (.cells #[.pointer (some ⟨tb, 0, none⟩)] 214)) (.cells #[.int .i64 0, .string ⟨#[]⟩, .slice none 0 0] 95)
  rw [show (w.alloc (.cells #[.pointer (some ⟨tb, 0, none⟩)] 214)).heap.size = w.heap.size + 1 by simp] at hrb0
  have HRB := As.mk hrb0
  clear h hn hT1 hb0 hc hrb0
  go_enter Tryz.func190, Tryz.ntmps190
  go_wp2_with (go_at_call 218; refine HSM.out.mono ?_; rintro e w1 ⟨nb, rfl, hnm, hnb, hT, hu⟩; have HNM := As.mk hnm; have HT := As.mk hT; have HU1 := As.mk hu; clear hnm hT hu; apply As.out)
  refine ⟨?_⟩
  simp at hnb
  have hrb1 := (HU1.out.block (w.heap.size + 1) (by simp) (by omega)).trans HRB.out
  obtain ⟨⟨r0, r1, r2⟩, ⟨rf0, rf1, rf2⟩, hrl⟩ := cells3P hrb1
  clear hrb1
  go_wp2
  exact bodyPost_ret (v := .tuple #[.agg #[.int .i64 kk, .string ⟨#[]⟩, .slice (some ⟨nb, 0, none⟩) 1 1], .nilIface]) (by simp [results, Tryz.results190, go_sem, r0, r1, r2, rf0, rf1, rf2]) rfl ⟨nb, rfl, by
      have hnb2 := (Array.getElem?_eq_some_iff.1 HNM.out).1
      exact ((set3U w1 (w.heap.size + 1) _ _ _).block nb hnb2 (by omega)).trans HNM.out, by omega, by
      exact ((set3U w1 (w.heap.size + 1) _ _ _).block tb HT.out.cells.2.2 (by omega)).trans HT.out, by
      exact ((HT1.out.mono (fun _ _ h => h.elim)).trans HU1.out (fun _ _ h => h)).trans (set3U w1 (w.heap.size + 1) _ _ _) (fun q hq h => absurd h (by omega))⟩
end Go.Proofs.YtfapglhdakhbeaaGreatDoor
namespace Go.Proofs.YtfapglhdakhbeaaGreatDoor
open Go.RowKit
set_option linter.unusedVariables false
set_option linter.unusedSimpArgs false

theorem check_sign {kk : Int} {nm : ByteArray} (hk : kk = 4 ∨ kk = 5 ∨ kk = 6) (hn : nameB nm = true) : exprCheck (.mk kk ⟨#[]⟩ [.mk 1 nm []]) = 0 := by
  have e1 : (Ex.mk 1 nm []).okB kk = true := by
    rw [Ex.okB, if_pos rfl, hn]
    rfl
  have e2 : (Ex.mk kk ⟨#[]⟩ [.mk 1 nm []]).okB 0 = true := by
    rw [Ex.okB, if_neg (by omega), if_neg (by omega)]
    have e3 : decide (leastE kk ≤ [Ex.mk 1 nm []].length) = true := by
      rcases hk with rfl | rfl | rfl <;> simp [leastE]
    have e4 : decide ([Ex.mk 1 nm []].length ≤ mostE kk [Ex.mk 1 nm []].length) = true := by
      rcases hk with rfl | rfl | rfl <;> simp [mostE]
    rw [e3, e4]
    simp [Ex.oksB, e1]
    rfl
  unfold exprCheck
  rw [if_neg (by simp [Ex.cnt, Ex.cnts, Ex.dep, Ex.deps]), if_neg (by rw [e2]; simp)]

theorem as_nil (t : Value) (w : World) : Calls Tryz.prog 168 #[.nilIface, t] w fun e w' => e = .returned (.bool false) ∧ w = w' := by
  go_enter Tryz.func168, Tryz.ntmps168
  go_wp2
  go_ret
  exact ⟨rfl, rfl⟩

set_option maxRecDepth 100000 in
set_option maxHeartbeats 4000000 in
theorem whole_name {w : World} {tb m : Nat} {s : ByteArray} {kk : Int} (h : TB w tb s 0) (hn : NameSign s m kk) : Calls Tryz.prog 167 #[.pointer (some ⟨tb, 0, none⟩)] w (PartPost w tb s m kk) := by
  have hsm := hn.nm.small
  have htb := h.cells.2.2
  have hlen := hn.len
  have hsgn := hn.sg (by omega)
  have hkk : kk = 4 ∨ kk = 5 ∨ kk = 6 := by omega
  obtain ⟨a1, a2, a3⟩ := hn.c0 (by omega)
  have hT1 : Pure w (w.alloc (.cells #[.int .i64 0, .string ⟨#[]⟩, .slice none 0 0] 95)) := Upd.alloc1 _ _ _
  have HT1 := As.mk hT1
  have HNX := As.mk (next_at (h.pure hT1) (by omega : 0 < s.size) a2 a3 hsm)
  have HCH := As.mk (fun W (hu : Pure w W) => choice_name (h.pure hu) hn)
  have HNE := As.mk (fun (W : World) (hT : TB W tb s s.size) => next_end hT hsm)
  have hc0 : ((s[0]'(by omega)).toNat : Int) ≠ 0 := by omega
  obtain ⟨c0, hcc⟩ : ∃ c : Int, c = ((s[0]'(by omega)).toNat : Int) := ⟨_, rfl⟩
  rw [← hcc] at hc0
  have HC0 := As.mk hcc
  have hc1 : (c0 == 0) = false := by simpa using hc0
  have HNB := As.mk hn.nb
  have HRB := As.mk (heap_alloc_new w (.cells #[.int .i64 0, .string ⟨#[]⟩, .slice none 0 0] 95))
  have hnml : (s.extract 0 m).size ≤ 1000 := by simp; omega
  clear h hn hT1 a1 a2 a3 hsgn hcc hc0
  go_enter Tryz.func167, Tryz.ntmps167
  go_wp2_with (go_at_call 189; refine HNX.out.mono ?_; rintro e w1 ⟨rfl, hu⟩; rw [← HC0.out]; have HU1 := As.mk (HT1.out.trans hu (fun _ _ h => h)); have HV1 := As.mk hu; clear hu; apply As.out)
  refine ⟨?_⟩
  go_wp2_with (go_at_call 190; refine (HCH.out _ HU1.out).mono ?_; rintro e w2 ⟨nb, rfl, hnm, hnb, hT, hu⟩; have HNM := As.mk hnm; have HT := As.mk hT; have HU2 := As.mk hu; clear hnm hT hu; apply As.out)
  refine ⟨?_⟩
  have hz1 := HV1.out.size
  simp at hz1
  have hz2 := HU2.out.size
  have HT3 := As.mk (HT.out.pure (Upd.alloc1 (fun _ => False) w2 (.cells #[.int .i64 kk, .string ⟨#[]⟩, .slice (some ⟨nb, 0, none⟩) 1 1] 95)))
  have HEB := As.mk (heap_alloc_new w2 (.cells #[.int .i64 kk, .string ⟨#[]⟩, .slice (some ⟨nb, 0, none⟩) 1 1] 95))
  go_wp2_with (go_at_call 189; refine (HNE.out _ HT3.out).mono ?_; rintro e w3 ⟨rfl, hu⟩; have HU3 := As.mk hu; clear hu; apply As.out)
  refine ⟨?_⟩
  have hnbl := (Array.getElem?_eq_some_iff.1 HNM.out).1
  have hz3 := HU3.out.size
  simp at hz3
  have hp23 : Pure w2 w3 := (Upd.alloc1 (fun _ => False) w2 _).trans HU3.out (fun _ _ h => h)
  have HNM3 : As (NameB w3 nb (s.extract 0 m)) := ⟨(hp23.block nb hnbl (fun h => h)).trans HNM.out⟩
  have heb3 := (HU3.out.block w2.heap.size (by simp) (fun h => h)).trans HEB.out
  obtain ⟨⟨e0, e1, e2⟩, _, hel⟩ := cells3P heb3
  have HEB3 := As.mk heb3
  have HP23 := As.mk hp23
  have HCK := As.mk (exprCheck_calls (c := 1) (e := .mk kk ⟨#[]⟩ [.mk 1 (s.extract 0 m) []]) (w := w3) (name_row (F := fun _ => True) HNM3.out trivial) (by
    have e0 : (⟨#[]⟩ : ByteArray).size = 0 := rfl
    simp only [Ex.wt, Ex.wts, e0]
    omega))
  rw [check_sign hkk HNB.out] at HCK
  clear heb3 hp23
  go_wp2_with (go_at_call 169; refine HCK.out.mono ?_; rintro e w4 ⟨rfl, hu⟩; have HU4 := As.mk hu; clear hu; apply As.out)
  refine ⟨?_⟩
  have hrb1 := (HV1.out.block w.heap.size (by simp) (fun h => h)).trans HRB.out
  have hrb4 := ((HP23.out.trans HU4.out (fun _ _ h => h)).block w.heap.size (by omega) (fun h => h)).trans ((HU2.out.block w.heap.size (by omega) (by omega)).trans hrb1)
  have heb4 := (HU4.out.block w2.heap.size (by omega) (fun h => h)).trans HEB3.out
  obtain ⟨⟨r0, r1, r2⟩, ⟨rf0, rf1, rf2⟩, hrl⟩ := cells3P hrb4
  clear e0 e1 e2
  obtain ⟨⟨e0, e1, e2⟩, _, hel4⟩ := cells3P heb4
  clear hrb1 hrb4 heb4
  go_wp2
  exact bodyPost_ret (v := .tuple #[.agg #[.int .i64 kk, .string ⟨#[]⟩, .slice (some ⟨nb, 0, none⟩) 1 1], .nilIface]) (by simp [results, Tryz.results167, go_sem, r0, r1, r2, rf0, rf1, rf2]) rfl ⟨nb, rfl, by
      have hnb4 := (HU4.out.block nb (Array.getElem?_eq_some_iff.1 HNM3.out).1 (fun h => h)).trans HNM3.out
      exact ((set3U w4 w.heap.size _ _ _).block nb (Array.getElem?_eq_some_iff.1 hnb4).1 (by omega)).trans hnb4, by omega, by
      have hT4 := (HT.out.pure HP23.out).pure HU4.out
      exact ((set3U w4 w.heap.size _ _ _).block tb hT4.cells.2.2 (by omega)).trans hT4, by
      exact (((HU1.out.mono (fun _ _ h => h.elim)).trans HU2.out (fun _ _ h => h)).trans (HP23.out.trans HU4.out (fun _ _ h => h)) (fun _ _ h => h.elim)).trans (set3U w4 w.heap.size _ _ _) (fun q hq h => absurd h (by omega))⟩

/-- A struct laid into an elder block, and two blocks made behind it. -/
theorem set3_two {w : World} {rb : Nat} {x0 x1 x2 : Value} {t : TypeId} (h : w.heap[rb]? = some (.cells #[x0, x1, x2] t (0, 0))) (y0 y1 y2 : Value) (o1 o2 : Obj) :
    ((((((w.setCell ⟨rb, 0, none⟩ y0).setCell ⟨rb, 1, none⟩ y1).setCell ⟨rb, 2, none⟩ y2).alloc o1).alloc o2).cell? ⟨rb, 0, none⟩ = some y0 ∧ (((((w.setCell ⟨rb, 0, none⟩ y0).setCell ⟨rb, 1, none⟩ y1).setCell ⟨rb, 2, none⟩ y2).alloc o1).alloc o2).cell? ⟨rb, 1, none⟩ = some y1 ∧ (((((w.setCell ⟨rb, 0, none⟩ y0).setCell ⟨rb, 1, none⟩ y1).setCell ⟨rb, 2, none⟩ y2).alloc o1).alloc o2).cell? ⟨rb, 2, none⟩ = some y2) := by
  have hl := (Array.getElem?_eq_some_iff.1 h).1
  have h3 : (((w.setCell ⟨rb, 0, none⟩ y0).setCell ⟨rb, 1, none⟩ y1).setCell ⟨rb, 2, none⟩ y2).heap[rb]? = some (.cells #[y0, y1, y2] t (0, 0)) := by simp [World.setCell, Array.getElem?_modify, h]
  have hz : (((w.setCell ⟨rb, 0, none⟩ y0).setCell ⟨rb, 1, none⟩ y1).setCell ⟨rb, 2, none⟩ y2).heap.size = w.heap.size := by simp [World.setCell]
  have h4 := (Below.heap_alloc (((w.setCell ⟨rb, 0, none⟩ y0).setCell ⟨rb, 1, none⟩ y1).setCell ⟨rb, 2, none⟩ y2) o1 rb (by omega)).trans h3
  have h5 := (Below.heap_alloc ((((w.setCell ⟨rb, 0, none⟩ y0).setCell ⟨rb, 1, none⟩ y1).setCell ⟨rb, 2, none⟩ y2).alloc o1) o2 rb (by simp; omega)).trans h4
  exact (cells3P h5).1
/-- What a text is parsed to. -/
def ParsesTo (s : ByteArray) (e : Ex) : Prop := ∀ w : World, Calls Tryz.prog 131 #[.string s] w fun r w' => ∃ A c, r = .returned (.tuple #[e.val A c, .int .i64 s.size, .int .i64 0]) ∧ e.l.length ≤ c ∧ exR.row w' (fun k => w.heap.size ≤ k) A e.l ∧ Pure w w'

set_option maxRecDepth 100000 in
set_option maxHeartbeats 4000000 in
theorem parse_name {m : Nat} {s : ByteArray} {kk : Int} (hn : NameSign s m kk) (hs : s.size ≤ 200) : ParsesTo s (.mk kk ⟨#[]⟩ [.mk 1 (s.extract 0 m) []]) := by
  intro w
  have e1 : decide (200 < (s.size : Int)) = false := by simp; omega
  have e2 : ¬ (200 : Int) < (s.size : Int) := by omega
  have e3 : decide (200 < s.size) = false := by simp; omega
  have hT1 : Pure w ((w.alloc (.cells #[.int .i64 0, .string ⟨#[]⟩, .slice none 0 0] 95)).alloc (.cells #[.string s, .int .i64 0] 216)) := (Upd.alloc1 _ _ _).alloc _
  have hTB : TB ((w.alloc (.cells #[.int .i64 0, .string ⟨#[]⟩, .slice none 0 0] 95)).alloc (.cells #[.string s, .int .i64 0] 216)) (w.heap.size + 1) s 0 := by
    have := heap_alloc_new (w.alloc (.cells #[.int .i64 0, .string ⟨#[]⟩, .slice none 0 0] 95)) (.cells #[.string s, .int .i64 0] 216)
    rw [show (w.alloc (.cells #[.int .i64 0, .string ⟨#[]⟩, .slice none 0 0] 95)).heap.size = w.heap.size + 1 by simp] at this
    exact this
  have HT1 := As.mk hT1
  have HWH := As.mk (whole_name hTB hn)
  have HRB := As.mk ((Below.heap_alloc (w.alloc (.cells #[.int .i64 0, .string ⟨#[]⟩, .slice none 0 0] 95)) (.cells #[.string s, .int .i64 0] 216) w.heap.size (by simp)).trans (heap_alloc_new w _))
  clear hn hT1 hTB
  go_enter Tryz.func131, Tryz.ntmps131
  go_wp2_with (go_at_call 167; refine HWH.out.mono ?_; rintro e w1 ⟨nb, rfl, hnm, hnb, hT, hu⟩; have HNM := As.mk hnm; have HU1 := As.mk hu; clear hnm hT hu; apply As.out)
  refine ⟨?_⟩
  simp at hnb
  have hz1 := HU1.out.size
  simp at hz1
  have hrb1 := (HU1.out.block w.heap.size (by simp; omega) (by omega)).trans HRB.out
  obtain ⟨⟨r0, r1, r2⟩, ⟨rf0, rf1, rf2⟩, hrl⟩ := cells3P hrb1
  have hnbl := (Array.getElem?_eq_some_iff.1 HNM.out).1
  have HRB1 := As.mk hrb1
  clear hrb1
  go_wp2_with (go_at_call 168; refine (as_nil _ _).mono ?_; rintro e w2 ⟨rfl, rfl⟩)
  have hnm5 : NameB (((((w1.setCell ⟨w.heap.size, 0, none⟩ (.int .i64 kk)).setCell ⟨w.heap.size, 1, none⟩ (.string ⟨#[]⟩)).setCell ⟨w.heap.size, 2, none⟩ (.slice (some ⟨nb, 0, none⟩) 1 1)).alloc (.cells #[.int .i64 kk, .string ⟨#[]⟩, .slice (some ⟨nb, 0, none⟩) 1 1] 95)).alloc (.cells #[.pointer none] 219)) nb (s.extract 0 m) :=
    ((((set3U w1 w.heap.size _ _ _).alloc _).alloc _).block nb hnbl (by omega)).trans HNM.out
  obtain ⟨q0, q1, q2⟩ := set3_two HRB1.out (.int .i64 kk) (.string ⟨#[]⟩) (.slice (some ⟨nb, 0, none⟩) 1 1) (.cells #[.int .i64 kk, .string ⟨#[]⟩, .slice (some ⟨nb, 0, none⟩) 1 1] 95) (.cells #[.pointer none] 219)
  exact bodyPost_ret (v := .tuple #[.agg #[.int .i64 kk, .string ⟨#[]⟩, .slice (some ⟨nb, 0, none⟩) 1 1], .int .i64 s.size, .int .i64 0]) (by simp [results, Tryz.results131, go_sem, q0, q1, q2]) rfl ⟨some ⟨nb, 0, none⟩, 1, rfl, Nat.le_refl _, name_row hnm5 (by omega), ((((HT1.out.trans HU1.out (fun q hq h => by omega)).trans (set3U w1 w.heap.size _ _ _) (fun q hq h => by omega)).alloc _).alloc _)⟩

set_option maxRecDepth 100000 in
set_option maxHeartbeats 4000000 in
theorem whole_empty {w : World} {tb : Nat} (h : TB w tb ⟨#[]⟩ 0) : Calls Tryz.prog 167 #[.pointer (some ⟨tb, 0, none⟩)] w fun r w' => r = .returned (.tuple #[.agg #[.int .i64 0, .string ⟨#[]⟩, .slice none 0 0], .nilIface]) ∧ Pure w w' := by
  have hT1 : Pure w (w.alloc (.cells #[.int .i64 0, .string ⟨#[]⟩, .slice none 0 0] 95)) := Upd.alloc1 _ _ _
  have HNX := As.mk (next_end (s := ⟨#[]⟩) (h.pure hT1) (by decide))
  have HT1 := As.mk hT1
  have HRB := As.mk (heap_alloc_new w (.cells #[.int .i64 0, .string ⟨#[]⟩, .slice none 0 0] 95))
  clear h hT1
  go_enter Tryz.func167, Tryz.ntmps167
  go_wp2_with (go_at_call 189; refine HNX.out.mono ?_; rintro e w1 ⟨rfl, hu⟩; have HU1 := As.mk hu; clear hu; apply As.out)
  refine ⟨?_⟩
  have hrb1 := (HU1.out.block w.heap.size (by simp) (fun h => h)).trans HRB.out
  obtain ⟨⟨r0, r1, r2⟩, ⟨rf0, rf1, rf2⟩, hrl⟩ := cells3P hrb1
  clear hrb1
  go_wp2
  exact bodyPost_ret (v := .tuple #[.agg #[.int .i64 0, .string ⟨#[]⟩, .slice none 0 0], .nilIface]) (by simp [results, Tryz.results167, go_sem, r0, r1, r2, rf0, rf1, rf2]) rfl ⟨rfl, (HT1.out.trans HU1.out (fun _ _ h => h)).trans (set3U w1 w.heap.size _ _ _) (fun q hq h => by omega)⟩

set_option maxRecDepth 100000 in
set_option maxHeartbeats 4000000 in
theorem parse_empty : ParsesTo ⟨#[]⟩ (.mk 0 ⟨#[]⟩ []) := by
  intro w
  have hT1 : Pure w ((w.alloc (.cells #[.int .i64 0, .string ⟨#[]⟩, .slice none 0 0] 95)).alloc (.cells #[.string ⟨#[]⟩, .int .i64 0] 216)) := (Upd.alloc1 _ _ _).alloc _
  have hTB : TB ((w.alloc (.cells #[.int .i64 0, .string ⟨#[]⟩, .slice none 0 0] 95)).alloc (.cells #[.string ⟨#[]⟩, .int .i64 0] 216)) (w.heap.size + 1) ⟨#[]⟩ 0 := by
    have := heap_alloc_new (w.alloc (.cells #[.int .i64 0, .string ⟨#[]⟩, .slice none 0 0] 95)) (.cells #[.string ⟨#[]⟩, .int .i64 0] 216)
    rw [show (w.alloc (.cells #[.int .i64 0, .string ⟨#[]⟩, .slice none 0 0] 95)).heap.size = w.heap.size + 1 by simp] at this
    exact this
  have HT1 := As.mk hT1
  have HWH := As.mk (whole_empty hTB)
  have HRB := As.mk ((Below.heap_alloc (w.alloc (.cells #[.int .i64 0, .string ⟨#[]⟩, .slice none 0 0] 95)) (.cells #[.string ⟨#[]⟩, .int .i64 0] 216) w.heap.size (by simp)).trans (heap_alloc_new w _))
  clear hT1 hTB
  go_enter Tryz.func131, Tryz.ntmps131
  go_wp2_with (go_at_call 167; refine HWH.out.mono ?_; rintro e w1 ⟨rfl, hu⟩; have HU1 := As.mk hu; clear hu; apply As.out)
  refine ⟨?_⟩
  have hrb1 := (HU1.out.block w.heap.size (by simp; omega) (fun h => h)).trans HRB.out
  obtain ⟨⟨r0, r1, r2⟩, ⟨rf0, rf1, rf2⟩, hrl⟩ := cells3P hrb1
  have HRB1 := As.mk hrb1
  clear hrb1
  go_wp2_with (go_at_call 168; refine (as_nil _ _).mono ?_; rintro e w2 ⟨rfl, rfl⟩)
  obtain ⟨q0, q1, q2⟩ := set3_two HRB1.out (.int .i64 0) (.string ⟨#[]⟩) (.slice none 0 0) (.cells #[.int .i64 0, .string ⟨#[]⟩, .slice none 0 0] 95) (.cells #[.pointer none] 219)
  exact bodyPost_ret (v := .tuple #[.agg #[.int .i64 0, .string ⟨#[]⟩, .slice none 0 0], .int .i64 0, .int .i64 0]) (by simp [results, Tryz.results131, go_sem, q0, q1, q2]) rfl ⟨none, 0, rfl, Nat.le_refl _, .inl rfl, ((((HT1.out.trans HU1.out (fun q hq h => h)).trans (set3U w1 w.heap.size _ _ _) (fun q hq h => by omega)).alloc _).alloc _)⟩
end Go.Proofs.YtfapglhdakhbeaaGreatDoor
