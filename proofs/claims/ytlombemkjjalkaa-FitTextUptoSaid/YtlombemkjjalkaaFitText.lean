/- The law FitText: no mark too many. Its walk. -/
import Derived.Test.YtlombemkjjalkaaFitTextLaw
import Derived.Test.YtlombemkjjalkaaFitSlices
namespace Go.Proofs.Ytlombemkjjalkaa
open Go.RowKit
set_option linter.unusedVariables false
set_option linter.unusedSimpArgs false

/-- The cells that a round reads, and that their blocks lie there. -/
def RoundS (b o k : Nat) (t : Tok) (b' o' i : Nat) (y : Tok) (q : Nat) (s : Spec) (w : World) : Prop :=
  (w.cell? ⟨b, o + k * 4, none⟩ = some (.int .i64 t.k) ∧ w.cell? ⟨b, o + k * 4 + 1, none⟩ = some (.int .i64 t.t) ∧ w.cell? ⟨b, o + k * 4 + 2, none⟩ = some (.int .i64 t.n) ∧ w.cell? ⟨b, o + k * 4 + 3, none⟩ = some (.int .i64 t.m)) ∧ (w.cell? ⟨b', o' + i * 4, none⟩ = some (.int .i64 y.k) ∧ w.cell? ⟨b', o' + i * 4 + 1, none⟩ = some (.int .i64 y.t) ∧ w.cell? ⟨b', o' + i * 4 + 2, none⟩ = some (.int .i64 y.n) ∧ w.cell? ⟨b', o' + i * 4 + 3, none⟩ = some (.int .i64 y.m)) ∧ (w.cell? ⟨q, 3, none⟩ = some (.int .i64 s.marks) ∧ w.cell? ⟨q, 6, none⟩ = some (.bool s.lines)) ∧ b < w.heap.size ∧ b' < w.heap.size ∧ q < w.heap.size
theorem RoundS.keep {b o k : Nat} {t : Tok} {b' o' i : Nat} {y : Tok} {q : Nat} {s : Spec} {w w1 : World} (hu : Stp w w1) (h : RoundS b o k t b' o' i y q s w) : RoundS b o k t b' o' i y q s w1 := by
  obtain ⟨⟨h0, h1, h2, h3⟩, ⟨g0, g1, g2, g3⟩, ⟨f3, f6⟩, e1, e2, e3⟩ := h
  obtain ⟨oc, _⟩ := hu.out.olds
  have hz := hu.out.size
  refine ⟨⟨?_, ?_, ?_, ?_⟩, ⟨?_, ?_, ?_, ?_⟩, ⟨?_, ?_⟩, by omega, by omega, by omega⟩ <;> (rw [oc _ _ (by assumption)]; assumption)
theorem RoundS.drew {b o k : Nat} {t : Tok} {b' o' i : Nat} {y : Tok} {q : Nat} {s : Spec} {w : World} (h : RoundS b o k t b' o' i y q s w) : RoundS b o k t b' o' i y q s w.drew := h

def FtRel (w wr : World) (l : List Tok) (s : Spec) (x : List Tok) (k i : Nat) : Prop := Ahead l s k (x.drop i) ∧ Pure w wr ∧ BoxS w.heap.size s wr
theorem FtRel.skip {w wr W : World} {l : List Tok} {s : Spec} {x : List Tok} {k i : Nat} {t y : Tok} (hah : Ahead l s k (y :: x.drop (i + 1))) (hy : x[i]? = some y) (ht : l[k]? = some t) (hn : ¬ (t.k = 0 ∧ t.n = y.n ∧ rightB t = true)) (hp : Pure w wr) (hb : BoxS w.heap.size s wr) (hu : Pure wr W) : FtRel w W l s x (k + 1) i :=
  ⟨by rw [drop_cons hy]; exact hah.skip ht hn, Upd.trans hp hu (fun _ _ h => h), BoxS.keep (Stp.mk hu) hb⟩
theorem FtRel.next {w wr W : World} {l : List Tok} {s : Spec} {x : List Tok} {k i : Nat} {y : Tok} (hah : Ahead l s k (y :: x.drop (i + 1))) (hp : Pure w wr) (hb : BoxS w.heap.size s wr) (hu : Pure wr W) : FtRel w W l s x (k + 1) (i + 1) :=
  ⟨hah.next, Upd.trans hp hu (fun _ _ h => h), BoxS.keep (Stp.mk hu) hb⟩

set_option maxRecDepth 100000 in
set_option maxHeartbeats 4000000 in
theorem FitText_walk {F : Nat → Prop} {A : Option Addr} {c : Nat} {l : List Tok} {s : Spec} {w : World} (hr : tokR.row w F A l) (hb : l.length ≤ 1048576) :
    Calls Try.prog 5 #[.slice A l.length c, s.val] w fun e w' => e = .returned (.bool true) ∧ Pure w w' := by
  have HR := As.mk hr
  clear hr
  have HA : As (Pure w (w.alloc (.cells #[.string s.name, .string s.expr, .bool s.leaf, .int .i64 s.marks, .int .i64 s.least, .int .i64 s.most, .bool s.lines] 27))) := ⟨(Upd.alloc1 _ _ _)⟩
  have hS0 := As.mk (BoxS.made w s)
  have hpl := plain_len l s
  obtain ⟨x, hx⟩ : ∃ x, plain l s = x := ⟨_, rfl⟩
  rw [hx] at hpl
  have HX := As.mk hx
  clear hx
  go_enter Try.func5, Try.ntmps5
  go_wp2_with (go_at_call 12; refine (Plain_calls (s := s) (Rp.row_pure HR.out HA.out) (by omega)).mono ?_; rintro e w1 ⟨v, rfl, ho, hu⟩; rw [HX.out] at ho; obtain ⟨A1, c1, rfl, hc1, hr1⟩ := Rp.own_slice ho; have HR1 := As.mk hr1; have HU1 := As.mk hu; have HB1 := As.mk (BoxS.keep (Stp.mk hu) (show BoxS w.heap.size s _ from hS0.out)); have HA1 := As.mk (HA.out.trans hu (fun _ _ h => h)); clear ho hu hr1)
  go_loopg [6, 7] x.length (fun g kk ii wr => ∃ k i : Nat, i + g = x.length ∧ kk = .int .i64 k ∧ ii = .int .i64 i ∧ k ≤ l.length ∧ As (FtRel w wr l s x k i) ∧ As (Pure w1 wr))
  case atStart => exact ⟨0, 0, by omega, rfl, rfl, by omega, ⟨⟨0, Nat.le_refl _, HX.out⟩, HA1.out, HB1.out⟩, ⟨Upd.refl _ _⟩⟩
  case round =>
    clear HA1 HB1 hS0
    obtain ⟨k, i, hi, rfl, rfl, hkl, HF, HW⟩ := hrel
    by_cases hlt : i < x.length
    · obtain ⟨g1, rfl⟩ : ∃ m, gk = m + 1 := ⟨gk - 1, by omega⟩
      obtain ⟨y, hy⟩ : ∃ y, x[i]? = some y := ⟨_, List.getElem?_eq_getElem hlt⟩
      have HY := As.mk hy
      have HI := As.mk hi
      clear hy hi
      go_wp2
      go_loopg [6] (l.length - k) (fun g kk wx => ∃ k : Nat, k + g = l.length ∧ kk = .int .i64 k ∧ As (FtRel w wx l s x k i) ∧ As (Pure w1 wx))
      case atStart => exact ⟨k, by omega, rfl, HF, HW⟩
      case round =>
        clear hkl HF HW
        obtain ⟨k, hk, rfl, HF, HW⟩ := hrel
        obtain ⟨hah, hp, hbx⟩ := HF.out
        rw [drop_cons HY.out] at hah
        have hlk := hah.lt
        obtain ⟨g2, rfl⟩ : ∃ m, gk = m + 1 := ⟨gk - 1, by omega⟩
        obtain ⟨t, ht⟩ : ∃ t, l[k]? = some t := ⟨_, List.getElem?_eq_getElem hlk⟩
        obtain ⟨b, o, rfl, _, hbl, c0, c1, c2, c3⟩ := tok_at (Rp.row_pure HR.out hp) ht
        obtain ⟨b', o', rfl, _, hbl', d0, d1, d2, d3⟩ := tok_at (Rp.row_pure HR1.out HW.out) HY.out
        have hS0 : RoundS b o k t b' o' i y w.heap.size s wr := ⟨⟨c0, c1, c2, c3⟩, ⟨d0, d1, d2, d3⟩, ⟨hbx.2.2.2.1, hbx.2.2.2.2.2.2.1⟩, hbl, hbl', hbx.2.2.2.2.2.2.2⟩
        have HAh := As.mk hah
        have HT := As.mk ht
        have HK := As.mk hk
        have HP := As.mk hp
        have HBX := As.mk hbx
        clear hah ht hk hp hbx HF c0 c1 c2 c3 d0 d1 d2 d3 hbl hbl'
        have l1 : (0 : Int) ≤ (k : Int) := by omega
        have l2 : (k : Int) < (l.length : Int) := by omega
        have l3 : (0 : Int) ≤ (i : Int) := by omega
        have l4 : (i : Int) < (x.length : Int) := by omega
        by_cases q1 : t.k = 0
        · have e1 : (t.k != 0) = false := by simp [q1]
          by_cases q2 : t.n = y.n
          · have e2 : (t.n != y.n) = false := by simp [q2]
            cases q3 : rightB t
            · have HN : As (¬ (t.k = 0 ∧ t.n = y.n ∧ rightB t = true)) := ⟨fun h => by rw [q3] at h; exact absurd h.2.2 (by simp)⟩
              clear q1 q2
              go_wp2
              go_region_held3 (fun w' => (w'.cell? ⟨b, o + k * 4, none⟩ = some (.int .i64 t.k) ∧ w'.cell? ⟨b, o + k * 4 + 1, none⟩ = some (.int .i64 t.t) ∧ w'.cell? ⟨b, o + k * 4 + 2, none⟩ = some (.int .i64 t.n) ∧ w'.cell? ⟨b, o + k * 4 + 3, none⟩ = some (.int .i64 t.m)) ∧ (w'.cell? ⟨b', o' + i * 4, none⟩ = some (.int .i64 y.k) ∧ w'.cell? ⟨b', o' + i * 4 + 1, none⟩ = some (.int .i64 y.t) ∧ w'.cell? ⟨b', o' + i * 4 + 2, none⟩ = some (.int .i64 y.n) ∧ w'.cell? ⟨b', o' + i * 4 + 3, none⟩ = some (.int .i64 y.m)) ∧ (w'.cell? ⟨w.heap.size, 3, none⟩ = some (.int .i64 s.marks) ∧ w'.cell? ⟨w.heap.size, 6, none⟩ = some (.bool s.lines)) ∧ b < w'.heap.size ∧ b' < w'.heap.size ∧ w.heap.size < w'.heap.size) (first | exact RoundS.drew hS0 | exact RoundS.keep (by assumption) (by assumption)) ((go_at_call 15; refine (flatRight_calls t _).mono ?_; rintro e w2 ⟨rfl, hu⟩; have HU2 := As.mk hu; have HZ2 := Stp.mk hu; clear hu))
              go_wp2
              go_roundg g2
              case measure => omega
              case rel => exact ⟨k + 1, by have := HK.out; omega, by go_num, ⟨FtRel.skip HAh.out HY.out HT.out HN.out HP.out HBX.out (Upd.trans ((Upd.refl _ wr).drew) HU2.out (fun _ _ h => h))⟩, ⟨Upd.trans HW.out (Upd.trans ((Upd.refl _ wr).drew) HU2.out (fun _ _ h => h)) (fun _ _ h => h)⟩⟩
            · have HM := As.mk (And.intro q1 q2)
              clear q1 q2
              have hpy := plain_mem (show y ∈ plain l s by rw [HX.out]; exact List.mem_of_getElem? HY.out)
              obtain ⟨z, hz, hyz⟩ := hpy
              obtain ⟨_, _, r1, r2, r3, r4, r5, _⟩ := plain_tok hz
              rw [← hyz] at r1 r2 r3 r4
              rw [← r2] at r5
              have e3 : (y.k != 0) = false := by simp [r1]
              have e4 : (bits .and .i64 y.m s.marks != y.m) = false := by simp [r4]
              have e5 : ((k : Int) == (l.length : Int)) = false := by simp; omega
              have R3 := As.mk r3
              have R5 := As.mk r5
              clear hz hyz r1 r2 r3 r4 r5
              go_wp2
              go_region_held3 (fun w' => (w'.cell? ⟨b, o + k * 4, none⟩ = some (.int .i64 t.k) ∧ w'.cell? ⟨b, o + k * 4 + 1, none⟩ = some (.int .i64 t.t) ∧ w'.cell? ⟨b, o + k * 4 + 2, none⟩ = some (.int .i64 t.n) ∧ w'.cell? ⟨b, o + k * 4 + 3, none⟩ = some (.int .i64 t.m)) ∧ (w'.cell? ⟨b', o' + i * 4, none⟩ = some (.int .i64 y.k) ∧ w'.cell? ⟨b', o' + i * 4 + 1, none⟩ = some (.int .i64 y.t) ∧ w'.cell? ⟨b', o' + i * 4 + 2, none⟩ = some (.int .i64 y.n) ∧ w'.cell? ⟨b', o' + i * 4 + 3, none⟩ = some (.int .i64 y.m)) ∧ (w'.cell? ⟨w.heap.size, 3, none⟩ = some (.int .i64 s.marks) ∧ w'.cell? ⟨w.heap.size, 6, none⟩ = some (.bool s.lines)) ∧ b < w'.heap.size ∧ b' < w'.heap.size ∧ w.heap.size < w'.heap.size) (first | exact RoundS.drew hS0 | exact RoundS.keep (by assumption) (by assumption)) ((go_at_call 15; refine (flatRight_calls t _).mono ?_; rintro e w2 ⟨rfl, hu⟩; have HU2 := As.mk hu; have HZ2 := Stp.mk hu; clear hu))
              go_wp2
              have hS1 : RoundS b o k t b' o' i y w.heap.size s w2 := RoundS.keep HZ2 (RoundS.drew hS0)
              have HV2 : As (Pure wr w2) := ⟨(Upd.trans ((Upd.refl _ wr).drew) HU2.out (fun _ _ h => h))⟩
              clear HU2 HZ2 hS0
              by_cases h10 : y.n = 10
              · have e6 : (y.n == 10) = true := by simp [h10]
                have e7 : (!s.lines) = false := by simp [R5.out h10]
                clear h10 R5
                refine wp_region_held_drew (S := (fun w' => (w'.cell? ⟨b, o + k * 4, none⟩ = some (.int .i64 t.k) ∧ w'.cell? ⟨b, o + k * 4 + 1, none⟩ = some (.int .i64 t.t) ∧ w'.cell? ⟨b, o + k * 4 + 2, none⟩ = some (.int .i64 t.n) ∧ w'.cell? ⟨b, o + k * 4 + 3, none⟩ = some (.int .i64 t.m)) ∧ (w'.cell? ⟨b', o' + i * 4, none⟩ = some (.int .i64 y.k) ∧ w'.cell? ⟨b', o' + i * 4 + 1, none⟩ = some (.int .i64 y.t) ∧ w'.cell? ⟨b', o' + i * 4 + 2, none⟩ = some (.int .i64 y.n) ∧ w'.cell? ⟨b', o' + i * 4 + 3, none⟩ = some (.int .i64 y.m)) ∧ (w'.cell? ⟨w.heap.size, 3, none⟩ = some (.int .i64 s.marks) ∧ w'.cell? ⟨w.heap.size, 6, none⟩ = some (.bool s.lines)) ∧ b < w'.heap.size ∧ b' < w'.heap.size ∧ w.heap.size < w'.heap.size)) (by kernel_rfl) ?_ (fun hHeld => ?_)
                · (first | exact RoundS.drew hS1 | exact RoundS.keep (by assumption) (by assumption))
                refine wpAnyH_take (i := 0) (oi := { dst := (some 52), op := (Go.Op.move (Go.Operand.tmp 6)), type := 3, pos := "law.go:90", after := #[], guard := none }) (v := ?_) rfl (by kernel_rfl) (by kernel_rfl) (by kernel_rfl) (fun _ _ _ h => h) (Or.inl ⟨by rfl, (by intro w hSw; (try dsimp only at hSw); go_simp; try with_reducible rfl)⟩) (by assumption) ?_
                (try simp only [Act.put, List.setIfInBounds_toArray, List.set_cons_zero, List.set_cons_succ])
                refine wpAnyH_take (i := 1) (oi := { dst := (some 53), op := (Go.Op.move (Go.Operand.tmp 0)), type := 25, pos := "law.go:90", after := #[], guard := none }) (v := ?_) rfl (by kernel_rfl) (by kernel_rfl) (by kernel_rfl) (fun _ _ _ h => h) (Or.inl ⟨by rfl, (by intro w hSw; (try dsimp only at hSw); go_simp; try with_reducible rfl)⟩) (by assumption) ?_
                (try simp only [Act.put, List.setIfInBounds_toArray, List.set_cons_zero, List.set_cons_succ])
                refine wpAnyH_take (i := 2) (oi := { dst := (some 54), op := (Go.Op.call { callee := (Go.Callee.builtin Go.Builtin.len), args := #[(Go.Operand.tmp 53)], argTypes := #[25] }), type := 3, pos := "law.go:90", after := #[{ on := 1, ground := Go.Ground.data }], guard := none }) (v := ?_) rfl (by kernel_rfl) (by kernel_rfl) (by kernel_rfl) (fun _ _ _ h => h) (Or.inl ⟨by rfl, (by intro w hSw; (try dsimp only at hSw); go_simp; try with_reducible rfl)⟩) (by assumption) ?_
                (try simp only [Act.put, List.setIfInBounds_toArray, List.set_cons_zero, List.set_cons_succ])
                refine wpAnyH_take (i := 3) (oi := { dst := (some 55), op := (Go.Op.binOp Go.BinOp.eql 3 (Go.Operand.tmp 52) (Go.Operand.tmp 54) 3), type := 4, pos := "law.go:90", after := #[{ on := 0, ground := Go.Ground.data }, { on := 2, ground := Go.Ground.data }], guard := none }) (v := ?_) rfl (by kernel_rfl) (by kernel_rfl) (by kernel_rfl) (fun _ _ _ h => h) (Or.inl ⟨by rfl, (by intro w hSw; (try dsimp only at hSw); go_simp; try with_reducible rfl)⟩) (by assumption) ?_
                (try simp only [Act.put, List.setIfInBounds_toArray, List.set_cons_zero, List.set_cons_succ])
                refine wpAnyH_take (i := 4) (oi := { dst := (some 56), op := (Go.Op.move (Go.Operand.tmp 55)), type := 4, pos := "law.go:90", after := #[{ on := 3, ground := Go.Ground.data }], guard := none }) (v := ?_) rfl (by kernel_rfl) (by kernel_rfl) (by kernel_rfl) (fun _ _ _ h => h) (Or.inl ⟨by rfl, (by intro w hSw; (try dsimp only at hSw); go_simp; try with_reducible rfl)⟩) (by assumption) ?_
                (try simp only [Act.put, List.setIfInBounds_toArray, List.set_cons_zero, List.set_cons_succ])
                refine wpAnyH_take (i := 5) (oi := { dst := (some 57), op := (Go.Op.move (Go.Operand.tmp 5)), type := 25, pos := "law.go:90", after := #[{ on := 4, ground := Go.Ground.guard }], guard := (some (4, false)) }) (v := ?_) rfl (by kernel_rfl) (by kernel_rfl) (by kernel_rfl) (fun _ _ _ h => h) (Or.inl ⟨by rfl, (by intro w hSw; (try dsimp only at hSw); go_simp; try with_reducible rfl)⟩) (by assumption) ?_
                (try simp only [Act.put, List.setIfInBounds_toArray, List.set_cons_zero, List.set_cons_succ])
                refine wpAnyH_take (i := 6) (oi := { dst := (some 58), op := (Go.Op.move (Go.Operand.tmp 7)), type := 3, pos := "law.go:90", after := #[{ on := 4, ground := Go.Ground.guard }], guard := (some (4, false)) }) (v := ?_) rfl (by kernel_rfl) (by kernel_rfl) (by kernel_rfl) (fun _ _ _ h => h) (Or.inl ⟨by rfl, (by intro w hSw; (try dsimp only at hSw); go_simp; try with_reducible rfl)⟩) (by assumption) ?_
                (try simp only [Act.put, List.setIfInBounds_toArray, List.set_cons_zero, List.set_cons_succ])
                refine wpAnyH_take (i := 7) (oi := { dst := (some 59), op := (Go.Op.indexAddr 25 (Go.Operand.tmp 57) (Go.Operand.tmp 58)), type := 0, pos := "law.go:90", after := #[{ on := 5, ground := Go.Ground.data }, { on := 6, ground := Go.Ground.data }, { on := 4, ground := Go.Ground.guard }], guard := (some (4, false)) }) (v := ?_) rfl (by kernel_rfl) (by kernel_rfl) (by kernel_rfl) (fun _ _ _ h => h) (Or.inl ⟨by rfl, (by intro w hSw; (try dsimp only at hSw); go_simp; try with_reducible rfl)⟩) (by assumption) ?_
                (try simp only [Act.put, List.setIfInBounds_toArray, List.set_cons_zero, List.set_cons_succ])
                refine wpAnyH_take (i := 8) (oi := { dst := (some 60), op := (Go.Op.load 33 (Go.Operand.tmp 59)), type := 33, pos := "law.go:90", after := #[{ on := 7, ground := Go.Ground.data }, { on := 4, ground := Go.Ground.guard }], guard := (some (4, false)) }) (v := ?_) rfl (by kernel_rfl) (by kernel_rfl) (by kernel_rfl) (fun _ _ _ h => h) (Or.inl ⟨by rfl, (by intro w hSw; (try dsimp only at hSw); go_simp; try with_reducible rfl)⟩) (by assumption) ?_
                (try simp only [Act.put, List.setIfInBounds_toArray, List.set_cons_zero, List.set_cons_succ])
                refine wpAnyH_ready (rs := [9]) (by kernel_rfl) (by simp) (AllReadyH.cons (o := { dst := (some 61), op := (Go.Op.call { callee := (Go.Callee.value (Go.Operand.func 15)), args := #[(Go.Operand.tmp 60)], argTypes := #[33] }), type := 4, pos := "law.go:90", after := #[{ on := 8, ground := Go.Ground.data }, { on := 4, ground := Go.Ground.chain }, { on := 4, ground := Go.Ground.guard }], guard := (some (4, false)) }) rfl (fun K hK => ?_) AllReadyH.nil)
                go_simp
                refine (flatRight_is R3.out _).mono ?_; rintro e w3 ⟨rfl, hu⟩; have HZ3 := Stp.mk hu; have HU3 := As.mk hu; clear hu; go_wp2_with fail
                refine hK.out _ _ (by (first | exact RoundS.drew hS1 | exact RoundS.keep (by assumption) (by assumption))) (fun hHeld => ?_)
                clear hK K
                (try simp only [Act.put, List.setIfInBounds_toArray, List.set_cons_zero, List.set_cons_succ])
                refine wpAnyH_take (i := 10) (oi := { dst := (some 62), op := (Go.Op.unOp Go.UnOp.not 4 (Go.Operand.tmp 61)), type := 4, pos := "law.go:90", after := #[{ on := 9, ground := Go.Ground.data }, { on := 4, ground := Go.Ground.guard }], guard := (some (4, false)) }) (v := ?_) rfl (by kernel_rfl) (by kernel_rfl) (by kernel_rfl) (fun _ _ _ h => h) (Or.inl ⟨by rfl, (by intro w hSw; (try dsimp only at hSw); go_simp; try with_reducible rfl)⟩) (by assumption) ?_
                (try simp only [Act.put, List.setIfInBounds_toArray, List.set_cons_zero, List.set_cons_succ])
                refine wpAnyH_take (i := 11) (oi := { dst := (some 63), op := (Go.Op.pick (Go.Operand.tmp 56) (Go.Operand.const (Go.Value.bool true)) (Go.Operand.tmp 62)), type := 4, pos := "law.go:90", after := #[{ on := 4, ground := Go.Ground.data }, { on := 10, ground := Go.Ground.data }], guard := none }) (v := ?_) rfl (by kernel_rfl) (by kernel_rfl) (by kernel_rfl) (fun _ _ _ h => h) (Or.inl ⟨by rfl, (by intro w hSw; (try dsimp only at hSw); go_simp; try with_reducible rfl)⟩) (by assumption) ?_
                (try simp only [Act.put, List.setIfInBounds_toArray, List.set_cons_zero, List.set_cons_succ])
                refine wpAnyH_take (i := 12) (oi := { dst := (some 64), op := (Go.Op.move (Go.Operand.tmp 63)), type := 4, pos := "law.go:90", after := #[{ on := 11, ground := Go.Ground.data }, { on := 9, ground := Go.Ground.chain }], guard := none }) (v := ?_) rfl (by kernel_rfl) (by kernel_rfl) (by kernel_rfl) (fun _ _ _ h => h) (Or.inl ⟨by rfl, (by intro w hSw; (try dsimp only at hSw); go_simp; try with_reducible rfl)⟩) (by assumption) ?_
                (try simp only [Act.put, List.setIfInBounds_toArray, List.set_cons_zero, List.set_cons_succ])
                refine wpAnyH_take (i := 13) (oi := { dst := (some 65), op := (Go.Op.move (Go.Operand.tmp 5)), type := 25, pos := "law.go:90", after := #[{ on := 12, ground := Go.Ground.guard }], guard := (some (12, false)) }) (v := ?_) rfl (by kernel_rfl) (by kernel_rfl) (by kernel_rfl) (fun _ _ _ h => h) (Or.inl ⟨by rfl, (by intro w hSw; (try dsimp only at hSw); go_simp; try with_reducible rfl)⟩) (by assumption) ?_
                (try simp only [Act.put, List.setIfInBounds_toArray, List.set_cons_zero, List.set_cons_succ])
                refine wpAnyH_take (i := 14) (oi := { dst := (some 66), op := (Go.Op.move (Go.Operand.tmp 7)), type := 3, pos := "law.go:90", after := #[{ on := 12, ground := Go.Ground.guard }], guard := (some (12, false)) }) (v := ?_) rfl (by kernel_rfl) (by kernel_rfl) (by kernel_rfl) (fun _ _ _ h => h) (Or.inl ⟨by rfl, (by intro w hSw; (try dsimp only at hSw); go_simp; try with_reducible rfl)⟩) (by assumption) ?_
                (try simp only [Act.put, List.setIfInBounds_toArray, List.set_cons_zero, List.set_cons_succ])
                refine wpAnyH_take (i := 15) (oi := { dst := (some 67), op := (Go.Op.indexAddr 25 (Go.Operand.tmp 65) (Go.Operand.tmp 66)), type := 0, pos := "law.go:90", after := #[{ on := 13, ground := Go.Ground.data }, { on := 14, ground := Go.Ground.data }, { on := 12, ground := Go.Ground.guard }], guard := (some (12, false)) }) (v := ?_) rfl (by kernel_rfl) (by kernel_rfl) (by kernel_rfl) (fun _ _ _ h => h) (Or.inl ⟨by rfl, (by intro w hSw; (try dsimp only at hSw); go_simp; try with_reducible rfl)⟩) (by assumption) ?_
                (try simp only [Act.put, List.setIfInBounds_toArray, List.set_cons_zero, List.set_cons_succ])
                refine wpAnyH_take (i := 16) (oi := { dst := (some 68), op := (Go.Op.fieldAddr 33 (Go.Operand.tmp 67) 0), type := 0, pos := "law.go:90", after := #[{ on := 15, ground := Go.Ground.data }, { on := 12, ground := Go.Ground.guard }], guard := (some (12, false)) }) (v := ?_) rfl (by kernel_rfl) (by kernel_rfl) (by kernel_rfl) (fun _ _ _ h => h) (Or.inl ⟨by rfl, (by intro w hSw; (try dsimp only at hSw); go_simp; try with_reducible rfl)⟩) (by assumption) ?_
                (try simp only [Act.put, List.setIfInBounds_toArray, List.set_cons_zero, List.set_cons_succ])
                refine wpAnyH_take (i := 17) (oi := { dst := (some 69), op := (Go.Op.load 3 (Go.Operand.tmp 68)), type := 3, pos := "law.go:90", after := #[{ on := 16, ground := Go.Ground.data }, { on := 12, ground := Go.Ground.guard }], guard := (some (12, false)) }) (v := ?_) rfl (by kernel_rfl) (by kernel_rfl) (by kernel_rfl) (fun _ _ _ h => h) (Or.inl ⟨by rfl, (by intro w hSw; (try dsimp only at hSw); go_simp; try with_reducible rfl)⟩) (by assumption) ?_
                (try simp only [Act.put, List.setIfInBounds_toArray, List.set_cons_zero, List.set_cons_succ])
                refine wpAnyH_take (i := 18) (oi := { dst := (some 70), op := (Go.Op.binOp Go.BinOp.neq 3 (Go.Operand.tmp 69) (Go.Operand.const (Go.Value.int Go.IntKind.i64 0)) 3), type := 4, pos := "law.go:90", after := #[{ on := 17, ground := Go.Ground.data }, { on := 12, ground := Go.Ground.guard }], guard := (some (12, false)) }) (v := ?_) rfl (by kernel_rfl) (by kernel_rfl) (by kernel_rfl) (fun _ _ _ h => h) (Or.inl ⟨by rfl, (by intro w hSw; (try dsimp only at hSw); go_simp; try with_reducible rfl)⟩) (by assumption) ?_
                (try simp only [Act.put, List.setIfInBounds_toArray, List.set_cons_zero, List.set_cons_succ])
                refine wpAnyH_take (i := 19) (oi := { dst := (some 71), op := (Go.Op.pick (Go.Operand.tmp 64) (Go.Operand.const (Go.Value.bool true)) (Go.Operand.tmp 70)), type := 4, pos := "law.go:90", after := #[{ on := 12, ground := Go.Ground.data }, { on := 18, ground := Go.Ground.data }], guard := none }) (v := ?_) rfl (by kernel_rfl) (by kernel_rfl) (by kernel_rfl) (fun _ _ _ h => h) (Or.inl ⟨by rfl, (by intro w hSw; (try dsimp only at hSw); go_simp; try with_reducible rfl)⟩) (by assumption) ?_
                (try simp only [Act.put, List.setIfInBounds_toArray, List.set_cons_zero, List.set_cons_succ])
                refine wpAnyH_take (i := 20) (oi := { dst := (some 72), op := (Go.Op.move (Go.Operand.tmp 71)), type := 4, pos := "law.go:90", after := #[{ on := 19, ground := Go.Ground.data }, { on := 12, ground := Go.Ground.chain }], guard := none }) (v := ?_) rfl (by kernel_rfl) (by kernel_rfl) (by kernel_rfl) (fun _ _ _ h => h) (Or.inl ⟨by rfl, (by intro w hSw; (try dsimp only at hSw); go_simp; try with_reducible rfl)⟩) (by assumption) ?_
                (try simp only [Act.put, List.setIfInBounds_toArray, List.set_cons_zero, List.set_cons_succ])
                refine wpAnyH_take (i := 21) (oi := { dst := (some 73), op := (Go.Op.move (Go.Operand.tmp 5)), type := 25, pos := "law.go:90", after := #[{ on := 20, ground := Go.Ground.guard }], guard := (some (20, false)) }) (v := ?_) rfl (by kernel_rfl) (by kernel_rfl) (by kernel_rfl) (fun _ _ _ h => h) (Or.inl ⟨by rfl, (by intro w hSw; (try dsimp only at hSw); go_simp; try with_reducible rfl)⟩) (by assumption) ?_
                (try simp only [Act.put, List.setIfInBounds_toArray, List.set_cons_zero, List.set_cons_succ])
                refine wpAnyH_take (i := 22) (oi := { dst := (some 74), op := (Go.Op.move (Go.Operand.tmp 7)), type := 3, pos := "law.go:90", after := #[{ on := 20, ground := Go.Ground.guard }], guard := (some (20, false)) }) (v := ?_) rfl (by kernel_rfl) (by kernel_rfl) (by kernel_rfl) (fun _ _ _ h => h) (Or.inl ⟨by rfl, (by intro w hSw; (try dsimp only at hSw); go_simp; try with_reducible rfl)⟩) (by assumption) ?_
                (try simp only [Act.put, List.setIfInBounds_toArray, List.set_cons_zero, List.set_cons_succ])
                refine wpAnyH_take (i := 23) (oi := { dst := (some 75), op := (Go.Op.indexAddr 25 (Go.Operand.tmp 73) (Go.Operand.tmp 74)), type := 0, pos := "law.go:90", after := #[{ on := 21, ground := Go.Ground.data }, { on := 22, ground := Go.Ground.data }, { on := 20, ground := Go.Ground.guard }], guard := (some (20, false)) }) (v := ?_) rfl (by kernel_rfl) (by kernel_rfl) (by kernel_rfl) (fun _ _ _ h => h) (Or.inl ⟨by rfl, (by intro w hSw; (try dsimp only at hSw); go_simp; try with_reducible rfl)⟩) (by assumption) ?_
                (try simp only [Act.put, List.setIfInBounds_toArray, List.set_cons_zero, List.set_cons_succ])
                refine wpAnyH_take (i := 24) (oi := { dst := (some 76), op := (Go.Op.fieldAddr 33 (Go.Operand.tmp 75) 3), type := 0, pos := "law.go:90", after := #[{ on := 23, ground := Go.Ground.data }, { on := 20, ground := Go.Ground.guard }], guard := (some (20, false)) }) (v := ?_) rfl (by kernel_rfl) (by kernel_rfl) (by kernel_rfl) (fun _ _ _ h => h) (Or.inl ⟨by rfl, (by intro w hSw; (try dsimp only at hSw); go_simp; try with_reducible rfl)⟩) (by assumption) ?_
                (try simp only [Act.put, List.setIfInBounds_toArray, List.set_cons_zero, List.set_cons_succ])
                refine wpAnyH_take (i := 25) (oi := { dst := (some 77), op := (Go.Op.load 3 (Go.Operand.tmp 76)), type := 3, pos := "law.go:90", after := #[{ on := 24, ground := Go.Ground.data }, { on := 20, ground := Go.Ground.guard }], guard := (some (20, false)) }) (v := ?_) rfl (by kernel_rfl) (by kernel_rfl) (by kernel_rfl) (fun _ _ _ h => h) (Or.inl ⟨by rfl, (by intro w hSw; (try dsimp only at hSw); go_simp; try with_reducible rfl)⟩) (by assumption) ?_
                (try simp only [Act.put, List.setIfInBounds_toArray, List.set_cons_zero, List.set_cons_succ])
                refine wpAnyH_take (i := 26) (oi := { dst := (some 78), op := (Go.Op.fieldAddr 27 (Go.Operand.tmp 3) 3), type := 0, pos := "law.go:90", after := #[{ on := 20, ground := Go.Ground.guard }], guard := (some (20, false)) }) (v := ?_) rfl (by kernel_rfl) (by kernel_rfl) (by kernel_rfl) (fun _ _ _ h => h) (Or.inl ⟨by rfl, (by intro w hSw; (try dsimp only at hSw); go_simp; try with_reducible rfl)⟩) (by assumption) ?_
                (try simp only [Act.put, List.setIfInBounds_toArray, List.set_cons_zero, List.set_cons_succ])
                refine wpAnyH_take (i := 27) (oi := { dst := (some 79), op := (Go.Op.load 3 (Go.Operand.tmp 78)), type := 3, pos := "law.go:90", after := #[{ on := 26, ground := Go.Ground.data }, { on := 20, ground := Go.Ground.guard }], guard := (some (20, false)) }) (v := ?_) rfl (by kernel_rfl) (by kernel_rfl) (by kernel_rfl) (fun _ _ _ h => h) (Or.inl ⟨by rfl, (by intro w hSw; (try dsimp only at hSw); go_simp; try with_reducible rfl)⟩) (by assumption) ?_
                (try simp only [Act.put, List.setIfInBounds_toArray, List.set_cons_zero, List.set_cons_succ])
                refine wpAnyH_take (i := 28) (oi := { dst := (some 80), op := (Go.Op.binOp Go.BinOp.and 3 (Go.Operand.tmp 77) (Go.Operand.tmp 79) 3), type := 3, pos := "law.go:90", after := #[{ on := 25, ground := Go.Ground.data }, { on := 27, ground := Go.Ground.data }, { on := 20, ground := Go.Ground.guard }], guard := (some (20, false)) }) (v := ?_) rfl (by kernel_rfl) (by kernel_rfl) (by kernel_rfl) (fun _ _ _ h => h) (Or.inl ⟨by rfl, (by intro w hSw; (try dsimp only at hSw); go_simp; try with_reducible rfl)⟩) (by assumption) ?_
                (try simp only [Act.put, List.setIfInBounds_toArray, List.set_cons_zero, List.set_cons_succ])
                refine wpAnyH_take (i := 29) (oi := { dst := (some 81), op := (Go.Op.move (Go.Operand.tmp 5)), type := 25, pos := "law.go:90", after := #[{ on := 20, ground := Go.Ground.guard }], guard := (some (20, false)) }) (v := ?_) rfl (by kernel_rfl) (by kernel_rfl) (by kernel_rfl) (fun _ _ _ h => h) (Or.inl ⟨by rfl, (by intro w hSw; (try dsimp only at hSw); go_simp; try with_reducible rfl)⟩) (by assumption) ?_
                (try simp only [Act.put, List.setIfInBounds_toArray, List.set_cons_zero, List.set_cons_succ])
                refine wpAnyH_take (i := 30) (oi := { dst := (some 82), op := (Go.Op.move (Go.Operand.tmp 7)), type := 3, pos := "law.go:90", after := #[{ on := 20, ground := Go.Ground.guard }], guard := (some (20, false)) }) (v := ?_) rfl (by kernel_rfl) (by kernel_rfl) (by kernel_rfl) (fun _ _ _ h => h) (Or.inl ⟨by rfl, (by intro w hSw; (try dsimp only at hSw); go_simp; try with_reducible rfl)⟩) (by assumption) ?_
                (try simp only [Act.put, List.setIfInBounds_toArray, List.set_cons_zero, List.set_cons_succ])
                refine wpAnyH_take (i := 31) (oi := { dst := (some 83), op := (Go.Op.indexAddr 25 (Go.Operand.tmp 81) (Go.Operand.tmp 82)), type := 0, pos := "law.go:90", after := #[{ on := 29, ground := Go.Ground.data }, { on := 30, ground := Go.Ground.data }, { on := 20, ground := Go.Ground.guard }], guard := (some (20, false)) }) (v := ?_) rfl (by kernel_rfl) (by kernel_rfl) (by kernel_rfl) (fun _ _ _ h => h) (Or.inl ⟨by rfl, (by intro w hSw; (try dsimp only at hSw); go_simp; try with_reducible rfl)⟩) (by assumption) ?_
                (try simp only [Act.put, List.setIfInBounds_toArray, List.set_cons_zero, List.set_cons_succ])
                refine wpAnyH_take (i := 32) (oi := { dst := (some 84), op := (Go.Op.fieldAddr 33 (Go.Operand.tmp 83) 3), type := 0, pos := "law.go:90", after := #[{ on := 31, ground := Go.Ground.data }, { on := 20, ground := Go.Ground.guard }], guard := (some (20, false)) }) (v := ?_) rfl (by kernel_rfl) (by kernel_rfl) (by kernel_rfl) (fun _ _ _ h => h) (Or.inl ⟨by rfl, (by intro w hSw; (try dsimp only at hSw); go_simp; try with_reducible rfl)⟩) (by assumption) ?_
                (try simp only [Act.put, List.setIfInBounds_toArray, List.set_cons_zero, List.set_cons_succ])
                refine wpAnyH_take (i := 33) (oi := { dst := (some 85), op := (Go.Op.load 3 (Go.Operand.tmp 84)), type := 3, pos := "law.go:90", after := #[{ on := 32, ground := Go.Ground.data }, { on := 20, ground := Go.Ground.guard }], guard := (some (20, false)) }) (v := ?_) rfl (by kernel_rfl) (by kernel_rfl) (by kernel_rfl) (fun _ _ _ h => h) (Or.inl ⟨by rfl, (by intro w hSw; (try dsimp only at hSw); go_simp; try with_reducible rfl)⟩) (by assumption) ?_
                (try simp only [Act.put, List.setIfInBounds_toArray, List.set_cons_zero, List.set_cons_succ])
                refine wpAnyH_take (i := 34) (oi := { dst := (some 86), op := (Go.Op.binOp Go.BinOp.neq 3 (Go.Operand.tmp 80) (Go.Operand.tmp 85) 3), type := 4, pos := "law.go:90", after := #[{ on := 28, ground := Go.Ground.data }, { on := 33, ground := Go.Ground.data }, { on := 20, ground := Go.Ground.guard }], guard := (some (20, false)) }) (v := ?_) rfl (by kernel_rfl) (by kernel_rfl) (by kernel_rfl) (fun _ _ _ h => h) (Or.inl ⟨by rfl, (by intro w hSw; (try dsimp only at hSw); go_simp; try with_reducible rfl)⟩) (by assumption) ?_
                (try simp only [Act.put, List.setIfInBounds_toArray, List.set_cons_zero, List.set_cons_succ])
                refine wpAnyH_take (i := 35) (oi := { dst := (some 87), op := (Go.Op.pick (Go.Operand.tmp 72) (Go.Operand.const (Go.Value.bool true)) (Go.Operand.tmp 86)), type := 4, pos := "law.go:90", after := #[{ on := 20, ground := Go.Ground.data }, { on := 34, ground := Go.Ground.data }], guard := none }) (v := ?_) rfl (by kernel_rfl) (by kernel_rfl) (by kernel_rfl) (fun _ _ _ h => h) (Or.inl ⟨by rfl, (by intro w hSw; (try dsimp only at hSw); go_simp; try with_reducible rfl)⟩) (by assumption) ?_
                (try simp only [Act.put, List.setIfInBounds_toArray, List.set_cons_zero, List.set_cons_succ])
                refine wpAnyH_take (i := 36) (oi := { dst := (some 88), op := (Go.Op.move (Go.Operand.tmp 87)), type := 4, pos := "law.go:90", after := #[{ on := 35, ground := Go.Ground.data }, { on := 20, ground := Go.Ground.chain }], guard := none }) (v := ?_) rfl (by kernel_rfl) (by kernel_rfl) (by kernel_rfl) (fun _ _ _ h => h) (Or.inl ⟨by rfl, (by intro w hSw; (try dsimp only at hSw); go_simp; try with_reducible rfl)⟩) (by assumption) ?_
                (try simp only [Act.put, List.setIfInBounds_toArray, List.set_cons_zero, List.set_cons_succ])
                refine wpAnyH_take (i := 37) (oi := { dst := (some 89), op := (Go.Op.move (Go.Operand.tmp 5)), type := 25, pos := "law.go:90", after := #[{ on := 36, ground := Go.Ground.guard }], guard := (some (36, false)) }) (v := ?_) rfl (by kernel_rfl) (by kernel_rfl) (by kernel_rfl) (fun _ _ _ h => h) (Or.inl ⟨by rfl, (by intro w hSw; (try dsimp only at hSw); go_simp; try with_reducible rfl)⟩) (by assumption) ?_
                (try simp only [Act.put, List.setIfInBounds_toArray, List.set_cons_zero, List.set_cons_succ])
                refine wpAnyH_take (i := 38) (oi := { dst := (some 90), op := (Go.Op.move (Go.Operand.tmp 7)), type := 3, pos := "law.go:90", after := #[{ on := 36, ground := Go.Ground.guard }], guard := (some (36, false)) }) (v := ?_) rfl (by kernel_rfl) (by kernel_rfl) (by kernel_rfl) (fun _ _ _ h => h) (Or.inl ⟨by rfl, (by intro w hSw; (try dsimp only at hSw); go_simp; try with_reducible rfl)⟩) (by assumption) ?_
                (try simp only [Act.put, List.setIfInBounds_toArray, List.set_cons_zero, List.set_cons_succ])
                refine wpAnyH_take (i := 39) (oi := { dst := (some 91), op := (Go.Op.indexAddr 25 (Go.Operand.tmp 89) (Go.Operand.tmp 90)), type := 0, pos := "law.go:90", after := #[{ on := 37, ground := Go.Ground.data }, { on := 38, ground := Go.Ground.data }, { on := 36, ground := Go.Ground.guard }], guard := (some (36, false)) }) (v := ?_) rfl (by kernel_rfl) (by kernel_rfl) (by kernel_rfl) (fun _ _ _ h => h) (Or.inl ⟨by rfl, (by intro w hSw; (try dsimp only at hSw); go_simp; try with_reducible rfl)⟩) (by assumption) ?_
                (try simp only [Act.put, List.setIfInBounds_toArray, List.set_cons_zero, List.set_cons_succ])
                refine wpAnyH_take (i := 40) (oi := { dst := (some 92), op := (Go.Op.fieldAddr 33 (Go.Operand.tmp 91) 2), type := 0, pos := "law.go:90", after := #[{ on := 39, ground := Go.Ground.data }, { on := 36, ground := Go.Ground.guard }], guard := (some (36, false)) }) (v := ?_) rfl (by kernel_rfl) (by kernel_rfl) (by kernel_rfl) (fun _ _ _ h => h) (Or.inl ⟨by rfl, (by intro w hSw; (try dsimp only at hSw); go_simp; try with_reducible rfl)⟩) (by assumption) ?_
                (try simp only [Act.put, List.setIfInBounds_toArray, List.set_cons_zero, List.set_cons_succ])
                refine wpAnyH_take (i := 41) (oi := { dst := (some 93), op := (Go.Op.load 3 (Go.Operand.tmp 92)), type := 3, pos := "law.go:90", after := #[{ on := 40, ground := Go.Ground.data }, { on := 36, ground := Go.Ground.guard }], guard := (some (36, false)) }) (v := ?_) rfl (by kernel_rfl) (by kernel_rfl) (by kernel_rfl) (fun _ _ _ h => h) (Or.inl ⟨by rfl, (by intro w hSw; (try dsimp only at hSw); go_simp; try with_reducible rfl)⟩) (by assumption) ?_
                (try simp only [Act.put, List.setIfInBounds_toArray, List.set_cons_zero, List.set_cons_succ])
                refine wpAnyH_take (i := 42) (oi := { dst := (some 94), op := (Go.Op.binOp Go.BinOp.eql 3 (Go.Operand.tmp 93) (Go.Operand.const (Go.Value.int Go.IntKind.i64 10)) 3), type := 4, pos := "law.go:90", after := #[{ on := 41, ground := Go.Ground.data }, { on := 36, ground := Go.Ground.guard }], guard := (some (36, false)) }) (v := ?_) rfl (by kernel_rfl) (by kernel_rfl) (by kernel_rfl) (fun _ _ _ h => h) (Or.inl ⟨by rfl, (by intro w hSw; (try dsimp only at hSw); go_simp; try with_reducible rfl)⟩) (by assumption) ?_
                (try simp only [Act.put, List.setIfInBounds_toArray, List.set_cons_zero, List.set_cons_succ])
                refine wpAnyH_take (i := 43) (oi := { dst := (some 95), op := (Go.Op.move (Go.Operand.tmp 94)), type := 4, pos := "law.go:90", after := #[{ on := 42, ground := Go.Ground.data }, { on := 36, ground := Go.Ground.chain }, { on := 36, ground := Go.Ground.guard }], guard := (some (36, false)) }) (v := ?_) rfl (by kernel_rfl) (by kernel_rfl) (by kernel_rfl) (fun _ _ _ h => h) (Or.inl ⟨by rfl, (by intro w hSw; (try dsimp only at hSw); go_simp; try with_reducible rfl)⟩) (by assumption) ?_
                (try simp only [Act.put, List.setIfInBounds_toArray, List.set_cons_zero, List.set_cons_succ])
                refine wpAnyH_take (i := 44) (oi := { dst := (some 96), op := (Go.Op.fieldAddr 27 (Go.Operand.tmp 3) 6), type := 0, pos := "law.go:90", after := #[{ on := 43, ground := Go.Ground.guard }], guard := (some (43, true)) }) (v := ?_) rfl (by kernel_rfl) (by kernel_rfl) (by kernel_rfl) (fun _ _ _ h => h) (Or.inl ⟨by rfl, (by intro w hSw; (try dsimp only at hSw); go_simp; try with_reducible rfl)⟩) (by assumption) ?_
                (try simp only [Act.put, List.setIfInBounds_toArray, List.set_cons_zero, List.set_cons_succ])
                refine wpAnyH_take (i := 45) (oi := { dst := (some 97), op := (Go.Op.load 4 (Go.Operand.tmp 96)), type := 4, pos := "law.go:90", after := #[{ on := 44, ground := Go.Ground.data }, { on := 43, ground := Go.Ground.guard }], guard := (some (43, true)) }) (v := ?_) rfl (by kernel_rfl) (by kernel_rfl) (by kernel_rfl) (fun _ _ _ h => h) (Or.inl ⟨by rfl, (by intro w hSw; (try dsimp only at hSw); go_simp; try with_reducible rfl)⟩) (by assumption) ?_
                (try simp only [Act.put, List.setIfInBounds_toArray, List.set_cons_zero, List.set_cons_succ])
                refine wpAnyH_take (i := 46) (oi := { dst := (some 98), op := (Go.Op.unOp Go.UnOp.not 4 (Go.Operand.tmp 97)), type := 4, pos := "law.go:90", after := #[{ on := 45, ground := Go.Ground.data }, { on := 43, ground := Go.Ground.guard }], guard := (some (43, true)) }) (v := ?_) rfl (by kernel_rfl) (by kernel_rfl) (by kernel_rfl) (fun _ _ _ h => h) (Or.inl ⟨by rfl, (by intro w hSw; (try dsimp only at hSw); go_simp; try with_reducible rfl)⟩) (by assumption) ?_
                (try simp only [Act.put, List.setIfInBounds_toArray, List.set_cons_zero, List.set_cons_succ])
                refine wpAnyH_take (i := 47) (oi := { dst := (some 99), op := (Go.Op.pick (Go.Operand.tmp 95) (Go.Operand.tmp 98) (Go.Operand.const (Go.Value.bool false))), type := 4, pos := "law.go:90", after := #[{ on := 43, ground := Go.Ground.data }, { on := 46, ground := Go.Ground.data }, { on := 36, ground := Go.Ground.guard }], guard := (some (36, false)) }) (v := ?_) rfl (by kernel_rfl) (by kernel_rfl) (by kernel_rfl) (fun _ _ _ h => h) (Or.inl ⟨by rfl, (by intro w hSw; (try dsimp only at hSw); go_simp; try with_reducible rfl)⟩) (by assumption) ?_
                (try simp only [Act.put, List.setIfInBounds_toArray, List.set_cons_zero, List.set_cons_succ])
                refine wpAnyH_take (i := 48) (oi := { dst := (some 100), op := (Go.Op.pick (Go.Operand.tmp 88) (Go.Operand.const (Go.Value.bool true)) (Go.Operand.tmp 99)), type := 4, pos := "law.go:90", after := #[{ on := 36, ground := Go.Ground.data }, { on := 47, ground := Go.Ground.data }], guard := none }) (v := ?_) rfl (by kernel_rfl) (by kernel_rfl) (by kernel_rfl) (fun _ _ _ h => h) (Or.inl ⟨by rfl, (by intro w hSw; (try dsimp only at hSw); go_simp; try with_reducible rfl)⟩) (by assumption) ?_
                (try simp only [Act.put, List.setIfInBounds_toArray, List.set_cons_zero, List.set_cons_succ])
                refine wpAnyH_done (by kernel_rfl) ?_ _
                go_wp2
                go_roundg g1
                case measure => omega
                case rel => exact ⟨k + 1, i + 1, by have := HI.out; omega, by go_num, by go_num, by omega, ⟨FtRel.next HAh.out HP.out HBX.out (Upd.trans HV2.out (Upd.trans ((Upd.refl _ w2).drew) HU3.out (fun _ _ h => h)) (fun _ _ h => h))⟩, ⟨Upd.trans HW.out (Upd.trans HV2.out (Upd.trans ((Upd.refl _ w2).drew) HU3.out (fun _ _ h => h)) (fun _ _ h => h)) (fun _ _ h => h)⟩⟩
              · have e6 : (y.n == 10) = false := by simp [h10]
                clear h10 R5
                refine wp_region_held_drew (S := (fun w' => (w'.cell? ⟨b, o + k * 4, none⟩ = some (.int .i64 t.k) ∧ w'.cell? ⟨b, o + k * 4 + 1, none⟩ = some (.int .i64 t.t) ∧ w'.cell? ⟨b, o + k * 4 + 2, none⟩ = some (.int .i64 t.n) ∧ w'.cell? ⟨b, o + k * 4 + 3, none⟩ = some (.int .i64 t.m)) ∧ (w'.cell? ⟨b', o' + i * 4, none⟩ = some (.int .i64 y.k) ∧ w'.cell? ⟨b', o' + i * 4 + 1, none⟩ = some (.int .i64 y.t) ∧ w'.cell? ⟨b', o' + i * 4 + 2, none⟩ = some (.int .i64 y.n) ∧ w'.cell? ⟨b', o' + i * 4 + 3, none⟩ = some (.int .i64 y.m)) ∧ (w'.cell? ⟨w.heap.size, 3, none⟩ = some (.int .i64 s.marks) ∧ w'.cell? ⟨w.heap.size, 6, none⟩ = some (.bool s.lines)) ∧ b < w'.heap.size ∧ b' < w'.heap.size ∧ w.heap.size < w'.heap.size)) (by kernel_rfl) ?_ (fun hHeld => ?_)
                · (first | exact RoundS.drew hS1 | exact RoundS.keep (by assumption) (by assumption))
                refine wpAnyH_take (i := 0) (oi := { dst := (some 52), op := (Go.Op.move (Go.Operand.tmp 6)), type := 3, pos := "law.go:90", after := #[], guard := none }) (v := ?_) rfl (by kernel_rfl) (by kernel_rfl) (by kernel_rfl) (fun _ _ _ h => h) (Or.inl ⟨by rfl, (by intro w hSw; (try dsimp only at hSw); go_simp; try with_reducible rfl)⟩) (by assumption) ?_
                (try simp only [Act.put, List.setIfInBounds_toArray, List.set_cons_zero, List.set_cons_succ])
                refine wpAnyH_take (i := 1) (oi := { dst := (some 53), op := (Go.Op.move (Go.Operand.tmp 0)), type := 25, pos := "law.go:90", after := #[], guard := none }) (v := ?_) rfl (by kernel_rfl) (by kernel_rfl) (by kernel_rfl) (fun _ _ _ h => h) (Or.inl ⟨by rfl, (by intro w hSw; (try dsimp only at hSw); go_simp; try with_reducible rfl)⟩) (by assumption) ?_
                (try simp only [Act.put, List.setIfInBounds_toArray, List.set_cons_zero, List.set_cons_succ])
                refine wpAnyH_take (i := 2) (oi := { dst := (some 54), op := (Go.Op.call { callee := (Go.Callee.builtin Go.Builtin.len), args := #[(Go.Operand.tmp 53)], argTypes := #[25] }), type := 3, pos := "law.go:90", after := #[{ on := 1, ground := Go.Ground.data }], guard := none }) (v := ?_) rfl (by kernel_rfl) (by kernel_rfl) (by kernel_rfl) (fun _ _ _ h => h) (Or.inl ⟨by rfl, (by intro w hSw; (try dsimp only at hSw); go_simp; try with_reducible rfl)⟩) (by assumption) ?_
                (try simp only [Act.put, List.setIfInBounds_toArray, List.set_cons_zero, List.set_cons_succ])
                refine wpAnyH_take (i := 3) (oi := { dst := (some 55), op := (Go.Op.binOp Go.BinOp.eql 3 (Go.Operand.tmp 52) (Go.Operand.tmp 54) 3), type := 4, pos := "law.go:90", after := #[{ on := 0, ground := Go.Ground.data }, { on := 2, ground := Go.Ground.data }], guard := none }) (v := ?_) rfl (by kernel_rfl) (by kernel_rfl) (by kernel_rfl) (fun _ _ _ h => h) (Or.inl ⟨by rfl, (by intro w hSw; (try dsimp only at hSw); go_simp; try with_reducible rfl)⟩) (by assumption) ?_
                (try simp only [Act.put, List.setIfInBounds_toArray, List.set_cons_zero, List.set_cons_succ])
                refine wpAnyH_take (i := 4) (oi := { dst := (some 56), op := (Go.Op.move (Go.Operand.tmp 55)), type := 4, pos := "law.go:90", after := #[{ on := 3, ground := Go.Ground.data }], guard := none }) (v := ?_) rfl (by kernel_rfl) (by kernel_rfl) (by kernel_rfl) (fun _ _ _ h => h) (Or.inl ⟨by rfl, (by intro w hSw; (try dsimp only at hSw); go_simp; try with_reducible rfl)⟩) (by assumption) ?_
                (try simp only [Act.put, List.setIfInBounds_toArray, List.set_cons_zero, List.set_cons_succ])
                refine wpAnyH_take (i := 5) (oi := { dst := (some 57), op := (Go.Op.move (Go.Operand.tmp 5)), type := 25, pos := "law.go:90", after := #[{ on := 4, ground := Go.Ground.guard }], guard := (some (4, false)) }) (v := ?_) rfl (by kernel_rfl) (by kernel_rfl) (by kernel_rfl) (fun _ _ _ h => h) (Or.inl ⟨by rfl, (by intro w hSw; (try dsimp only at hSw); go_simp; try with_reducible rfl)⟩) (by assumption) ?_
                (try simp only [Act.put, List.setIfInBounds_toArray, List.set_cons_zero, List.set_cons_succ])
                refine wpAnyH_take (i := 6) (oi := { dst := (some 58), op := (Go.Op.move (Go.Operand.tmp 7)), type := 3, pos := "law.go:90", after := #[{ on := 4, ground := Go.Ground.guard }], guard := (some (4, false)) }) (v := ?_) rfl (by kernel_rfl) (by kernel_rfl) (by kernel_rfl) (fun _ _ _ h => h) (Or.inl ⟨by rfl, (by intro w hSw; (try dsimp only at hSw); go_simp; try with_reducible rfl)⟩) (by assumption) ?_
                (try simp only [Act.put, List.setIfInBounds_toArray, List.set_cons_zero, List.set_cons_succ])
                refine wpAnyH_take (i := 7) (oi := { dst := (some 59), op := (Go.Op.indexAddr 25 (Go.Operand.tmp 57) (Go.Operand.tmp 58)), type := 0, pos := "law.go:90", after := #[{ on := 5, ground := Go.Ground.data }, { on := 6, ground := Go.Ground.data }, { on := 4, ground := Go.Ground.guard }], guard := (some (4, false)) }) (v := ?_) rfl (by kernel_rfl) (by kernel_rfl) (by kernel_rfl) (fun _ _ _ h => h) (Or.inl ⟨by rfl, (by intro w hSw; (try dsimp only at hSw); go_simp; try with_reducible rfl)⟩) (by assumption) ?_
                (try simp only [Act.put, List.setIfInBounds_toArray, List.set_cons_zero, List.set_cons_succ])
                refine wpAnyH_take (i := 8) (oi := { dst := (some 60), op := (Go.Op.load 33 (Go.Operand.tmp 59)), type := 33, pos := "law.go:90", after := #[{ on := 7, ground := Go.Ground.data }, { on := 4, ground := Go.Ground.guard }], guard := (some (4, false)) }) (v := ?_) rfl (by kernel_rfl) (by kernel_rfl) (by kernel_rfl) (fun _ _ _ h => h) (Or.inl ⟨by rfl, (by intro w hSw; (try dsimp only at hSw); go_simp; try with_reducible rfl)⟩) (by assumption) ?_
                (try simp only [Act.put, List.setIfInBounds_toArray, List.set_cons_zero, List.set_cons_succ])
                refine wpAnyH_ready (rs := [9]) (by kernel_rfl) (by simp) (AllReadyH.cons (o := { dst := (some 61), op := (Go.Op.call { callee := (Go.Callee.value (Go.Operand.func 15)), args := #[(Go.Operand.tmp 60)], argTypes := #[33] }), type := 4, pos := "law.go:90", after := #[{ on := 8, ground := Go.Ground.data }, { on := 4, ground := Go.Ground.chain }, { on := 4, ground := Go.Ground.guard }], guard := (some (4, false)) }) rfl (fun K hK => ?_) AllReadyH.nil)
                go_simp
                refine (flatRight_is R3.out _).mono ?_; rintro e w3 ⟨rfl, hu⟩; have HZ3 := Stp.mk hu; have HU3 := As.mk hu; clear hu; go_wp2_with fail
                refine hK.out _ _ (by (first | exact RoundS.drew hS1 | exact RoundS.keep (by assumption) (by assumption))) (fun hHeld => ?_)
                clear hK K
                (try simp only [Act.put, List.setIfInBounds_toArray, List.set_cons_zero, List.set_cons_succ])
                refine wpAnyH_take (i := 10) (oi := { dst := (some 62), op := (Go.Op.unOp Go.UnOp.not 4 (Go.Operand.tmp 61)), type := 4, pos := "law.go:90", after := #[{ on := 9, ground := Go.Ground.data }, { on := 4, ground := Go.Ground.guard }], guard := (some (4, false)) }) (v := ?_) rfl (by kernel_rfl) (by kernel_rfl) (by kernel_rfl) (fun _ _ _ h => h) (Or.inl ⟨by rfl, (by intro w hSw; (try dsimp only at hSw); go_simp; try with_reducible rfl)⟩) (by assumption) ?_
                (try simp only [Act.put, List.setIfInBounds_toArray, List.set_cons_zero, List.set_cons_succ])
                refine wpAnyH_take (i := 11) (oi := { dst := (some 63), op := (Go.Op.pick (Go.Operand.tmp 56) (Go.Operand.const (Go.Value.bool true)) (Go.Operand.tmp 62)), type := 4, pos := "law.go:90", after := #[{ on := 4, ground := Go.Ground.data }, { on := 10, ground := Go.Ground.data }], guard := none }) (v := ?_) rfl (by kernel_rfl) (by kernel_rfl) (by kernel_rfl) (fun _ _ _ h => h) (Or.inl ⟨by rfl, (by intro w hSw; (try dsimp only at hSw); go_simp; try with_reducible rfl)⟩) (by assumption) ?_
                (try simp only [Act.put, List.setIfInBounds_toArray, List.set_cons_zero, List.set_cons_succ])
                refine wpAnyH_take (i := 12) (oi := { dst := (some 64), op := (Go.Op.move (Go.Operand.tmp 63)), type := 4, pos := "law.go:90", after := #[{ on := 11, ground := Go.Ground.data }, { on := 9, ground := Go.Ground.chain }], guard := none }) (v := ?_) rfl (by kernel_rfl) (by kernel_rfl) (by kernel_rfl) (fun _ _ _ h => h) (Or.inl ⟨by rfl, (by intro w hSw; (try dsimp only at hSw); go_simp; try with_reducible rfl)⟩) (by assumption) ?_
                (try simp only [Act.put, List.setIfInBounds_toArray, List.set_cons_zero, List.set_cons_succ])
                refine wpAnyH_take (i := 13) (oi := { dst := (some 65), op := (Go.Op.move (Go.Operand.tmp 5)), type := 25, pos := "law.go:90", after := #[{ on := 12, ground := Go.Ground.guard }], guard := (some (12, false)) }) (v := ?_) rfl (by kernel_rfl) (by kernel_rfl) (by kernel_rfl) (fun _ _ _ h => h) (Or.inl ⟨by rfl, (by intro w hSw; (try dsimp only at hSw); go_simp; try with_reducible rfl)⟩) (by assumption) ?_
                (try simp only [Act.put, List.setIfInBounds_toArray, List.set_cons_zero, List.set_cons_succ])
                refine wpAnyH_take (i := 14) (oi := { dst := (some 66), op := (Go.Op.move (Go.Operand.tmp 7)), type := 3, pos := "law.go:90", after := #[{ on := 12, ground := Go.Ground.guard }], guard := (some (12, false)) }) (v := ?_) rfl (by kernel_rfl) (by kernel_rfl) (by kernel_rfl) (fun _ _ _ h => h) (Or.inl ⟨by rfl, (by intro w hSw; (try dsimp only at hSw); go_simp; try with_reducible rfl)⟩) (by assumption) ?_
                (try simp only [Act.put, List.setIfInBounds_toArray, List.set_cons_zero, List.set_cons_succ])
                refine wpAnyH_take (i := 15) (oi := { dst := (some 67), op := (Go.Op.indexAddr 25 (Go.Operand.tmp 65) (Go.Operand.tmp 66)), type := 0, pos := "law.go:90", after := #[{ on := 13, ground := Go.Ground.data }, { on := 14, ground := Go.Ground.data }, { on := 12, ground := Go.Ground.guard }], guard := (some (12, false)) }) (v := ?_) rfl (by kernel_rfl) (by kernel_rfl) (by kernel_rfl) (fun _ _ _ h => h) (Or.inl ⟨by rfl, (by intro w hSw; (try dsimp only at hSw); go_simp; try with_reducible rfl)⟩) (by assumption) ?_
                (try simp only [Act.put, List.setIfInBounds_toArray, List.set_cons_zero, List.set_cons_succ])
                refine wpAnyH_take (i := 16) (oi := { dst := (some 68), op := (Go.Op.fieldAddr 33 (Go.Operand.tmp 67) 0), type := 0, pos := "law.go:90", after := #[{ on := 15, ground := Go.Ground.data }, { on := 12, ground := Go.Ground.guard }], guard := (some (12, false)) }) (v := ?_) rfl (by kernel_rfl) (by kernel_rfl) (by kernel_rfl) (fun _ _ _ h => h) (Or.inl ⟨by rfl, (by intro w hSw; (try dsimp only at hSw); go_simp; try with_reducible rfl)⟩) (by assumption) ?_
                (try simp only [Act.put, List.setIfInBounds_toArray, List.set_cons_zero, List.set_cons_succ])
                refine wpAnyH_take (i := 17) (oi := { dst := (some 69), op := (Go.Op.load 3 (Go.Operand.tmp 68)), type := 3, pos := "law.go:90", after := #[{ on := 16, ground := Go.Ground.data }, { on := 12, ground := Go.Ground.guard }], guard := (some (12, false)) }) (v := ?_) rfl (by kernel_rfl) (by kernel_rfl) (by kernel_rfl) (fun _ _ _ h => h) (Or.inl ⟨by rfl, (by intro w hSw; (try dsimp only at hSw); go_simp; try with_reducible rfl)⟩) (by assumption) ?_
                (try simp only [Act.put, List.setIfInBounds_toArray, List.set_cons_zero, List.set_cons_succ])
                refine wpAnyH_take (i := 18) (oi := { dst := (some 70), op := (Go.Op.binOp Go.BinOp.neq 3 (Go.Operand.tmp 69) (Go.Operand.const (Go.Value.int Go.IntKind.i64 0)) 3), type := 4, pos := "law.go:90", after := #[{ on := 17, ground := Go.Ground.data }, { on := 12, ground := Go.Ground.guard }], guard := (some (12, false)) }) (v := ?_) rfl (by kernel_rfl) (by kernel_rfl) (by kernel_rfl) (fun _ _ _ h => h) (Or.inl ⟨by rfl, (by intro w hSw; (try dsimp only at hSw); go_simp; try with_reducible rfl)⟩) (by assumption) ?_
                (try simp only [Act.put, List.setIfInBounds_toArray, List.set_cons_zero, List.set_cons_succ])
                refine wpAnyH_take (i := 19) (oi := { dst := (some 71), op := (Go.Op.pick (Go.Operand.tmp 64) (Go.Operand.const (Go.Value.bool true)) (Go.Operand.tmp 70)), type := 4, pos := "law.go:90", after := #[{ on := 12, ground := Go.Ground.data }, { on := 18, ground := Go.Ground.data }], guard := none }) (v := ?_) rfl (by kernel_rfl) (by kernel_rfl) (by kernel_rfl) (fun _ _ _ h => h) (Or.inl ⟨by rfl, (by intro w hSw; (try dsimp only at hSw); go_simp; try with_reducible rfl)⟩) (by assumption) ?_
                (try simp only [Act.put, List.setIfInBounds_toArray, List.set_cons_zero, List.set_cons_succ])
                refine wpAnyH_take (i := 20) (oi := { dst := (some 72), op := (Go.Op.move (Go.Operand.tmp 71)), type := 4, pos := "law.go:90", after := #[{ on := 19, ground := Go.Ground.data }, { on := 12, ground := Go.Ground.chain }], guard := none }) (v := ?_) rfl (by kernel_rfl) (by kernel_rfl) (by kernel_rfl) (fun _ _ _ h => h) (Or.inl ⟨by rfl, (by intro w hSw; (try dsimp only at hSw); go_simp; try with_reducible rfl)⟩) (by assumption) ?_
                (try simp only [Act.put, List.setIfInBounds_toArray, List.set_cons_zero, List.set_cons_succ])
                refine wpAnyH_take (i := 21) (oi := { dst := (some 73), op := (Go.Op.move (Go.Operand.tmp 5)), type := 25, pos := "law.go:90", after := #[{ on := 20, ground := Go.Ground.guard }], guard := (some (20, false)) }) (v := ?_) rfl (by kernel_rfl) (by kernel_rfl) (by kernel_rfl) (fun _ _ _ h => h) (Or.inl ⟨by rfl, (by intro w hSw; (try dsimp only at hSw); go_simp; try with_reducible rfl)⟩) (by assumption) ?_
                (try simp only [Act.put, List.setIfInBounds_toArray, List.set_cons_zero, List.set_cons_succ])
                refine wpAnyH_take (i := 22) (oi := { dst := (some 74), op := (Go.Op.move (Go.Operand.tmp 7)), type := 3, pos := "law.go:90", after := #[{ on := 20, ground := Go.Ground.guard }], guard := (some (20, false)) }) (v := ?_) rfl (by kernel_rfl) (by kernel_rfl) (by kernel_rfl) (fun _ _ _ h => h) (Or.inl ⟨by rfl, (by intro w hSw; (try dsimp only at hSw); go_simp; try with_reducible rfl)⟩) (by assumption) ?_
                (try simp only [Act.put, List.setIfInBounds_toArray, List.set_cons_zero, List.set_cons_succ])
                refine wpAnyH_take (i := 23) (oi := { dst := (some 75), op := (Go.Op.indexAddr 25 (Go.Operand.tmp 73) (Go.Operand.tmp 74)), type := 0, pos := "law.go:90", after := #[{ on := 21, ground := Go.Ground.data }, { on := 22, ground := Go.Ground.data }, { on := 20, ground := Go.Ground.guard }], guard := (some (20, false)) }) (v := ?_) rfl (by kernel_rfl) (by kernel_rfl) (by kernel_rfl) (fun _ _ _ h => h) (Or.inl ⟨by rfl, (by intro w hSw; (try dsimp only at hSw); go_simp; try with_reducible rfl)⟩) (by assumption) ?_
                (try simp only [Act.put, List.setIfInBounds_toArray, List.set_cons_zero, List.set_cons_succ])
                refine wpAnyH_take (i := 24) (oi := { dst := (some 76), op := (Go.Op.fieldAddr 33 (Go.Operand.tmp 75) 3), type := 0, pos := "law.go:90", after := #[{ on := 23, ground := Go.Ground.data }, { on := 20, ground := Go.Ground.guard }], guard := (some (20, false)) }) (v := ?_) rfl (by kernel_rfl) (by kernel_rfl) (by kernel_rfl) (fun _ _ _ h => h) (Or.inl ⟨by rfl, (by intro w hSw; (try dsimp only at hSw); go_simp; try with_reducible rfl)⟩) (by assumption) ?_
                (try simp only [Act.put, List.setIfInBounds_toArray, List.set_cons_zero, List.set_cons_succ])
                refine wpAnyH_take (i := 25) (oi := { dst := (some 77), op := (Go.Op.load 3 (Go.Operand.tmp 76)), type := 3, pos := "law.go:90", after := #[{ on := 24, ground := Go.Ground.data }, { on := 20, ground := Go.Ground.guard }], guard := (some (20, false)) }) (v := ?_) rfl (by kernel_rfl) (by kernel_rfl) (by kernel_rfl) (fun _ _ _ h => h) (Or.inl ⟨by rfl, (by intro w hSw; (try dsimp only at hSw); go_simp; try with_reducible rfl)⟩) (by assumption) ?_
                (try simp only [Act.put, List.setIfInBounds_toArray, List.set_cons_zero, List.set_cons_succ])
                refine wpAnyH_take (i := 26) (oi := { dst := (some 78), op := (Go.Op.fieldAddr 27 (Go.Operand.tmp 3) 3), type := 0, pos := "law.go:90", after := #[{ on := 20, ground := Go.Ground.guard }], guard := (some (20, false)) }) (v := ?_) rfl (by kernel_rfl) (by kernel_rfl) (by kernel_rfl) (fun _ _ _ h => h) (Or.inl ⟨by rfl, (by intro w hSw; (try dsimp only at hSw); go_simp; try with_reducible rfl)⟩) (by assumption) ?_
                (try simp only [Act.put, List.setIfInBounds_toArray, List.set_cons_zero, List.set_cons_succ])
                refine wpAnyH_take (i := 27) (oi := { dst := (some 79), op := (Go.Op.load 3 (Go.Operand.tmp 78)), type := 3, pos := "law.go:90", after := #[{ on := 26, ground := Go.Ground.data }, { on := 20, ground := Go.Ground.guard }], guard := (some (20, false)) }) (v := ?_) rfl (by kernel_rfl) (by kernel_rfl) (by kernel_rfl) (fun _ _ _ h => h) (Or.inl ⟨by rfl, (by intro w hSw; (try dsimp only at hSw); go_simp; try with_reducible rfl)⟩) (by assumption) ?_
                (try simp only [Act.put, List.setIfInBounds_toArray, List.set_cons_zero, List.set_cons_succ])
                refine wpAnyH_take (i := 28) (oi := { dst := (some 80), op := (Go.Op.binOp Go.BinOp.and 3 (Go.Operand.tmp 77) (Go.Operand.tmp 79) 3), type := 3, pos := "law.go:90", after := #[{ on := 25, ground := Go.Ground.data }, { on := 27, ground := Go.Ground.data }, { on := 20, ground := Go.Ground.guard }], guard := (some (20, false)) }) (v := ?_) rfl (by kernel_rfl) (by kernel_rfl) (by kernel_rfl) (fun _ _ _ h => h) (Or.inl ⟨by rfl, (by intro w hSw; (try dsimp only at hSw); go_simp; try with_reducible rfl)⟩) (by assumption) ?_
                (try simp only [Act.put, List.setIfInBounds_toArray, List.set_cons_zero, List.set_cons_succ])
                refine wpAnyH_take (i := 29) (oi := { dst := (some 81), op := (Go.Op.move (Go.Operand.tmp 5)), type := 25, pos := "law.go:90", after := #[{ on := 20, ground := Go.Ground.guard }], guard := (some (20, false)) }) (v := ?_) rfl (by kernel_rfl) (by kernel_rfl) (by kernel_rfl) (fun _ _ _ h => h) (Or.inl ⟨by rfl, (by intro w hSw; (try dsimp only at hSw); go_simp; try with_reducible rfl)⟩) (by assumption) ?_
                (try simp only [Act.put, List.setIfInBounds_toArray, List.set_cons_zero, List.set_cons_succ])
                refine wpAnyH_take (i := 30) (oi := { dst := (some 82), op := (Go.Op.move (Go.Operand.tmp 7)), type := 3, pos := "law.go:90", after := #[{ on := 20, ground := Go.Ground.guard }], guard := (some (20, false)) }) (v := ?_) rfl (by kernel_rfl) (by kernel_rfl) (by kernel_rfl) (fun _ _ _ h => h) (Or.inl ⟨by rfl, (by intro w hSw; (try dsimp only at hSw); go_simp; try with_reducible rfl)⟩) (by assumption) ?_
                (try simp only [Act.put, List.setIfInBounds_toArray, List.set_cons_zero, List.set_cons_succ])
                refine wpAnyH_take (i := 31) (oi := { dst := (some 83), op := (Go.Op.indexAddr 25 (Go.Operand.tmp 81) (Go.Operand.tmp 82)), type := 0, pos := "law.go:90", after := #[{ on := 29, ground := Go.Ground.data }, { on := 30, ground := Go.Ground.data }, { on := 20, ground := Go.Ground.guard }], guard := (some (20, false)) }) (v := ?_) rfl (by kernel_rfl) (by kernel_rfl) (by kernel_rfl) (fun _ _ _ h => h) (Or.inl ⟨by rfl, (by intro w hSw; (try dsimp only at hSw); go_simp; try with_reducible rfl)⟩) (by assumption) ?_
                (try simp only [Act.put, List.setIfInBounds_toArray, List.set_cons_zero, List.set_cons_succ])
                refine wpAnyH_take (i := 32) (oi := { dst := (some 84), op := (Go.Op.fieldAddr 33 (Go.Operand.tmp 83) 3), type := 0, pos := "law.go:90", after := #[{ on := 31, ground := Go.Ground.data }, { on := 20, ground := Go.Ground.guard }], guard := (some (20, false)) }) (v := ?_) rfl (by kernel_rfl) (by kernel_rfl) (by kernel_rfl) (fun _ _ _ h => h) (Or.inl ⟨by rfl, (by intro w hSw; (try dsimp only at hSw); go_simp; try with_reducible rfl)⟩) (by assumption) ?_
                (try simp only [Act.put, List.setIfInBounds_toArray, List.set_cons_zero, List.set_cons_succ])
                refine wpAnyH_take (i := 33) (oi := { dst := (some 85), op := (Go.Op.load 3 (Go.Operand.tmp 84)), type := 3, pos := "law.go:90", after := #[{ on := 32, ground := Go.Ground.data }, { on := 20, ground := Go.Ground.guard }], guard := (some (20, false)) }) (v := ?_) rfl (by kernel_rfl) (by kernel_rfl) (by kernel_rfl) (fun _ _ _ h => h) (Or.inl ⟨by rfl, (by intro w hSw; (try dsimp only at hSw); go_simp; try with_reducible rfl)⟩) (by assumption) ?_
                (try simp only [Act.put, List.setIfInBounds_toArray, List.set_cons_zero, List.set_cons_succ])
                refine wpAnyH_take (i := 34) (oi := { dst := (some 86), op := (Go.Op.binOp Go.BinOp.neq 3 (Go.Operand.tmp 80) (Go.Operand.tmp 85) 3), type := 4, pos := "law.go:90", after := #[{ on := 28, ground := Go.Ground.data }, { on := 33, ground := Go.Ground.data }, { on := 20, ground := Go.Ground.guard }], guard := (some (20, false)) }) (v := ?_) rfl (by kernel_rfl) (by kernel_rfl) (by kernel_rfl) (fun _ _ _ h => h) (Or.inl ⟨by rfl, (by intro w hSw; (try dsimp only at hSw); go_simp; try with_reducible rfl)⟩) (by assumption) ?_
                (try simp only [Act.put, List.setIfInBounds_toArray, List.set_cons_zero, List.set_cons_succ])
                refine wpAnyH_take (i := 35) (oi := { dst := (some 87), op := (Go.Op.pick (Go.Operand.tmp 72) (Go.Operand.const (Go.Value.bool true)) (Go.Operand.tmp 86)), type := 4, pos := "law.go:90", after := #[{ on := 20, ground := Go.Ground.data }, { on := 34, ground := Go.Ground.data }], guard := none }) (v := ?_) rfl (by kernel_rfl) (by kernel_rfl) (by kernel_rfl) (fun _ _ _ h => h) (Or.inl ⟨by rfl, (by intro w hSw; (try dsimp only at hSw); go_simp; try with_reducible rfl)⟩) (by assumption) ?_
                (try simp only [Act.put, List.setIfInBounds_toArray, List.set_cons_zero, List.set_cons_succ])
                refine wpAnyH_take (i := 36) (oi := { dst := (some 88), op := (Go.Op.move (Go.Operand.tmp 87)), type := 4, pos := "law.go:90", after := #[{ on := 35, ground := Go.Ground.data }, { on := 20, ground := Go.Ground.chain }], guard := none }) (v := ?_) rfl (by kernel_rfl) (by kernel_rfl) (by kernel_rfl) (fun _ _ _ h => h) (Or.inl ⟨by rfl, (by intro w hSw; (try dsimp only at hSw); go_simp; try with_reducible rfl)⟩) (by assumption) ?_
                (try simp only [Act.put, List.setIfInBounds_toArray, List.set_cons_zero, List.set_cons_succ])
                refine wpAnyH_take (i := 37) (oi := { dst := (some 89), op := (Go.Op.move (Go.Operand.tmp 5)), type := 25, pos := "law.go:90", after := #[{ on := 36, ground := Go.Ground.guard }], guard := (some (36, false)) }) (v := ?_) rfl (by kernel_rfl) (by kernel_rfl) (by kernel_rfl) (fun _ _ _ h => h) (Or.inl ⟨by rfl, (by intro w hSw; (try dsimp only at hSw); go_simp; try with_reducible rfl)⟩) (by assumption) ?_
                (try simp only [Act.put, List.setIfInBounds_toArray, List.set_cons_zero, List.set_cons_succ])
                refine wpAnyH_take (i := 38) (oi := { dst := (some 90), op := (Go.Op.move (Go.Operand.tmp 7)), type := 3, pos := "law.go:90", after := #[{ on := 36, ground := Go.Ground.guard }], guard := (some (36, false)) }) (v := ?_) rfl (by kernel_rfl) (by kernel_rfl) (by kernel_rfl) (fun _ _ _ h => h) (Or.inl ⟨by rfl, (by intro w hSw; (try dsimp only at hSw); go_simp; try with_reducible rfl)⟩) (by assumption) ?_
                (try simp only [Act.put, List.setIfInBounds_toArray, List.set_cons_zero, List.set_cons_succ])
                refine wpAnyH_take (i := 39) (oi := { dst := (some 91), op := (Go.Op.indexAddr 25 (Go.Operand.tmp 89) (Go.Operand.tmp 90)), type := 0, pos := "law.go:90", after := #[{ on := 37, ground := Go.Ground.data }, { on := 38, ground := Go.Ground.data }, { on := 36, ground := Go.Ground.guard }], guard := (some (36, false)) }) (v := ?_) rfl (by kernel_rfl) (by kernel_rfl) (by kernel_rfl) (fun _ _ _ h => h) (Or.inl ⟨by rfl, (by intro w hSw; (try dsimp only at hSw); go_simp; try with_reducible rfl)⟩) (by assumption) ?_
                (try simp only [Act.put, List.setIfInBounds_toArray, List.set_cons_zero, List.set_cons_succ])
                refine wpAnyH_take (i := 40) (oi := { dst := (some 92), op := (Go.Op.fieldAddr 33 (Go.Operand.tmp 91) 2), type := 0, pos := "law.go:90", after := #[{ on := 39, ground := Go.Ground.data }, { on := 36, ground := Go.Ground.guard }], guard := (some (36, false)) }) (v := ?_) rfl (by kernel_rfl) (by kernel_rfl) (by kernel_rfl) (fun _ _ _ h => h) (Or.inl ⟨by rfl, (by intro w hSw; (try dsimp only at hSw); go_simp; try with_reducible rfl)⟩) (by assumption) ?_
                (try simp only [Act.put, List.setIfInBounds_toArray, List.set_cons_zero, List.set_cons_succ])
                refine wpAnyH_take (i := 41) (oi := { dst := (some 93), op := (Go.Op.load 3 (Go.Operand.tmp 92)), type := 3, pos := "law.go:90", after := #[{ on := 40, ground := Go.Ground.data }, { on := 36, ground := Go.Ground.guard }], guard := (some (36, false)) }) (v := ?_) rfl (by kernel_rfl) (by kernel_rfl) (by kernel_rfl) (fun _ _ _ h => h) (Or.inl ⟨by rfl, (by intro w hSw; (try dsimp only at hSw); go_simp; try with_reducible rfl)⟩) (by assumption) ?_
                (try simp only [Act.put, List.setIfInBounds_toArray, List.set_cons_zero, List.set_cons_succ])
                refine wpAnyH_take (i := 42) (oi := { dst := (some 94), op := (Go.Op.binOp Go.BinOp.eql 3 (Go.Operand.tmp 93) (Go.Operand.const (Go.Value.int Go.IntKind.i64 10)) 3), type := 4, pos := "law.go:90", after := #[{ on := 41, ground := Go.Ground.data }, { on := 36, ground := Go.Ground.guard }], guard := (some (36, false)) }) (v := ?_) rfl (by kernel_rfl) (by kernel_rfl) (by kernel_rfl) (fun _ _ _ h => h) (Or.inl ⟨by rfl, (by intro w hSw; (try dsimp only at hSw); go_simp; try with_reducible rfl)⟩) (by assumption) ?_
                (try simp only [Act.put, List.setIfInBounds_toArray, List.set_cons_zero, List.set_cons_succ])
                refine wpAnyH_take (i := 43) (oi := { dst := (some 95), op := (Go.Op.move (Go.Operand.tmp 94)), type := 4, pos := "law.go:90", after := #[{ on := 42, ground := Go.Ground.data }, { on := 36, ground := Go.Ground.chain }, { on := 36, ground := Go.Ground.guard }], guard := (some (36, false)) }) (v := ?_) rfl (by kernel_rfl) (by kernel_rfl) (by kernel_rfl) (fun _ _ _ h => h) (Or.inl ⟨by rfl, (by intro w hSw; (try dsimp only at hSw); go_simp; try with_reducible rfl)⟩) (by assumption) ?_
                (try simp only [Act.put, List.setIfInBounds_toArray, List.set_cons_zero, List.set_cons_succ])
                refine wpAnyH_take (i := 44) (oi := { dst := (some 96), op := (Go.Op.fieldAddr 27 (Go.Operand.tmp 3) 6), type := 0, pos := "law.go:90", after := #[{ on := 43, ground := Go.Ground.guard }], guard := (some (43, true)) }) (v := undef) rfl (by kernel_rfl) (by kernel_rfl) (by kernel_rfl) (fun _ _ _ h => h) (Or.inr ⟨by rfl, rfl⟩) (by assumption) ?_
                (try simp only [Act.put, List.setIfInBounds_toArray, List.set_cons_zero, List.set_cons_succ])
                refine wpAnyH_take (i := 45) (oi := { dst := (some 97), op := (Go.Op.load 4 (Go.Operand.tmp 96)), type := 4, pos := "law.go:90", after := #[{ on := 44, ground := Go.Ground.data }, { on := 43, ground := Go.Ground.guard }], guard := (some (43, true)) }) (v := undef) rfl (by kernel_rfl) (by kernel_rfl) (by kernel_rfl) (fun _ _ _ h => h) (Or.inr ⟨by rfl, rfl⟩) (by assumption) ?_
                (try simp only [Act.put, List.setIfInBounds_toArray, List.set_cons_zero, List.set_cons_succ])
                refine wpAnyH_take (i := 46) (oi := { dst := (some 98), op := (Go.Op.unOp Go.UnOp.not 4 (Go.Operand.tmp 97)), type := 4, pos := "law.go:90", after := #[{ on := 45, ground := Go.Ground.data }, { on := 43, ground := Go.Ground.guard }], guard := (some (43, true)) }) (v := undef) rfl (by kernel_rfl) (by kernel_rfl) (by kernel_rfl) (fun _ _ _ h => h) (Or.inr ⟨by rfl, rfl⟩) (by assumption) ?_
                (try simp only [Act.put, List.setIfInBounds_toArray, List.set_cons_zero, List.set_cons_succ])
                refine wpAnyH_take (i := 47) (oi := { dst := (some 99), op := (Go.Op.pick (Go.Operand.tmp 95) (Go.Operand.tmp 98) (Go.Operand.const (Go.Value.bool false))), type := 4, pos := "law.go:90", after := #[{ on := 43, ground := Go.Ground.data }, { on := 46, ground := Go.Ground.data }, { on := 36, ground := Go.Ground.guard }], guard := (some (36, false)) }) (v := ?_) rfl (by kernel_rfl) (by kernel_rfl) (by kernel_rfl) (fun _ _ _ h => h) (Or.inl ⟨by rfl, (by intro w hSw; (try dsimp only at hSw); go_simp; try with_reducible rfl)⟩) (by assumption) ?_
                (try simp only [Act.put, List.setIfInBounds_toArray, List.set_cons_zero, List.set_cons_succ])
                refine wpAnyH_take (i := 48) (oi := { dst := (some 100), op := (Go.Op.pick (Go.Operand.tmp 88) (Go.Operand.const (Go.Value.bool true)) (Go.Operand.tmp 99)), type := 4, pos := "law.go:90", after := #[{ on := 36, ground := Go.Ground.data }, { on := 47, ground := Go.Ground.data }], guard := none }) (v := ?_) rfl (by kernel_rfl) (by kernel_rfl) (by kernel_rfl) (fun _ _ _ h => h) (Or.inl ⟨by rfl, (by intro w hSw; (try dsimp only at hSw); go_simp; try with_reducible rfl)⟩) (by assumption) ?_
                (try simp only [Act.put, List.setIfInBounds_toArray, List.set_cons_zero, List.set_cons_succ])
                refine wpAnyH_done (by kernel_rfl) ?_ _
                go_wp2
                go_roundg g1
                case measure => omega
                case rel => exact ⟨k + 1, i + 1, by have := HI.out; omega, by go_num, by go_num, by omega, ⟨FtRel.next HAh.out HP.out HBX.out (Upd.trans HV2.out (Upd.trans ((Upd.refl _ w2).drew) HU3.out (fun _ _ h => h)) (fun _ _ h => h))⟩, ⟨Upd.trans HW.out (Upd.trans HV2.out (Upd.trans ((Upd.refl _ w2).drew) HU3.out (fun _ _ h => h)) (fun _ _ h => h)) (fun _ _ h => h)⟩⟩
          · have HN : As (¬ (t.k = 0 ∧ t.n = y.n ∧ rightB t = true)) := ⟨fun h => q2 h.2.1⟩
            have e2 : (t.n != y.n) = true := by simp [q2]
            clear q1 q2
            obtain ⟨⟨c0, c1, c2, c3⟩, ⟨d0, d1, d2, d3⟩, _, hbl, hbl', _⟩ := hS0
            go_wp2
            go_quiet (fail)
            go_wp2
            go_roundg g2
            case measure => omega
            case rel => exact ⟨k + 1, by have := HK.out; omega, by go_num, ⟨FtRel.skip HAh.out HY.out HT.out HN.out HP.out HBX.out (Upd.drewN (Upd.refl _ wr) _)⟩, ⟨Upd.trans HW.out (Upd.drewN (Upd.refl _ wr) _) (fun _ _ h => h)⟩⟩
        · have HN : As (¬ (t.k = 0 ∧ t.n = y.n ∧ rightB t = true)) := ⟨fun h => q1 h.1⟩
          have e1 : (t.k != 0) = true := by simp [q1]
          clear q1
          obtain ⟨⟨c0, c1, c2, c3⟩, ⟨d0, d1, d2, d3⟩, _, hbl, hbl', _⟩ := hS0
          go_wp2
          go_quiet (fail)
          go_wp2
          go_roundg g2
          case measure => omega
          case rel => exact ⟨k + 1, by have := HK.out; omega, by go_num, ⟨FtRel.skip HAh.out HY.out HT.out HN.out HP.out HBX.out (Upd.drewN (Upd.refl _ wr) _)⟩, ⟨Upd.trans HW.out (Upd.drewN (Upd.refl _ wr) _) (fun _ _ h => h)⟩⟩
    · have hge : ¬ ((i : Int) < (x.length : Int)) := by omega
      obtain ⟨hah, hp, hbx⟩ := HF.out
      have HP := As.mk hp
      have HBX := As.mk hbx
      have HXX := As.mk (show plain x s = x by rw [← HX.out]; exact plain_plain s l)
      obtain ⟨b0, b1, b2, b3, b4, b5, b6, b7⟩ := hbx
      clear hah hp HF
      go_wp2_with (first
        | (go_at_call 12; refine (Plain_calls (s := s) (Rp.row_pure HR1.out HW.out) (by omega)).mono ?_; rintro e w2 ⟨v, rfl, ho, hu⟩; rw [HXX.out] at ho; obtain ⟨A2, c2, rfl, hc2, hr2⟩ := Rp.own_slice ho; have HR2 := As.mk hr2; have HU2 := As.mk hu; clear ho hu hr2)
        | (go_at_call 9; refine (Alike_same HR2.out (Rp.row_pure HR1.out (Upd.trans HW.out HU2.out (fun _ _ h => h))) (by omega)).mono ?_; rintro e w3 ⟨rfl, hu⟩; have HU3 := As.mk hu; clear hu)
        | (go_at_call 14; refine (awake13_calls _).mono ?_; rintro e w4 ⟨rfl, hu⟩; have HU4 := As.mk hu; clear hu))
      go_ret
      exact ⟨rfl, Upd.trans HP.out (Upd.trans HU2.out (Upd.trans HU3.out HU4.out (fun _ _ h => h)) (fun _ _ h => h)) (fun _ _ h => h)⟩
end Go.Proofs.Ytlombemkjjalkaa
