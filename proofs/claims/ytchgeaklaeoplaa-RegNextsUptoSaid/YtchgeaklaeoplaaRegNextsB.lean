/- emenderlaw06.RegNexts. -/
import Derived.Test.YtchgeaklaeoplaaRegNextsF
import Derived.IntWalk
namespace Go.Proofs.Ytchgeaklaeoplaa
open Go.RowKit
set_option linter.unusedVariables false
set_option linter.unusedSimpArgs false

set_option maxRecDepth 100000 in
set_option maxHeartbeats 4000000 in
theorem RegNextsB_walk {w : World} {A Bg Aw : Option Addr} {c d cw : Nat} {e : Ex} {g : List Grp} {word : List Int} (hm : MadeC w A Bg e g) (hw : intR.row w (fun k => k < w.heap.size) Aw word) (hwl : word.length ≤ 1048576) (hwc : word.length ≤ cw) (hac : regAccepts e g word = true) :
    Calls Try.prog 7 #[e.val A c, .slice Bg g.length d, .slice Aw word.length cw] w fun r w' => r = .returned (.bool true) ∧ Pure w w' := by
  have HAC := As.mk hac
  clear hac
  obtain ⟨k0, nm, l⟩ := e
  have hE := heap_alloc_new w (.cells #[.int .i64 k0, .string nm, .slice A l.length c] 24)
  have hp0 : Pure w (w.alloc (.cells #[.int .i64 k0, .string nm, .slice A l.length c] 24)) := Upd.alloc1 _ _ _
  have hme := hm.pure hp0
  have HP0 := As.mk hp0
  have HW := As.mk (Rp.row_pure hw hp0)
  obtain ⟨Wb, hWb⟩ : ∃ Wb, Wb = w.alloc (.cells #[.int .i64 k0, .string nm, .slice A l.length c] 24) := ⟨_, rfl⟩
  rw [← hWb] at hE hme HP0 HW
  have HS : As (∀ W, Pure Wb W → (W.cell? ⟨w.heap.size, 0, none⟩ = some (.int .i64 k0) ∧ W.cell? ⟨w.heap.size, 1, none⟩ = some (.string nm) ∧ W.cell? ⟨w.heap.size, 2, none⟩ = some (.slice A l.length c))) := ⟨fun W hu => (cells3 ((hu.block _ (Array.getElem?_eq_some_iff.1 hE).1 (fun h => h)).trans hE)).1⟩
  have HCK := As.mk (regCheck_calls (c := c) (d := d) hme.hr hme.hg hme.wt hme.gl hme.gt)
  have HACC := As.mk (fun (W : World) (hu : Pure Wb W) (v : List Int) (F : Nat → Prop) (Av : Option Addr) (cv : Nat) (hv : intR.row W F Av v) (hl : v.length ≤ 1048576 * 4) => accepts_calls (c := c) (d := d) (cw := cv) (hme.pure hu) hv hl)
  have HBEG := As.mk (fun (W : World) (hu : Pure Wb W) (v : List Int) (F : Nat → Prop) (Av : Option Addr) (cv : Nat) (hv : intR.row W F Av v) (hl : v.length ≤ 1048576 * 4) => begins_calls (c := c) (d := d) (cw := cv) (hme.pure hu) hv hl)
  have HNXT := As.mk (fun (W : World) (hu : Pure Wb W) (v : List Int) (F : Nat → Prop) (Av : Option Addr) (cv : Nat) (hv : intR.row W F Av v) (hl : v.length ≤ 1048576 * 4) => nexts_calls (c := c) (d := d) (cw := cv) (hme.pure hu) hv hl)
  have hlt0 := (Array.getElem?_eq_some_iff.1 hE).1
  clear hm hw hE hp0 hme
  show Calls Try.prog 7 #[.agg #[.int .i64 k0, .string nm, .slice A l.length c], .slice Bg g.length d, .slice Aw word.length cw] w _
  obtain ⟨q0, q1, q2⟩ := HS.out _ (Upd.refl _ _)
  have hWb2 := hWb.symm
  clear hWb
  by_cases hck : regCheck (.mk k0 nm l) g = 0
  · by_cases hbig : word.length > 100
    · have e1 : decide (100 < (word.length : Int)) = true := by simp; omega
      have h51 : (100 : Int) < (word.length : Int) := by omega
      rw [hck] at HCK
      clear hck
      go_enter Try.func7, Try.ntmps7
      go_wp2_with (first | (go_at_call 8; refine HCK.out.mono ?_; rintro e w1 ⟨rfl, hu⟩; have HU1 := As.mk hu; clear hu) | (go_at_call 9; refine awake_calls.mono ?_; rintro e w3 ⟨rfl, hu3⟩))
      go_ret
      exact ⟨rfl, (HP0.out.trans HU1.out (fun _ _ h => h)).trans hu3 (fun _ _ h => h)⟩
    · have e1 : decide (100 < (word.length : Int)) = false := by simp; omega
      have h51 : ¬ (100 : Int) < (word.length : Int) := by omega
      have HN := As.mk (nx_facts hck word)
      rw [hck] at HCK
      generalize hn : regBegins (.mk k0 nm l) g word = n at *
      generalize hL : regNexts (.mk k0 nm l) g (word.take n) = L at *
      have hnl := HN.out.le
      have HBN := As.mk hn
      clear hck hL hn
      go_enter Try.func7, Try.ntmps7
      go_wp2_with (go_at_call 8; refine HCK.out.mono ?_; rintro e w1 ⟨rfl, hu⟩; have HU1 := As.mk hu; clear hu; apply As.out)
      refine ⟨?_⟩
      clear q0 q1 q2
      obtain ⟨q0, q1, q2⟩ := HS.out _ HU1.out
      go_wp2_with (go_at_call 14; refine (HBEG.out _ HU1.out word _ Aw cw (Rp.row_pure HW.out HU1.out) (by omega)).mono ?_; rintro e w2 ⟨rfl, hu⟩; rw [HBN.out]; have HU2 := As.mk (Upd.trans HU1.out hu (fun _ _ h => h)); clear hu; apply As.out)
      refine ⟨?_⟩
      go_wp2
      obtain ⟨tk, htk⟩ : ∃ tk, tk = word.take n := ⟨_, rfl⟩
      have hlen : tk.length = n := by rw [htk, List.length_take, Nat.min_eq_left hnl]
      have HBG : As (∀ W, Pure Wb W → Calls Try.prog 14 #[.agg #[.int .i64 k0, .string nm, .slice A l.length c], .slice Bg g.length d, .slice Aw tk.length cw] W fun r w' => r = .returned (.int .i64 (tk.length : Nat)) ∧ Pure W w') := ⟨fun W hu => by
        have := HBEG.out W hu tk _ Aw cw (by rw [htk]; exact Rp.row_take (Rp.row_pure HW.out hu) n) (by rw [hlen]; omega)
        have h2 := HN.out.again
        rw [← htk] at h2
        rw [h2, ← hlen] at this
        exact this⟩
      have HNG : As (∀ W, Pure Wb W → Calls Try.prog 17 #[.agg #[.int .i64 k0, .string nm, .slice A l.length c], .slice Bg g.length d, .slice Aw tk.length cw] W fun r w' => ∃ v, r = .returned v ∧ intR.own 3 w' (fun k => W.heap.size ≤ k) v L ∧ Pure W w') := ⟨fun W hu => by
        have := HNXT.out W hu tk _ Aw cw (by rw [htk]; exact Rp.row_take (Rp.row_pure HW.out hu) n) (by rw [hlen]; omega)
        have h2 := HN.out.nx
        rw [← htk] at h2
        rw [h2] at this
        exact this⟩
      have HRT : As (∀ W, Pure Wb W → intR.row W (fun k => k < w.heap.size) Aw tk) := ⟨fun W hu => by rw [htk]; exact Rp.row_take (Rp.row_pure HW.out hu) n⟩
      have HONE : As (∀ k : Nat, k < 16 → decide ((k : Int) ∈ L) = decide (regBegins (.mk k0 nm l) g (tk ++ [(k : Int)]) = tk.length + 1)) := ⟨fun k hk => by rw [htk, HN.out.one k hk, List.length_take, Nat.min_eq_left hnl]⟩
      subst hlen
      have HTK := As.mk htk
      have z1 : decide ((tk.length : Int) < 0) = false := by simp
      have z2 : decide (word.length < tk.length) = false := by simp; omega
      have z3 : ¬ (word.length : Int) < (tk.length : Int) := by omega
      have z4 : tk.length ≤ cw := by omega
      have z5 : ((tk.length : Int) != (tk.length : Int)) = false := by simp
      have z6 : (tk.length != tk.length) = false := by simp
      have hLl := HN.out.len
      clear HNXT q0 q1 q2 htk
      have hnn : tk.length = word.length := HN.out.acc HAC.out
      have y1 : ((tk.length : Int) != (word.length : Int)) = false := by simp; omega
      have y2 : (tk.length != word.length) = false := by simp; omega
      clear hnn
      refine wp_region_held_drew (S := (fun v => v.cell? ⟨w.heap.size, 0, none⟩ = some (.int .i64 k0) ∧ v.cell? ⟨w.heap.size, 1, none⟩ = some (.string nm) ∧ v.cell? ⟨w.heap.size, 2, none⟩ = some (.slice A l.length c))) (by kernel_rfl) ?_ (fun hHeld => ?_)
      · first | exact HS.out _ HUb.out | exact HS.out _ HUa.out | exact HS.out _ HU2.out.drew
      refine wpAnyH_take (i := 0) (oi := { dst := (some 26), op := (Go.Op.move (Go.Operand.tmp 7)), type := 3, pos := "law.go:74", after := #[], guard := none }) (v := ?_) rfl (by kernel_rfl) (by kernel_rfl) (by kernel_rfl) (fun _ _ _ h => h) (Or.inl ⟨by rfl, (by intro w hSw; (try dsimp only at hSw); go_simp; try with_reducible rfl)⟩) (by assumption) ?_
      (try simp only [Act.put, List.setIfInBounds_toArray, List.set_cons_zero, List.set_cons_succ])
      refine wpAnyH_take (i := 1) (oi := { dst := (some 27), op := (Go.Op.binOp Go.BinOp.lss 3 (Go.Operand.tmp 26) (Go.Operand.const (Go.Value.int Go.IntKind.i64 0)) 3), type := 4, pos := "law.go:74", after := #[{ on := 0, ground := Go.Ground.data }], guard := none }) (v := ?_) rfl (by kernel_rfl) (by kernel_rfl) (by kernel_rfl) (fun _ _ _ h => h) (Or.inl ⟨by rfl, (by intro w hSw; (try dsimp only at hSw); go_simp; try with_reducible rfl)⟩) (by assumption) ?_
      (try simp only [Act.put, List.setIfInBounds_toArray, List.set_cons_zero, List.set_cons_succ])
      refine wpAnyH_take (i := 2) (oi := { dst := (some 28), op := (Go.Op.move (Go.Operand.tmp 27)), type := 4, pos := "law.go:74", after := #[{ on := 1, ground := Go.Ground.data }], guard := none }) (v := ?_) rfl (by kernel_rfl) (by kernel_rfl) (by kernel_rfl) (fun _ _ _ h => h) (Or.inl ⟨by rfl, (by intro w hSw; (try dsimp only at hSw); go_simp; try with_reducible rfl)⟩) (by assumption) ?_
      (try simp only [Act.put, List.setIfInBounds_toArray, List.set_cons_zero, List.set_cons_succ])
      refine wpAnyH_take (i := 3) (oi := { dst := (some 29), op := (Go.Op.move (Go.Operand.tmp 7)), type := 3, pos := "law.go:74", after := #[{ on := 2, ground := Go.Ground.guard }], guard := (some (2, false)) }) (v := ?_) rfl (by kernel_rfl) (by kernel_rfl) (by kernel_rfl) (fun _ _ _ h => h) (Or.inl ⟨by rfl, (by intro w hSw; (try dsimp only at hSw); go_simp; try with_reducible rfl)⟩) (by assumption) ?_
      (try simp only [Act.put, List.setIfInBounds_toArray, List.set_cons_zero, List.set_cons_succ])
      refine wpAnyH_take (i := 4) (oi := { dst := (some 30), op := (Go.Op.move (Go.Operand.tmp 2)), type := 26, pos := "law.go:74", after := #[{ on := 2, ground := Go.Ground.guard }], guard := (some (2, false)) }) (v := ?_) rfl (by kernel_rfl) (by kernel_rfl) (by kernel_rfl) (fun _ _ _ h => h) (Or.inl ⟨by rfl, (by intro w hSw; (try dsimp only at hSw); go_simp; try with_reducible rfl)⟩) (by assumption) ?_
      (try simp only [Act.put, List.setIfInBounds_toArray, List.set_cons_zero, List.set_cons_succ])
      refine wpAnyH_take (i := 5) (oi := { dst := (some 31), op := (Go.Op.call { callee := (Go.Callee.builtin Go.Builtin.len), args := #[(Go.Operand.tmp 30)], argTypes := #[26] }), type := 3, pos := "law.go:74", after := #[{ on := 4, ground := Go.Ground.data }, { on := 2, ground := Go.Ground.guard }], guard := (some (2, false)) }) (v := ?_) rfl (by kernel_rfl) (by kernel_rfl) (by kernel_rfl) (fun _ _ _ h => h) (Or.inl ⟨by rfl, (by intro w hSw; (try dsimp only at hSw); go_simp; try with_reducible rfl)⟩) (by assumption) ?_
      (try simp only [Act.put, List.setIfInBounds_toArray, List.set_cons_zero, List.set_cons_succ])
      refine wpAnyH_take (i := 6) (oi := { dst := (some 32), op := (Go.Op.binOp Go.BinOp.gtr 3 (Go.Operand.tmp 29) (Go.Operand.tmp 31) 3), type := 4, pos := "law.go:74", after := #[{ on := 3, ground := Go.Ground.data }, { on := 5, ground := Go.Ground.data }, { on := 2, ground := Go.Ground.guard }], guard := (some (2, false)) }) (v := ?_) rfl (by kernel_rfl) (by kernel_rfl) (by kernel_rfl) (fun _ _ _ h => h) (Or.inl ⟨by rfl, (by intro w hSw; (try dsimp only at hSw); go_simp; try with_reducible rfl)⟩) (by assumption) ?_
      (try simp only [Act.put, List.setIfInBounds_toArray, List.set_cons_zero, List.set_cons_succ])
      refine wpAnyH_take (i := 7) (oi := { dst := (some 33), op := (Go.Op.pick (Go.Operand.tmp 28) (Go.Operand.const (Go.Value.bool true)) (Go.Operand.tmp 32)), type := 4, pos := "law.go:74", after := #[{ on := 2, ground := Go.Ground.data }, { on := 6, ground := Go.Ground.data }], guard := none }) (v := ?_) rfl (by kernel_rfl) (by kernel_rfl) (by kernel_rfl) (fun _ _ _ h => h) (Or.inl ⟨by rfl, (by intro w hSw; (try dsimp only at hSw); go_simp; try with_reducible rfl)⟩) (by assumption) ?_
      (try simp only [Act.put, List.setIfInBounds_toArray, List.set_cons_zero, List.set_cons_succ])
      refine wpAnyH_take (i := 8) (oi := { dst := (some 34), op := (Go.Op.move (Go.Operand.tmp 33)), type := 4, pos := "law.go:74", after := #[{ on := 7, ground := Go.Ground.data }, { on := 2, ground := Go.Ground.chain }], guard := none }) (v := ?_) rfl (by kernel_rfl) (by kernel_rfl) (by kernel_rfl) (fun _ _ _ h => h) (Or.inl ⟨by rfl, (by intro w hSw; (try dsimp only at hSw); go_simp; try with_reducible rfl)⟩) (by assumption) ?_
      (try simp only [Act.put, List.setIfInBounds_toArray, List.set_cons_zero, List.set_cons_succ])
      refine wpAnyH_take (i := 9) (oi := { dst := (some 35), op := (Go.Op.load 24 (Go.Operand.tmp 3)), type := 24, pos := "law.go:74", after := #[{ on := 8, ground := Go.Ground.guard }], guard := (some (8, false)) }) (v := ?_) rfl (by kernel_rfl) (by kernel_rfl) (by kernel_rfl) (fun _ _ _ h => h) (Or.inl ⟨by rfl, (by intro w hSw; (try dsimp only at hSw); go_simp; try with_reducible rfl)⟩) (by assumption) ?_
      (try simp only [Act.put, List.setIfInBounds_toArray, List.set_cons_zero, List.set_cons_succ])
      refine wpAnyH_take (i := 10) (oi := { dst := (some 36), op := (Go.Op.move (Go.Operand.tmp 1)), type := 25, pos := "law.go:74", after := #[{ on := 8, ground := Go.Ground.guard }], guard := (some (8, false)) }) (v := ?_) rfl (by kernel_rfl) (by kernel_rfl) (by kernel_rfl) (fun _ _ _ h => h) (Or.inl ⟨by rfl, (by intro w hSw; (try dsimp only at hSw); go_simp; try with_reducible rfl)⟩) (by assumption) ?_
      (try simp only [Act.put, List.setIfInBounds_toArray, List.set_cons_zero, List.set_cons_succ])
      refine wpAnyH_take (i := 11) (oi := { dst := (some 37), op := (Go.Op.move (Go.Operand.tmp 2)), type := 26, pos := "law.go:74", after := #[{ on := 8, ground := Go.Ground.guard }], guard := (some (8, false)) }) (v := ?_) rfl (by kernel_rfl) (by kernel_rfl) (by kernel_rfl) (fun _ _ _ h => h) (Or.inl ⟨by rfl, (by intro w hSw; (try dsimp only at hSw); go_simp; try with_reducible rfl)⟩) (by assumption) ?_
      (try simp only [Act.put, List.setIfInBounds_toArray, List.set_cons_zero, List.set_cons_succ])
      refine wpAnyH_take (i := 12) (oi := { dst := (some 38), op := (Go.Op.move (Go.Operand.tmp 7)), type := 3, pos := "law.go:74", after := #[{ on := 8, ground := Go.Ground.guard }], guard := (some (8, false)) }) (v := ?_) rfl (by kernel_rfl) (by kernel_rfl) (by kernel_rfl) (fun _ _ _ h => h) (Or.inl ⟨by rfl, (by intro w hSw; (try dsimp only at hSw); go_simp; try with_reducible rfl)⟩) (by assumption) ?_
      (try simp only [Act.put, List.setIfInBounds_toArray, List.set_cons_zero, List.set_cons_succ])
      refine wpAnyH_take (i := 13) (oi := { dst := (some 39), op := (Go.Op.slice 26 (Go.Operand.tmp 37) none (some (Go.Operand.tmp 38)) none), type := 26, pos := "law.go:74", after := #[{ on := 11, ground := Go.Ground.data }, { on := 12, ground := Go.Ground.data }, { on := 8, ground := Go.Ground.guard }], guard := (some (8, false)) }) (v := ?_) rfl (by kernel_rfl) (by kernel_rfl) (by kernel_rfl) (fun _ _ _ h => h) (Or.inl ⟨by rfl, (by intro w hSw; (try dsimp only at hSw); go_simp; try with_reducible rfl)⟩) (by assumption) ?_
      (try simp only [Act.put, List.setIfInBounds_toArray, List.set_cons_zero, List.set_cons_succ])
      refine wpAnyH_take (i := 15) (oi := { dst := (some 41), op := (Go.Op.move (Go.Operand.tmp 7)), type := 3, pos := "law.go:74", after := #[{ on := 8, ground := Go.Ground.guard }], guard := (some (8, false)) }) (v := ?_) rfl (by kernel_rfl) (by kernel_rfl) (by kernel_rfl) (fun _ _ _ h => h) (Or.inl ⟨by rfl, (by intro w hSw; (try dsimp only at hSw); go_simp; try with_reducible rfl)⟩) (by assumption) ?_
      (try simp only [Act.put, List.setIfInBounds_toArray, List.set_cons_zero, List.set_cons_succ])
      refine wpAnyH_ready (rs := [14]) (by kernel_rfl) (by simp) (AllReadyH.cons (o := { dst := (some 40), op := (Go.Op.call { callee := (Go.Callee.value (Go.Operand.func 14)), args := #[(Go.Operand.tmp 35), (Go.Operand.tmp 36), (Go.Operand.tmp 39)], argTypes := #[24, 25, 26] }), type := 3, pos := "law.go:74", after := #[{ on := 9, ground := Go.Ground.data }, { on := 10, ground := Go.Ground.data }, { on := 13, ground := Go.Ground.data }, { on := 8, ground := Go.Ground.chain }, { on := 8, ground := Go.Ground.guard }], guard := (some (8, false)) }) rfl (fun K hK => ?_) AllReadyH.nil)
      go_simp
      (first | (go_at_call 10; refine (HACC.out _ HUa.out word _ Aw cw (Rp.row_pure HW.out HUa.out) (by omega)).mono ?_; rintro e wb ⟨rfl, hu⟩; rw [HAC.out]; have HUb := As.mk (Upd.trans HUa.out hu (fun _ _ h => h)); clear hu) | (go_at_call 14; refine (HBG.out _ HU2.out.drew).mono ?_; rintro e wa ⟨rfl, hu⟩; have HUa := As.mk (Upd.trans HU2.out.drew hu (fun _ _ h => h)); clear hu))
      refine hK.out _ _ (by first | exact HS.out _ HUb.out | exact HS.out _ HUa.out | exact HS.out _ HU2.out.drew) (fun hHeld => ?_)
      clear hK K
      (try simp only [Act.put, List.setIfInBounds_toArray, List.set_cons_zero, List.set_cons_succ])
      refine wpAnyH_take (i := 16) (oi := { dst := (some 42), op := (Go.Op.binOp Go.BinOp.neq 3 (Go.Operand.tmp 40) (Go.Operand.tmp 41) 3), type := 4, pos := "law.go:74", after := #[{ on := 14, ground := Go.Ground.data }, { on := 15, ground := Go.Ground.data }, { on := 8, ground := Go.Ground.guard }], guard := (some (8, false)) }) (v := ?_) rfl (by kernel_rfl) (by kernel_rfl) (by kernel_rfl) (fun _ _ _ h => h) (Or.inl ⟨by rfl, (by intro w hSw; (try dsimp only at hSw); go_simp; try with_reducible rfl)⟩) (by assumption) ?_
      (try simp only [Act.put, List.setIfInBounds_toArray, List.set_cons_zero, List.set_cons_succ])
      refine wpAnyH_take (i := 17) (oi := { dst := (some 43), op := (Go.Op.pick (Go.Operand.tmp 34) (Go.Operand.const (Go.Value.bool true)) (Go.Operand.tmp 42)), type := 4, pos := "law.go:74", after := #[{ on := 8, ground := Go.Ground.data }, { on := 16, ground := Go.Ground.data }], guard := none }) (v := ?_) rfl (by kernel_rfl) (by kernel_rfl) (by kernel_rfl) (fun _ _ _ h => h) (Or.inl ⟨by rfl, (by intro w hSw; (try dsimp only at hSw); go_simp; try with_reducible rfl)⟩) (by assumption) ?_
      (try simp only [Act.put, List.setIfInBounds_toArray, List.set_cons_zero, List.set_cons_succ])
      refine wpAnyH_take (i := 18) (oi := { dst := (some 44), op := (Go.Op.move (Go.Operand.tmp 43)), type := 4, pos := "law.go:74", after := #[{ on := 17, ground := Go.Ground.data }, { on := 14, ground := Go.Ground.chain }], guard := none }) (v := ?_) rfl (by kernel_rfl) (by kernel_rfl) (by kernel_rfl) (fun _ _ _ h => h) (Or.inl ⟨by rfl, (by intro w hSw; (try dsimp only at hSw); go_simp; try with_reducible rfl)⟩) (by assumption) ?_
      (try simp only [Act.put, List.setIfInBounds_toArray, List.set_cons_zero, List.set_cons_succ])
      refine wpAnyH_take (i := 19) (oi := { dst := (some 45), op := (Go.Op.load 24 (Go.Operand.tmp 3)), type := 24, pos := "law.go:74", after := #[{ on := 18, ground := Go.Ground.guard }], guard := (some (18, false)) }) (v := ?_) rfl (by kernel_rfl) (by kernel_rfl) (by kernel_rfl) (fun _ _ _ h => h) (Or.inl ⟨by rfl, (by intro w hSw; (try dsimp only at hSw); go_simp; try with_reducible rfl)⟩) (by assumption) ?_
      (try simp only [Act.put, List.setIfInBounds_toArray, List.set_cons_zero, List.set_cons_succ])
      refine wpAnyH_take (i := 20) (oi := { dst := (some 46), op := (Go.Op.move (Go.Operand.tmp 1)), type := 25, pos := "law.go:74", after := #[{ on := 18, ground := Go.Ground.guard }], guard := (some (18, false)) }) (v := ?_) rfl (by kernel_rfl) (by kernel_rfl) (by kernel_rfl) (fun _ _ _ h => h) (Or.inl ⟨by rfl, (by intro w hSw; (try dsimp only at hSw); go_simp; try with_reducible rfl)⟩) (by assumption) ?_
      (try simp only [Act.put, List.setIfInBounds_toArray, List.set_cons_zero, List.set_cons_succ])
      refine wpAnyH_take (i := 21) (oi := { dst := (some 47), op := (Go.Op.move (Go.Operand.tmp 2)), type := 26, pos := "law.go:74", after := #[{ on := 18, ground := Go.Ground.guard }], guard := (some (18, false)) }) (v := ?_) rfl (by kernel_rfl) (by kernel_rfl) (by kernel_rfl) (fun _ _ _ h => h) (Or.inl ⟨by rfl, (by intro w hSw; (try dsimp only at hSw); go_simp; try with_reducible rfl)⟩) (by assumption) ?_
      (try simp only [Act.put, List.setIfInBounds_toArray, List.set_cons_zero, List.set_cons_succ])
      refine wpAnyH_ready (rs := [22]) (by kernel_rfl) (by simp) (AllReadyH.cons (o := { dst := (some 48), op := (Go.Op.call { callee := (Go.Callee.value (Go.Operand.func 10)), args := #[(Go.Operand.tmp 45), (Go.Operand.tmp 46), (Go.Operand.tmp 47)], argTypes := #[24, 25, 26] }), type := 4, pos := "law.go:74", after := #[{ on := 19, ground := Go.Ground.data }, { on := 20, ground := Go.Ground.data }, { on := 21, ground := Go.Ground.data }, { on := 18, ground := Go.Ground.chain }, { on := 18, ground := Go.Ground.guard }], guard := (some (18, false)) }) rfl (fun K hK => ?_) AllReadyH.nil)
      go_simp
      (first | (go_at_call 10; refine (HACC.out _ HUa.out word _ Aw cw (Rp.row_pure HW.out HUa.out) (by omega)).mono ?_; rintro e wb ⟨rfl, hu⟩; rw [HAC.out]; have HUb := As.mk (Upd.trans HUa.out hu (fun _ _ h => h)); clear hu) | (go_at_call 14; refine (HBG.out _ HU2.out.drew).mono ?_; rintro e wa ⟨rfl, hu⟩; have HUa := As.mk (Upd.trans HU2.out.drew hu (fun _ _ h => h)); clear hu))
      refine hK.out _ _ (by first | exact HS.out _ HUb.out | exact HS.out _ HUa.out | exact HS.out _ HU2.out.drew) (fun hHeld => ?_)
      clear hK K
      (try simp only [Act.put, List.setIfInBounds_toArray, List.set_cons_zero, List.set_cons_succ])
      refine wpAnyH_take (i := 23) (oi := { dst := (some 49), op := (Go.Op.move (Go.Operand.tmp 48)), type := 4, pos := "law.go:74", after := #[{ on := 22, ground := Go.Ground.data }, { on := 22, ground := Go.Ground.chain }, { on := 18, ground := Go.Ground.guard }], guard := (some (18, false)) }) (v := ?_) rfl (by kernel_rfl) (by kernel_rfl) (by kernel_rfl) (fun _ _ _ h => h) (Or.inl ⟨by rfl, (by intro w hSw; (try dsimp only at hSw); go_simp; try with_reducible rfl)⟩) (by assumption) ?_
      (try simp only [Act.put, List.setIfInBounds_toArray, List.set_cons_zero, List.set_cons_succ])
      refine wpAnyH_take (i := 24) (oi := { dst := (some 50), op := (Go.Op.move (Go.Operand.tmp 7)), type := 3, pos := "law.go:74", after := #[{ on := 23, ground := Go.Ground.guard }], guard := (some (23, true)) }) (v := ?_) rfl (by kernel_rfl) (by kernel_rfl) (by kernel_rfl) (fun _ _ _ h => h) (Or.inl ⟨by rfl, (by intro w hSw; (try dsimp only at hSw); go_simp; try with_reducible rfl)⟩) (by assumption) ?_
      (try simp only [Act.put, List.setIfInBounds_toArray, List.set_cons_zero, List.set_cons_succ])
      refine wpAnyH_take (i := 25) (oi := { dst := (some 51), op := (Go.Op.move (Go.Operand.tmp 2)), type := 26, pos := "law.go:74", after := #[{ on := 23, ground := Go.Ground.guard }], guard := (some (23, true)) }) (v := ?_) rfl (by kernel_rfl) (by kernel_rfl) (by kernel_rfl) (fun _ _ _ h => h) (Or.inl ⟨by rfl, (by intro w hSw; (try dsimp only at hSw); go_simp; try with_reducible rfl)⟩) (by assumption) ?_
      (try simp only [Act.put, List.setIfInBounds_toArray, List.set_cons_zero, List.set_cons_succ])
      refine wpAnyH_take (i := 26) (oi := { dst := (some 52), op := (Go.Op.call { callee := (Go.Callee.builtin Go.Builtin.len), args := #[(Go.Operand.tmp 51)], argTypes := #[26] }), type := 3, pos := "law.go:74", after := #[{ on := 25, ground := Go.Ground.data }, { on := 23, ground := Go.Ground.guard }], guard := (some (23, true)) }) (v := ?_) rfl (by kernel_rfl) (by kernel_rfl) (by kernel_rfl) (fun _ _ _ h => h) (Or.inl ⟨by rfl, (by intro w hSw; (try dsimp only at hSw); go_simp; try with_reducible rfl)⟩) (by assumption) ?_
      (try simp only [Act.put, List.setIfInBounds_toArray, List.set_cons_zero, List.set_cons_succ])
      refine wpAnyH_take (i := 27) (oi := { dst := (some 53), op := (Go.Op.binOp Go.BinOp.neq 3 (Go.Operand.tmp 50) (Go.Operand.tmp 52) 3), type := 4, pos := "law.go:74", after := #[{ on := 24, ground := Go.Ground.data }, { on := 26, ground := Go.Ground.data }, { on := 23, ground := Go.Ground.guard }], guard := (some (23, true)) }) (v := ?_) rfl (by kernel_rfl) (by kernel_rfl) (by kernel_rfl) (fun _ _ _ h => h) (Or.inl ⟨by rfl, (by intro w hSw; (try dsimp only at hSw); go_simp; try with_reducible rfl)⟩) (by assumption) ?_
      (try simp only [Act.put, List.setIfInBounds_toArray, List.set_cons_zero, List.set_cons_succ])
      refine wpAnyH_take (i := 28) (oi := { dst := (some 54), op := (Go.Op.pick (Go.Operand.tmp 49) (Go.Operand.tmp 53) (Go.Operand.const (Go.Value.bool false))), type := 4, pos := "law.go:74", after := #[{ on := 23, ground := Go.Ground.data }, { on := 27, ground := Go.Ground.data }, { on := 18, ground := Go.Ground.guard }], guard := (some (18, false)) }) (v := ?_) rfl (by kernel_rfl) (by kernel_rfl) (by kernel_rfl) (fun _ _ _ h => h) (Or.inl ⟨by rfl, (by intro w hSw; (try dsimp only at hSw); go_simp; try with_reducible rfl)⟩) (by assumption) ?_
      (try simp only [Act.put, List.setIfInBounds_toArray, List.set_cons_zero, List.set_cons_succ])
      refine wpAnyH_take (i := 29) (oi := { dst := (some 55), op := (Go.Op.pick (Go.Operand.tmp 44) (Go.Operand.const (Go.Value.bool true)) (Go.Operand.tmp 54)), type := 4, pos := "law.go:74", after := #[{ on := 18, ground := Go.Ground.data }, { on := 28, ground := Go.Ground.data }], guard := none }) (v := ?_) rfl (by kernel_rfl) (by kernel_rfl) (by kernel_rfl) (fun _ _ _ h => h) (Or.inl ⟨by rfl, (by intro w hSw; (try dsimp only at hSw); go_simp; try with_reducible rfl)⟩) (by assumption) ?_
      (try simp only [Act.put, List.setIfInBounds_toArray, List.set_cons_zero, List.set_cons_succ])
      refine wpAnyH_done (by kernel_rfl) ?_ _
      clear y1 y2
      clear HACC
      go_wp2
      refine wp_region_held_drew (S := (fun v => v.cell? ⟨w.heap.size, 0, none⟩ = some (.int .i64 k0) ∧ v.cell? ⟨w.heap.size, 1, none⟩ = some (.string nm) ∧ v.cell? ⟨w.heap.size, 2, none⟩ = some (.slice A l.length c))) (by kernel_rfl) ?_ (fun hHeld => ?_)
      · first | exact HS.out _ HUc.out | exact HS.out _ HUb.out.drew
      refine wpAnyH_take (i := 0) (oi := { dst := (some 56), op := (Go.Op.load 24 (Go.Operand.tmp 3)), type := 24, pos := "law.go:77", after := #[], guard := none }) (v := ?_) rfl (by kernel_rfl) (by kernel_rfl) (by kernel_rfl) (fun _ _ _ h => h) (Or.inl ⟨by rfl, (by intro w hSw; (try dsimp only at hSw); go_simp; try with_reducible rfl)⟩) (by assumption) ?_
      (try simp only [Act.put, List.setIfInBounds_toArray, List.set_cons_zero, List.set_cons_succ])
      refine wpAnyH_take (i := 1) (oi := { dst := (some 57), op := (Go.Op.move (Go.Operand.tmp 1)), type := 25, pos := "law.go:77", after := #[], guard := none }) (v := ?_) rfl (by kernel_rfl) (by kernel_rfl) (by kernel_rfl) (fun _ _ _ h => h) (Or.inl ⟨by rfl, (by intro w hSw; (try dsimp only at hSw); go_simp; try with_reducible rfl)⟩) (by assumption) ?_
      (try simp only [Act.put, List.setIfInBounds_toArray, List.set_cons_zero, List.set_cons_succ])
      refine wpAnyH_take (i := 2) (oi := { dst := (some 58), op := (Go.Op.move (Go.Operand.tmp 2)), type := 26, pos := "law.go:77", after := #[], guard := none }) (v := ?_) rfl (by kernel_rfl) (by kernel_rfl) (by kernel_rfl) (fun _ _ _ h => h) (Or.inl ⟨by rfl, (by intro w hSw; (try dsimp only at hSw); go_simp; try with_reducible rfl)⟩) (by assumption) ?_
      (try simp only [Act.put, List.setIfInBounds_toArray, List.set_cons_zero, List.set_cons_succ])
      refine wpAnyH_take (i := 3) (oi := { dst := (some 59), op := (Go.Op.move (Go.Operand.tmp 7)), type := 3, pos := "law.go:77", after := #[], guard := none }) (v := ?_) rfl (by kernel_rfl) (by kernel_rfl) (by kernel_rfl) (fun _ _ _ h => h) (Or.inl ⟨by rfl, (by intro w hSw; (try dsimp only at hSw); go_simp; try with_reducible rfl)⟩) (by assumption) ?_
      (try simp only [Act.put, List.setIfInBounds_toArray, List.set_cons_zero, List.set_cons_succ])
      refine wpAnyH_take (i := 4) (oi := { dst := (some 60), op := (Go.Op.slice 26 (Go.Operand.tmp 58) none (some (Go.Operand.tmp 59)) none), type := 26, pos := "law.go:77", after := #[{ on := 2, ground := Go.Ground.data }, { on := 3, ground := Go.Ground.data }], guard := none }) (v := ?_) rfl (by kernel_rfl) (by kernel_rfl) (by kernel_rfl) (fun _ _ _ h => h) (Or.inl ⟨by rfl, (by intro w hSw; (try dsimp only at hSw); go_simp; try with_reducible rfl)⟩) (by assumption) ?_
      (try simp only [Act.put, List.setIfInBounds_toArray, List.set_cons_zero, List.set_cons_succ])
      refine wpAnyH_ready (rs := [5]) (by kernel_rfl) (by simp) (AllReadyH.cons (o := { dst := (some 61), op := (Go.Op.call { callee := (Go.Callee.value (Go.Operand.func 17)), args := #[(Go.Operand.tmp 56), (Go.Operand.tmp 57), (Go.Operand.tmp 60)], argTypes := #[24, 25, 26] }), type := 26, pos := "law.go:77", after := #[{ on := 0, ground := Go.Ground.data }, { on := 1, ground := Go.Ground.data }, { on := 4, ground := Go.Ground.data }], guard := none }) rfl (fun K hK => ?_) AllReadyH.nil)
      go_simp
      (go_at_call 17; refine (HNG.out _ HUb.out.drew).mono ?_; rintro e wc ⟨v, rfl, ho, hu⟩; obtain ⟨Al, cl, rfl, hcl, hrl⟩ := Rp.own_slice ho; have HRL := As.mk hrl; have HUc := As.mk (Upd.trans HUb.out.drew hu (fun _ _ h => h)); clear hu ho hrl)
      refine hK.out _ _ (by first | exact HS.out _ HUc.out | exact HS.out _ HUb.out.drew) (fun hHeld => ?_)
      clear hK K
      (try simp only [Act.put, List.setIfInBounds_toArray, List.set_cons_zero, List.set_cons_succ])
      refine wpAnyH_take (i := 6) (oi := { dst := (some 8), op := (Go.Op.assign (Go.Operand.tmp 61)), type := 26, pos := "law.go:77", after := #[{ on := 5, ground := Go.Ground.data }, { on := 5, ground := Go.Ground.chain }, { on := 0, ground := Go.Ground.phase }, { on := 1, ground := Go.Ground.phase }, { on := 2, ground := Go.Ground.phase }, { on := 3, ground := Go.Ground.phase }, { on := 4, ground := Go.Ground.phase }, { on := 5, ground := Go.Ground.phase }], guard := none }) (v := ?_) rfl (by kernel_rfl) (by kernel_rfl) (by kernel_rfl) (fun _ _ _ h => h) (Or.inl ⟨by rfl, (by intro w hSw; (try dsimp only at hSw); go_simp; try with_reducible rfl)⟩) (by assumption) ?_
      (try simp only [Act.put, List.setIfInBounds_toArray, List.set_cons_zero, List.set_cons_succ])
      refine wpAnyH_done (by kernel_rfl) ?_ _
      go_wp2
      go_loopg [9] 16 (fun g i wr => ∃ k : Nat, k + g = 16 ∧ i = .int .i64 k ∧ As (Pure wc wr))
      case atStart => exact ⟨0, by omega, rfl, ⟨Upd.refl _ _⟩⟩
      case round =>
        obtain ⟨k, hk, rfl, HC⟩ := hrel
        by_cases hlt : k < 16
        · obtain ⟨g1, rfl⟩ : ∃ m, gk = m + 1 := ⟨gk - 1, by omega⟩
          have HK := As.mk hk
          clear hk
          obtain ⟨wo, rfl⟩ : ∃ wo : World, wo = wr := ⟨_, rfl⟩
          have hk16 : decide ((k : Int) < 16) = true := by simp; omega
          have hk17 : (k : Int) < 16 := by omega
          go_wp2
          go_loopg [10, 11] L.length (fun g bb i wx => ∃ j : Nat, j + g = L.length ∧ i = .int .i64 j ∧ bb = .bool (decide ((k : Int) ∈ L.take j)) ∧ As (Pure wo wx))
          case atStart => exact ⟨0, by omega, rfl, by simp, ⟨Upd.refl _ _⟩⟩
          case round =>
            obtain ⟨j0, hj, rfl, rfl, HX⟩ := hrel
            by_cases hjl : j0 < L.length
            · obtain ⟨x, hx⟩ : ∃ x, L[j0]? = some x := ⟨_, List.getElem?_eq_getElem hjl⟩
              obtain ⟨g2, rfl⟩ : ∃ m, gk = m + 1 := ⟨gk - 1, by omega⟩
              obtain ⟨b, o, rfl, hFb, hbb, d0⟩ := int_at (Rp.row_pure HRL.out (HC.out.trans HX.out (fun _ _ h => h))) hx
              have hin : decide ((k : Int) ∈ L.take (j0 + 1)) = (decide ((k : Int) ∈ L.take j0) || decide (x = (k : Int))) := by
                rw [List.take_add_one, hx]
                rw [Bool.eq_iff_iff]
                simp only [Bool.or_eq_true, decide_eq_true_eq, List.mem_append, List.mem_singleton, Option.toList]
                exact ⟨fun h => h.imp id Eq.symm, fun h => h.imp id Eq.symm⟩
              have HIN := As.mk hin
              have HJ := As.mk hj
              clear hin hj
              by_cases hz : j0 = 0
              · clear hx
                have hq0 : decide ((k : Int) ∈ L.take j0) = false := by rw [hz]; simp
                have hgt : decide (0 < j0) = false := by simp; exact hz
                have hgt2 : decide (0 < (j0 : Int)) = false := by simp; omega
                clear hz
                rw [hq0] at HIN ⊢
                clear hq0
                by_cases hxt : x = (k : Int)
                · have hne : (x == (k : Int)) = true := by simpa using hxt
                  have HXT := As.mk hxt
                  clear hxt
                  go_wp2
                  refine wp_region_held_drew (S := (fun v => v.cell? ⟨b, o + j0, none⟩ = some (.int .i64 x))) (by kernel_rfl) ?_ (fun hHeld => ?_)
                  · exact d0
                  refine wpAnyH_take (i := 0) (oi := { dst := (some 81), op := (Go.Op.move (Go.Operand.tmp 11)), type := 3, pos := "law.go:82", after := #[], guard := none }) (v := ?_) rfl (by kernel_rfl) (by kernel_rfl) (by kernel_rfl) (fun _ _ _ h => h) (Or.inl ⟨by rfl, (by intro w hSw; (try dsimp only at hSw); go_simp; try with_reducible rfl)⟩) (by assumption) ?_
                  (try simp only [Act.put, List.setIfInBounds_toArray, List.set_cons_zero, List.set_cons_succ])
                  refine wpAnyH_take (i := 1) (oi := { dst := (some 82), op := (Go.Op.binOp Go.BinOp.gtr 3 (Go.Operand.tmp 81) (Go.Operand.const (Go.Value.int Go.IntKind.i64 0)) 3), type := 4, pos := "law.go:82", after := #[{ on := 0, ground := Go.Ground.data }], guard := none }) (v := ?_) rfl (by kernel_rfl) (by kernel_rfl) (by kernel_rfl) (fun _ _ _ h => h) (Or.inl ⟨by rfl, (by intro w hSw; (try dsimp only at hSw); go_simp; try with_reducible rfl)⟩) (by assumption) ?_
                  (try simp only [Act.put, List.setIfInBounds_toArray, List.set_cons_zero, List.set_cons_succ])
                  refine wpAnyH_take (i := 2) (oi := { dst := (some 83), op := (Go.Op.move (Go.Operand.tmp 82)), type := 4, pos := "law.go:82", after := #[{ on := 1, ground := Go.Ground.data }], guard := none }) (v := ?_) rfl (by kernel_rfl) (by kernel_rfl) (by kernel_rfl) (fun _ _ _ h => h) (Or.inl ⟨by rfl, (by intro w hSw; (try dsimp only at hSw); go_simp; try with_reducible rfl)⟩) (by assumption) ?_
                  (try simp only [Act.put, List.setIfInBounds_toArray, List.set_cons_zero, List.set_cons_succ])
                  refine wpAnyH_take (i := 3) (oi := { dst := (some 84), op := (Go.Op.move (Go.Operand.tmp 8)), type := 26, pos := "law.go:82", after := #[{ on := 2, ground := Go.Ground.guard }], guard := (some (2, true)) }) (v := undef) rfl (by kernel_rfl) (by kernel_rfl) (by kernel_rfl) (fun _ _ _ h => h) (Or.inr ⟨by rfl, rfl⟩) (by assumption) ?_
                  (try simp only [Act.put, List.setIfInBounds_toArray, List.set_cons_zero, List.set_cons_succ])
                  refine wpAnyH_take (i := 4) (oi := { dst := (some 85), op := (Go.Op.move (Go.Operand.tmp 11)), type := 3, pos := "law.go:82", after := #[{ on := 2, ground := Go.Ground.guard }], guard := (some (2, true)) }) (v := undef) rfl (by kernel_rfl) (by kernel_rfl) (by kernel_rfl) (fun _ _ _ h => h) (Or.inr ⟨by rfl, rfl⟩) (by assumption) ?_
                  (try simp only [Act.put, List.setIfInBounds_toArray, List.set_cons_zero, List.set_cons_succ])
                  refine wpAnyH_take (i := 5) (oi := { dst := (some 86), op := (Go.Op.binOp Go.BinOp.sub 3 (Go.Operand.tmp 85) (Go.Operand.const (Go.Value.int Go.IntKind.i64 1)) 3), type := 3, pos := "law.go:82", after := #[{ on := 4, ground := Go.Ground.data }, { on := 2, ground := Go.Ground.guard }], guard := (some (2, true)) }) (v := undef) rfl (by kernel_rfl) (by kernel_rfl) (by kernel_rfl) (fun _ _ _ h => h) (Or.inr ⟨by rfl, rfl⟩) (by assumption) ?_
                  (try simp only [Act.put, List.setIfInBounds_toArray, List.set_cons_zero, List.set_cons_succ])
                  refine wpAnyH_take (i := 6) (oi := { dst := (some 87), op := (Go.Op.indexAddr 26 (Go.Operand.tmp 84) (Go.Operand.tmp 86)), type := 0, pos := "law.go:82", after := #[{ on := 3, ground := Go.Ground.data }, { on := 5, ground := Go.Ground.data }, { on := 2, ground := Go.Ground.guard }], guard := (some (2, true)) }) (v := undef) rfl (by kernel_rfl) (by kernel_rfl) (by kernel_rfl) (fun _ _ _ h => h) (Or.inr ⟨by rfl, rfl⟩) (by assumption) ?_
                  (try simp only [Act.put, List.setIfInBounds_toArray, List.set_cons_zero, List.set_cons_succ])
                  refine wpAnyH_take (i := 7) (oi := { dst := (some 88), op := (Go.Op.load 3 (Go.Operand.tmp 87)), type := 3, pos := "law.go:82", after := #[{ on := 6, ground := Go.Ground.data }, { on := 2, ground := Go.Ground.guard }], guard := (some (2, true)) }) (v := undef) rfl (by kernel_rfl) (by kernel_rfl) (by kernel_rfl) (fun _ _ _ h => h) (Or.inr ⟨by rfl, rfl⟩) (by assumption) ?_
                  (try simp only [Act.put, List.setIfInBounds_toArray, List.set_cons_zero, List.set_cons_succ])
                  refine wpAnyH_take (i := 8) (oi := { dst := (some 89), op := (Go.Op.move (Go.Operand.tmp 8)), type := 26, pos := "law.go:82", after := #[{ on := 2, ground := Go.Ground.guard }], guard := (some (2, true)) }) (v := undef) rfl (by kernel_rfl) (by kernel_rfl) (by kernel_rfl) (fun _ _ _ h => h) (Or.inr ⟨by rfl, rfl⟩) (by assumption) ?_
                  (try simp only [Act.put, List.setIfInBounds_toArray, List.set_cons_zero, List.set_cons_succ])
                  refine wpAnyH_take (i := 9) (oi := { dst := (some 90), op := (Go.Op.move (Go.Operand.tmp 11)), type := 3, pos := "law.go:82", after := #[{ on := 2, ground := Go.Ground.guard }], guard := (some (2, true)) }) (v := undef) rfl (by kernel_rfl) (by kernel_rfl) (by kernel_rfl) (fun _ _ _ h => h) (Or.inr ⟨by rfl, rfl⟩) (by assumption) ?_
                  (try simp only [Act.put, List.setIfInBounds_toArray, List.set_cons_zero, List.set_cons_succ])
                  refine wpAnyH_take (i := 10) (oi := { dst := (some 91), op := (Go.Op.indexAddr 26 (Go.Operand.tmp 89) (Go.Operand.tmp 90)), type := 0, pos := "law.go:82", after := #[{ on := 8, ground := Go.Ground.data }, { on := 9, ground := Go.Ground.data }, { on := 2, ground := Go.Ground.guard }], guard := (some (2, true)) }) (v := undef) rfl (by kernel_rfl) (by kernel_rfl) (by kernel_rfl) (fun _ _ _ h => h) (Or.inr ⟨by rfl, rfl⟩) (by assumption) ?_
                  (try simp only [Act.put, List.setIfInBounds_toArray, List.set_cons_zero, List.set_cons_succ])
                  refine wpAnyH_take (i := 11) (oi := { dst := (some 92), op := (Go.Op.load 3 (Go.Operand.tmp 91)), type := 3, pos := "law.go:82", after := #[{ on := 10, ground := Go.Ground.data }, { on := 2, ground := Go.Ground.guard }], guard := (some (2, true)) }) (v := undef) rfl (by kernel_rfl) (by kernel_rfl) (by kernel_rfl) (fun _ _ _ h => h) (Or.inr ⟨by rfl, rfl⟩) (by assumption) ?_
                  (try simp only [Act.put, List.setIfInBounds_toArray, List.set_cons_zero, List.set_cons_succ])
                  refine wpAnyH_take (i := 12) (oi := { dst := (some 93), op := (Go.Op.binOp Go.BinOp.geq 3 (Go.Operand.tmp 88) (Go.Operand.tmp 92) 3), type := 4, pos := "law.go:82", after := #[{ on := 7, ground := Go.Ground.data }, { on := 11, ground := Go.Ground.data }, { on := 2, ground := Go.Ground.guard }], guard := (some (2, true)) }) (v := undef) rfl (by kernel_rfl) (by kernel_rfl) (by kernel_rfl) (fun _ _ _ h => h) (Or.inr ⟨by rfl, rfl⟩) (by assumption) ?_
                  (try simp only [Act.put, List.setIfInBounds_toArray, List.set_cons_zero, List.set_cons_succ])
                  refine wpAnyH_take (i := 13) (oi := { dst := (some 94), op := (Go.Op.pick (Go.Operand.tmp 83) (Go.Operand.tmp 93) (Go.Operand.const (Go.Value.bool false))), type := 4, pos := "law.go:82", after := #[{ on := 2, ground := Go.Ground.data }, { on := 12, ground := Go.Ground.data }], guard := none }) (v := ?_) rfl (by kernel_rfl) (by kernel_rfl) (by kernel_rfl) (fun _ _ _ h => h) (Or.inl ⟨by rfl, (by intro w hSw; (try dsimp only at hSw); go_simp; try with_reducible rfl)⟩) (by assumption) ?_
                  (try simp only [Act.put, List.setIfInBounds_toArray, List.set_cons_zero, List.set_cons_succ])
                  refine wpAnyH_done (by kernel_rfl) ?_ _
                  go_wp2
                  go_roundg g2
                  case measure => omega
                  case rel => exact ⟨j0 + 1, by have := HJ.out; omega, by go_num, by rw [HIN.out]; simp [HXT.out], ⟨HX.out.drew⟩⟩
                · have hne : (x == (k : Int)) = false := by simpa using hxt
                  have HXT := As.mk hxt
                  clear hxt
                  go_wp2
                  refine wp_region_held_drew (S := (fun v => v.cell? ⟨b, o + j0, none⟩ = some (.int .i64 x))) (by kernel_rfl) ?_ (fun hHeld => ?_)
                  · exact d0
                  refine wpAnyH_take (i := 0) (oi := { dst := (some 81), op := (Go.Op.move (Go.Operand.tmp 11)), type := 3, pos := "law.go:82", after := #[], guard := none }) (v := ?_) rfl (by kernel_rfl) (by kernel_rfl) (by kernel_rfl) (fun _ _ _ h => h) (Or.inl ⟨by rfl, (by intro w hSw; (try dsimp only at hSw); go_simp; try with_reducible rfl)⟩) (by assumption) ?_
                  (try simp only [Act.put, List.setIfInBounds_toArray, List.set_cons_zero, List.set_cons_succ])
                  refine wpAnyH_take (i := 1) (oi := { dst := (some 82), op := (Go.Op.binOp Go.BinOp.gtr 3 (Go.Operand.tmp 81) (Go.Operand.const (Go.Value.int Go.IntKind.i64 0)) 3), type := 4, pos := "law.go:82", after := #[{ on := 0, ground := Go.Ground.data }], guard := none }) (v := ?_) rfl (by kernel_rfl) (by kernel_rfl) (by kernel_rfl) (fun _ _ _ h => h) (Or.inl ⟨by rfl, (by intro w hSw; (try dsimp only at hSw); go_simp; try with_reducible rfl)⟩) (by assumption) ?_
                  (try simp only [Act.put, List.setIfInBounds_toArray, List.set_cons_zero, List.set_cons_succ])
                  refine wpAnyH_take (i := 2) (oi := { dst := (some 83), op := (Go.Op.move (Go.Operand.tmp 82)), type := 4, pos := "law.go:82", after := #[{ on := 1, ground := Go.Ground.data }], guard := none }) (v := ?_) rfl (by kernel_rfl) (by kernel_rfl) (by kernel_rfl) (fun _ _ _ h => h) (Or.inl ⟨by rfl, (by intro w hSw; (try dsimp only at hSw); go_simp; try with_reducible rfl)⟩) (by assumption) ?_
                  (try simp only [Act.put, List.setIfInBounds_toArray, List.set_cons_zero, List.set_cons_succ])
                  refine wpAnyH_take (i := 3) (oi := { dst := (some 84), op := (Go.Op.move (Go.Operand.tmp 8)), type := 26, pos := "law.go:82", after := #[{ on := 2, ground := Go.Ground.guard }], guard := (some (2, true)) }) (v := undef) rfl (by kernel_rfl) (by kernel_rfl) (by kernel_rfl) (fun _ _ _ h => h) (Or.inr ⟨by rfl, rfl⟩) (by assumption) ?_
                  (try simp only [Act.put, List.setIfInBounds_toArray, List.set_cons_zero, List.set_cons_succ])
                  refine wpAnyH_take (i := 4) (oi := { dst := (some 85), op := (Go.Op.move (Go.Operand.tmp 11)), type := 3, pos := "law.go:82", after := #[{ on := 2, ground := Go.Ground.guard }], guard := (some (2, true)) }) (v := undef) rfl (by kernel_rfl) (by kernel_rfl) (by kernel_rfl) (fun _ _ _ h => h) (Or.inr ⟨by rfl, rfl⟩) (by assumption) ?_
                  (try simp only [Act.put, List.setIfInBounds_toArray, List.set_cons_zero, List.set_cons_succ])
                  refine wpAnyH_take (i := 5) (oi := { dst := (some 86), op := (Go.Op.binOp Go.BinOp.sub 3 (Go.Operand.tmp 85) (Go.Operand.const (Go.Value.int Go.IntKind.i64 1)) 3), type := 3, pos := "law.go:82", after := #[{ on := 4, ground := Go.Ground.data }, { on := 2, ground := Go.Ground.guard }], guard := (some (2, true)) }) (v := undef) rfl (by kernel_rfl) (by kernel_rfl) (by kernel_rfl) (fun _ _ _ h => h) (Or.inr ⟨by rfl, rfl⟩) (by assumption) ?_
                  (try simp only [Act.put, List.setIfInBounds_toArray, List.set_cons_zero, List.set_cons_succ])
                  refine wpAnyH_take (i := 6) (oi := { dst := (some 87), op := (Go.Op.indexAddr 26 (Go.Operand.tmp 84) (Go.Operand.tmp 86)), type := 0, pos := "law.go:82", after := #[{ on := 3, ground := Go.Ground.data }, { on := 5, ground := Go.Ground.data }, { on := 2, ground := Go.Ground.guard }], guard := (some (2, true)) }) (v := undef) rfl (by kernel_rfl) (by kernel_rfl) (by kernel_rfl) (fun _ _ _ h => h) (Or.inr ⟨by rfl, rfl⟩) (by assumption) ?_
                  (try simp only [Act.put, List.setIfInBounds_toArray, List.set_cons_zero, List.set_cons_succ])
                  refine wpAnyH_take (i := 7) (oi := { dst := (some 88), op := (Go.Op.load 3 (Go.Operand.tmp 87)), type := 3, pos := "law.go:82", after := #[{ on := 6, ground := Go.Ground.data }, { on := 2, ground := Go.Ground.guard }], guard := (some (2, true)) }) (v := undef) rfl (by kernel_rfl) (by kernel_rfl) (by kernel_rfl) (fun _ _ _ h => h) (Or.inr ⟨by rfl, rfl⟩) (by assumption) ?_
                  (try simp only [Act.put, List.setIfInBounds_toArray, List.set_cons_zero, List.set_cons_succ])
                  refine wpAnyH_take (i := 8) (oi := { dst := (some 89), op := (Go.Op.move (Go.Operand.tmp 8)), type := 26, pos := "law.go:82", after := #[{ on := 2, ground := Go.Ground.guard }], guard := (some (2, true)) }) (v := undef) rfl (by kernel_rfl) (by kernel_rfl) (by kernel_rfl) (fun _ _ _ h => h) (Or.inr ⟨by rfl, rfl⟩) (by assumption) ?_
                  (try simp only [Act.put, List.setIfInBounds_toArray, List.set_cons_zero, List.set_cons_succ])
                  refine wpAnyH_take (i := 9) (oi := { dst := (some 90), op := (Go.Op.move (Go.Operand.tmp 11)), type := 3, pos := "law.go:82", after := #[{ on := 2, ground := Go.Ground.guard }], guard := (some (2, true)) }) (v := undef) rfl (by kernel_rfl) (by kernel_rfl) (by kernel_rfl) (fun _ _ _ h => h) (Or.inr ⟨by rfl, rfl⟩) (by assumption) ?_
                  (try simp only [Act.put, List.setIfInBounds_toArray, List.set_cons_zero, List.set_cons_succ])
                  refine wpAnyH_take (i := 10) (oi := { dst := (some 91), op := (Go.Op.indexAddr 26 (Go.Operand.tmp 89) (Go.Operand.tmp 90)), type := 0, pos := "law.go:82", after := #[{ on := 8, ground := Go.Ground.data }, { on := 9, ground := Go.Ground.data }, { on := 2, ground := Go.Ground.guard }], guard := (some (2, true)) }) (v := undef) rfl (by kernel_rfl) (by kernel_rfl) (by kernel_rfl) (fun _ _ _ h => h) (Or.inr ⟨by rfl, rfl⟩) (by assumption) ?_
                  (try simp only [Act.put, List.setIfInBounds_toArray, List.set_cons_zero, List.set_cons_succ])
                  refine wpAnyH_take (i := 11) (oi := { dst := (some 92), op := (Go.Op.load 3 (Go.Operand.tmp 91)), type := 3, pos := "law.go:82", after := #[{ on := 10, ground := Go.Ground.data }, { on := 2, ground := Go.Ground.guard }], guard := (some (2, true)) }) (v := undef) rfl (by kernel_rfl) (by kernel_rfl) (by kernel_rfl) (fun _ _ _ h => h) (Or.inr ⟨by rfl, rfl⟩) (by assumption) ?_
                  (try simp only [Act.put, List.setIfInBounds_toArray, List.set_cons_zero, List.set_cons_succ])
                  refine wpAnyH_take (i := 12) (oi := { dst := (some 93), op := (Go.Op.binOp Go.BinOp.geq 3 (Go.Operand.tmp 88) (Go.Operand.tmp 92) 3), type := 4, pos := "law.go:82", after := #[{ on := 7, ground := Go.Ground.data }, { on := 11, ground := Go.Ground.data }, { on := 2, ground := Go.Ground.guard }], guard := (some (2, true)) }) (v := undef) rfl (by kernel_rfl) (by kernel_rfl) (by kernel_rfl) (fun _ _ _ h => h) (Or.inr ⟨by rfl, rfl⟩) (by assumption) ?_
                  (try simp only [Act.put, List.setIfInBounds_toArray, List.set_cons_zero, List.set_cons_succ])
                  refine wpAnyH_take (i := 13) (oi := { dst := (some 94), op := (Go.Op.pick (Go.Operand.tmp 83) (Go.Operand.tmp 93) (Go.Operand.const (Go.Value.bool false))), type := 4, pos := "law.go:82", after := #[{ on := 2, ground := Go.Ground.data }, { on := 12, ground := Go.Ground.data }], guard := none }) (v := ?_) rfl (by kernel_rfl) (by kernel_rfl) (by kernel_rfl) (fun _ _ _ h => h) (Or.inl ⟨by rfl, (by intro w hSw; (try dsimp only at hSw); go_simp; try with_reducible rfl)⟩) (by assumption) ?_
                  (try simp only [Act.put, List.setIfInBounds_toArray, List.set_cons_zero, List.set_cons_succ])
                  refine wpAnyH_done (by kernel_rfl) ?_ _
                  go_wp2
                  go_roundg g2
                  case measure => omega
                  case rel => exact ⟨j0 + 1, by have := HJ.out; omega, by go_num, by rw [HIN.out]; simp [HXT.out], ⟨HX.out.drew⟩⟩
              · obtain ⟨j, rfl⟩ : ∃ j, j0 = j + 1 := ⟨j0 - 1, by omega⟩
                clear hz
                have hjl2 : j < L.length := by omega
                obtain ⟨y, hy⟩ : ∃ y, L[j]? = some y := ⟨_, List.getElem?_eq_getElem (by omega)⟩
                obtain ⟨b', o', hbo, _, _, d1⟩ := int_at (Rp.row_pure HRL.out (HC.out.trans HX.out (fun _ _ h => h))) hy
                simp at hbo
                obtain ⟨rfl, rfl⟩ := hbo
                have hyx := HN.out.asc j y x hy hx
                have hge : decide (x ≤ y) = false := by simp; omega
                have hge2 : ¬ x ≤ y := by omega
                have hpj : (0 : Int) ≤ (j : Int) + 1 := by omega
                have hwj : IntKind.i64.wrap (j : Int) = (j : Int) := IntWalk.i64_in _ (by omega)
                clear hx hy hyx
                cases hq : decide ((k : Int) ∈ L.take (j + 1))
                · rw [hq] at HIN
                  clear hq
                  by_cases hxt : x = (k : Int)
                  · have hne : (x == (k : Int)) = true := by simpa using hxt
                    have HXT := As.mk hxt
                    clear hxt
                    go_wp2
                    refine wp_region_held_drew (S := (fun v => v.cell? ⟨b, o + (j + 1), none⟩ = some (.int .i64 x) ∧ v.cell? ⟨b, o + j, none⟩ = some (.int .i64 y))) (by kernel_rfl) ?_ (fun hHeld => ?_)
                    · exact ⟨d0, d1⟩
                    refine wpAnyH_take (i := 0) (oi := { dst := (some 81), op := (Go.Op.move (Go.Operand.tmp 11)), type := 3, pos := "law.go:82", after := #[], guard := none }) (v := ?_) rfl (by kernel_rfl) (by kernel_rfl) (by kernel_rfl) (fun _ _ _ h => h) (Or.inl ⟨by rfl, (by intro w hSw; (try dsimp only at hSw); go_simp; try with_reducible rfl)⟩) (by assumption) ?_
                    (try simp only [Act.put, List.setIfInBounds_toArray, List.set_cons_zero, List.set_cons_succ])
                    refine wpAnyH_take (i := 1) (oi := { dst := (some 82), op := (Go.Op.binOp Go.BinOp.gtr 3 (Go.Operand.tmp 81) (Go.Operand.const (Go.Value.int Go.IntKind.i64 0)) 3), type := 4, pos := "law.go:82", after := #[{ on := 0, ground := Go.Ground.data }], guard := none }) (v := ?_) rfl (by kernel_rfl) (by kernel_rfl) (by kernel_rfl) (fun _ _ _ h => h) (Or.inl ⟨by rfl, (by intro w hSw; (try dsimp only at hSw); go_simp; try with_reducible rfl)⟩) (by assumption) ?_
                    (try simp only [Act.put, List.setIfInBounds_toArray, List.set_cons_zero, List.set_cons_succ])
                    refine wpAnyH_take (i := 2) (oi := { dst := (some 83), op := (Go.Op.move (Go.Operand.tmp 82)), type := 4, pos := "law.go:82", after := #[{ on := 1, ground := Go.Ground.data }], guard := none }) (v := ?_) rfl (by kernel_rfl) (by kernel_rfl) (by kernel_rfl) (fun _ _ _ h => h) (Or.inl ⟨by rfl, (by intro w hSw; (try dsimp only at hSw); go_simp; try with_reducible rfl)⟩) (by assumption) ?_
                    (try simp only [Act.put, List.setIfInBounds_toArray, List.set_cons_zero, List.set_cons_succ])
                    refine wpAnyH_take (i := 3) (oi := { dst := (some 84), op := (Go.Op.move (Go.Operand.tmp 8)), type := 26, pos := "law.go:82", after := #[{ on := 2, ground := Go.Ground.guard }], guard := (some (2, true)) }) (v := ?_) rfl (by kernel_rfl) (by kernel_rfl) (by kernel_rfl) (fun _ _ _ h => h) (Or.inl ⟨by rfl, (by intro w hSw; (try dsimp only at hSw); go_simp; try with_reducible rfl)⟩) (by assumption) ?_
                    (try simp only [Act.put, List.setIfInBounds_toArray, List.set_cons_zero, List.set_cons_succ])
                    refine wpAnyH_take (i := 4) (oi := { dst := (some 85), op := (Go.Op.move (Go.Operand.tmp 11)), type := 3, pos := "law.go:82", after := #[{ on := 2, ground := Go.Ground.guard }], guard := (some (2, true)) }) (v := ?_) rfl (by kernel_rfl) (by kernel_rfl) (by kernel_rfl) (fun _ _ _ h => h) (Or.inl ⟨by rfl, (by intro w hSw; (try dsimp only at hSw); go_simp; try with_reducible rfl)⟩) (by assumption) ?_
                    (try simp only [Act.put, List.setIfInBounds_toArray, List.set_cons_zero, List.set_cons_succ])
                    refine wpAnyH_take (i := 5) (oi := { dst := (some 86), op := (Go.Op.binOp Go.BinOp.sub 3 (Go.Operand.tmp 85) (Go.Operand.const (Go.Value.int Go.IntKind.i64 1)) 3), type := 3, pos := "law.go:82", after := #[{ on := 4, ground := Go.Ground.data }, { on := 2, ground := Go.Ground.guard }], guard := (some (2, true)) }) (v := ?_) rfl (by kernel_rfl) (by kernel_rfl) (by kernel_rfl) (fun _ _ _ h => h) (Or.inl ⟨by rfl, (by intro w hSw; (try dsimp only at hSw); go_simp; try with_reducible rfl)⟩) (by assumption) ?_
                    (try simp only [Act.put, List.setIfInBounds_toArray, List.set_cons_zero, List.set_cons_succ])
                    refine wpAnyH_take (i := 6) (oi := { dst := (some 87), op := (Go.Op.indexAddr 26 (Go.Operand.tmp 84) (Go.Operand.tmp 86)), type := 0, pos := "law.go:82", after := #[{ on := 3, ground := Go.Ground.data }, { on := 5, ground := Go.Ground.data }, { on := 2, ground := Go.Ground.guard }], guard := (some (2, true)) }) (v := ?_) rfl (by kernel_rfl) (by kernel_rfl) (by kernel_rfl) (fun _ _ _ h => h) (Or.inl ⟨by rfl, (by intro w hSw; (try dsimp only at hSw); go_simp; try with_reducible rfl)⟩) (by assumption) ?_
                    (try simp only [Act.put, List.setIfInBounds_toArray, List.set_cons_zero, List.set_cons_succ])
                    refine wpAnyH_take (i := 7) (oi := { dst := (some 88), op := (Go.Op.load 3 (Go.Operand.tmp 87)), type := 3, pos := "law.go:82", after := #[{ on := 6, ground := Go.Ground.data }, { on := 2, ground := Go.Ground.guard }], guard := (some (2, true)) }) (v := ?_) rfl (by kernel_rfl) (by kernel_rfl) (by kernel_rfl) (fun _ _ _ h => h) (Or.inl ⟨by rfl, (by intro w hSw; (try dsimp only at hSw); go_simp; try with_reducible rfl)⟩) (by assumption) ?_
                    (try simp only [Act.put, List.setIfInBounds_toArray, List.set_cons_zero, List.set_cons_succ])
                    refine wpAnyH_take (i := 8) (oi := { dst := (some 89), op := (Go.Op.move (Go.Operand.tmp 8)), type := 26, pos := "law.go:82", after := #[{ on := 2, ground := Go.Ground.guard }], guard := (some (2, true)) }) (v := ?_) rfl (by kernel_rfl) (by kernel_rfl) (by kernel_rfl) (fun _ _ _ h => h) (Or.inl ⟨by rfl, (by intro w hSw; (try dsimp only at hSw); go_simp; try with_reducible rfl)⟩) (by assumption) ?_
                    (try simp only [Act.put, List.setIfInBounds_toArray, List.set_cons_zero, List.set_cons_succ])
                    refine wpAnyH_take (i := 9) (oi := { dst := (some 90), op := (Go.Op.move (Go.Operand.tmp 11)), type := 3, pos := "law.go:82", after := #[{ on := 2, ground := Go.Ground.guard }], guard := (some (2, true)) }) (v := ?_) rfl (by kernel_rfl) (by kernel_rfl) (by kernel_rfl) (fun _ _ _ h => h) (Or.inl ⟨by rfl, (by intro w hSw; (try dsimp only at hSw); go_simp; try with_reducible rfl)⟩) (by assumption) ?_
                    (try simp only [Act.put, List.setIfInBounds_toArray, List.set_cons_zero, List.set_cons_succ])
                    refine wpAnyH_take (i := 10) (oi := { dst := (some 91), op := (Go.Op.indexAddr 26 (Go.Operand.tmp 89) (Go.Operand.tmp 90)), type := 0, pos := "law.go:82", after := #[{ on := 8, ground := Go.Ground.data }, { on := 9, ground := Go.Ground.data }, { on := 2, ground := Go.Ground.guard }], guard := (some (2, true)) }) (v := ?_) rfl (by kernel_rfl) (by kernel_rfl) (by kernel_rfl) (fun _ _ _ h => h) (Or.inl ⟨by rfl, (by intro w hSw; (try dsimp only at hSw); go_simp; try with_reducible rfl)⟩) (by assumption) ?_
                    (try simp only [Act.put, List.setIfInBounds_toArray, List.set_cons_zero, List.set_cons_succ])
                    refine wpAnyH_take (i := 11) (oi := { dst := (some 92), op := (Go.Op.load 3 (Go.Operand.tmp 91)), type := 3, pos := "law.go:82", after := #[{ on := 10, ground := Go.Ground.data }, { on := 2, ground := Go.Ground.guard }], guard := (some (2, true)) }) (v := ?_) rfl (by kernel_rfl) (by kernel_rfl) (by kernel_rfl) (fun _ _ _ h => h) (Or.inl ⟨by rfl, (by intro w hSw; (try dsimp only at hSw); go_simp; try with_reducible rfl)⟩) (by assumption) ?_
                    (try simp only [Act.put, List.setIfInBounds_toArray, List.set_cons_zero, List.set_cons_succ])
                    refine wpAnyH_take (i := 12) (oi := { dst := (some 93), op := (Go.Op.binOp Go.BinOp.geq 3 (Go.Operand.tmp 88) (Go.Operand.tmp 92) 3), type := 4, pos := "law.go:82", after := #[{ on := 7, ground := Go.Ground.data }, { on := 11, ground := Go.Ground.data }, { on := 2, ground := Go.Ground.guard }], guard := (some (2, true)) }) (v := ?_) rfl (by kernel_rfl) (by kernel_rfl) (by kernel_rfl) (fun _ _ _ h => h) (Or.inl ⟨by rfl, (by intro w hSw; (try dsimp only at hSw); go_simp; try with_reducible rfl)⟩) (by assumption) ?_
                    (try simp only [Act.put, List.setIfInBounds_toArray, List.set_cons_zero, List.set_cons_succ])
                    refine wpAnyH_take (i := 13) (oi := { dst := (some 94), op := (Go.Op.pick (Go.Operand.tmp 83) (Go.Operand.tmp 93) (Go.Operand.const (Go.Value.bool false))), type := 4, pos := "law.go:82", after := #[{ on := 2, ground := Go.Ground.data }, { on := 12, ground := Go.Ground.data }], guard := none }) (v := ?_) rfl (by kernel_rfl) (by kernel_rfl) (by kernel_rfl) (fun _ _ _ h => h) (Or.inl ⟨by rfl, (by intro w hSw; (try dsimp only at hSw); go_simp; try with_reducible rfl)⟩) (by assumption) ?_
                    (try simp only [Act.put, List.setIfInBounds_toArray, List.set_cons_zero, List.set_cons_succ])
                    refine wpAnyH_done (by kernel_rfl) ?_ _
                    go_wp2
                    go_roundg g2
                    case measure => omega
                    case rel => exact ⟨j + 1 + 1, by have := HJ.out; omega, by go_num, by rw [HIN.out]; simp [HXT.out], ⟨HX.out.drew⟩⟩
                  · have hne : (x == (k : Int)) = false := by simpa using hxt
                    have HXT := As.mk hxt
                    clear hxt
                    go_wp2
                    refine wp_region_held_drew (S := (fun v => v.cell? ⟨b, o + (j + 1), none⟩ = some (.int .i64 x) ∧ v.cell? ⟨b, o + j, none⟩ = some (.int .i64 y))) (by kernel_rfl) ?_ (fun hHeld => ?_)
                    · exact ⟨d0, d1⟩
                    refine wpAnyH_take (i := 0) (oi := { dst := (some 81), op := (Go.Op.move (Go.Operand.tmp 11)), type := 3, pos := "law.go:82", after := #[], guard := none }) (v := ?_) rfl (by kernel_rfl) (by kernel_rfl) (by kernel_rfl) (fun _ _ _ h => h) (Or.inl ⟨by rfl, (by intro w hSw; (try dsimp only at hSw); go_simp; try with_reducible rfl)⟩) (by assumption) ?_
                    (try simp only [Act.put, List.setIfInBounds_toArray, List.set_cons_zero, List.set_cons_succ])
                    refine wpAnyH_take (i := 1) (oi := { dst := (some 82), op := (Go.Op.binOp Go.BinOp.gtr 3 (Go.Operand.tmp 81) (Go.Operand.const (Go.Value.int Go.IntKind.i64 0)) 3), type := 4, pos := "law.go:82", after := #[{ on := 0, ground := Go.Ground.data }], guard := none }) (v := ?_) rfl (by kernel_rfl) (by kernel_rfl) (by kernel_rfl) (fun _ _ _ h => h) (Or.inl ⟨by rfl, (by intro w hSw; (try dsimp only at hSw); go_simp; try with_reducible rfl)⟩) (by assumption) ?_
                    (try simp only [Act.put, List.setIfInBounds_toArray, List.set_cons_zero, List.set_cons_succ])
                    refine wpAnyH_take (i := 2) (oi := { dst := (some 83), op := (Go.Op.move (Go.Operand.tmp 82)), type := 4, pos := "law.go:82", after := #[{ on := 1, ground := Go.Ground.data }], guard := none }) (v := ?_) rfl (by kernel_rfl) (by kernel_rfl) (by kernel_rfl) (fun _ _ _ h => h) (Or.inl ⟨by rfl, (by intro w hSw; (try dsimp only at hSw); go_simp; try with_reducible rfl)⟩) (by assumption) ?_
                    (try simp only [Act.put, List.setIfInBounds_toArray, List.set_cons_zero, List.set_cons_succ])
                    refine wpAnyH_take (i := 3) (oi := { dst := (some 84), op := (Go.Op.move (Go.Operand.tmp 8)), type := 26, pos := "law.go:82", after := #[{ on := 2, ground := Go.Ground.guard }], guard := (some (2, true)) }) (v := ?_) rfl (by kernel_rfl) (by kernel_rfl) (by kernel_rfl) (fun _ _ _ h => h) (Or.inl ⟨by rfl, (by intro w hSw; (try dsimp only at hSw); go_simp; try with_reducible rfl)⟩) (by assumption) ?_
                    (try simp only [Act.put, List.setIfInBounds_toArray, List.set_cons_zero, List.set_cons_succ])
                    refine wpAnyH_take (i := 4) (oi := { dst := (some 85), op := (Go.Op.move (Go.Operand.tmp 11)), type := 3, pos := "law.go:82", after := #[{ on := 2, ground := Go.Ground.guard }], guard := (some (2, true)) }) (v := ?_) rfl (by kernel_rfl) (by kernel_rfl) (by kernel_rfl) (fun _ _ _ h => h) (Or.inl ⟨by rfl, (by intro w hSw; (try dsimp only at hSw); go_simp; try with_reducible rfl)⟩) (by assumption) ?_
                    (try simp only [Act.put, List.setIfInBounds_toArray, List.set_cons_zero, List.set_cons_succ])
                    refine wpAnyH_take (i := 5) (oi := { dst := (some 86), op := (Go.Op.binOp Go.BinOp.sub 3 (Go.Operand.tmp 85) (Go.Operand.const (Go.Value.int Go.IntKind.i64 1)) 3), type := 3, pos := "law.go:82", after := #[{ on := 4, ground := Go.Ground.data }, { on := 2, ground := Go.Ground.guard }], guard := (some (2, true)) }) (v := ?_) rfl (by kernel_rfl) (by kernel_rfl) (by kernel_rfl) (fun _ _ _ h => h) (Or.inl ⟨by rfl, (by intro w hSw; (try dsimp only at hSw); go_simp; try with_reducible rfl)⟩) (by assumption) ?_
                    (try simp only [Act.put, List.setIfInBounds_toArray, List.set_cons_zero, List.set_cons_succ])
                    refine wpAnyH_take (i := 6) (oi := { dst := (some 87), op := (Go.Op.indexAddr 26 (Go.Operand.tmp 84) (Go.Operand.tmp 86)), type := 0, pos := "law.go:82", after := #[{ on := 3, ground := Go.Ground.data }, { on := 5, ground := Go.Ground.data }, { on := 2, ground := Go.Ground.guard }], guard := (some (2, true)) }) (v := ?_) rfl (by kernel_rfl) (by kernel_rfl) (by kernel_rfl) (fun _ _ _ h => h) (Or.inl ⟨by rfl, (by intro w hSw; (try dsimp only at hSw); go_simp; try with_reducible rfl)⟩) (by assumption) ?_
                    (try simp only [Act.put, List.setIfInBounds_toArray, List.set_cons_zero, List.set_cons_succ])
                    refine wpAnyH_take (i := 7) (oi := { dst := (some 88), op := (Go.Op.load 3 (Go.Operand.tmp 87)), type := 3, pos := "law.go:82", after := #[{ on := 6, ground := Go.Ground.data }, { on := 2, ground := Go.Ground.guard }], guard := (some (2, true)) }) (v := ?_) rfl (by kernel_rfl) (by kernel_rfl) (by kernel_rfl) (fun _ _ _ h => h) (Or.inl ⟨by rfl, (by intro w hSw; (try dsimp only at hSw); go_simp; try with_reducible rfl)⟩) (by assumption) ?_
                    (try simp only [Act.put, List.setIfInBounds_toArray, List.set_cons_zero, List.set_cons_succ])
                    refine wpAnyH_take (i := 8) (oi := { dst := (some 89), op := (Go.Op.move (Go.Operand.tmp 8)), type := 26, pos := "law.go:82", after := #[{ on := 2, ground := Go.Ground.guard }], guard := (some (2, true)) }) (v := ?_) rfl (by kernel_rfl) (by kernel_rfl) (by kernel_rfl) (fun _ _ _ h => h) (Or.inl ⟨by rfl, (by intro w hSw; (try dsimp only at hSw); go_simp; try with_reducible rfl)⟩) (by assumption) ?_
                    (try simp only [Act.put, List.setIfInBounds_toArray, List.set_cons_zero, List.set_cons_succ])
                    refine wpAnyH_take (i := 9) (oi := { dst := (some 90), op := (Go.Op.move (Go.Operand.tmp 11)), type := 3, pos := "law.go:82", after := #[{ on := 2, ground := Go.Ground.guard }], guard := (some (2, true)) }) (v := ?_) rfl (by kernel_rfl) (by kernel_rfl) (by kernel_rfl) (fun _ _ _ h => h) (Or.inl ⟨by rfl, (by intro w hSw; (try dsimp only at hSw); go_simp; try with_reducible rfl)⟩) (by assumption) ?_
                    (try simp only [Act.put, List.setIfInBounds_toArray, List.set_cons_zero, List.set_cons_succ])
                    refine wpAnyH_take (i := 10) (oi := { dst := (some 91), op := (Go.Op.indexAddr 26 (Go.Operand.tmp 89) (Go.Operand.tmp 90)), type := 0, pos := "law.go:82", after := #[{ on := 8, ground := Go.Ground.data }, { on := 9, ground := Go.Ground.data }, { on := 2, ground := Go.Ground.guard }], guard := (some (2, true)) }) (v := ?_) rfl (by kernel_rfl) (by kernel_rfl) (by kernel_rfl) (fun _ _ _ h => h) (Or.inl ⟨by rfl, (by intro w hSw; (try dsimp only at hSw); go_simp; try with_reducible rfl)⟩) (by assumption) ?_
                    (try simp only [Act.put, List.setIfInBounds_toArray, List.set_cons_zero, List.set_cons_succ])
                    refine wpAnyH_take (i := 11) (oi := { dst := (some 92), op := (Go.Op.load 3 (Go.Operand.tmp 91)), type := 3, pos := "law.go:82", after := #[{ on := 10, ground := Go.Ground.data }, { on := 2, ground := Go.Ground.guard }], guard := (some (2, true)) }) (v := ?_) rfl (by kernel_rfl) (by kernel_rfl) (by kernel_rfl) (fun _ _ _ h => h) (Or.inl ⟨by rfl, (by intro w hSw; (try dsimp only at hSw); go_simp; try with_reducible rfl)⟩) (by assumption) ?_
                    (try simp only [Act.put, List.setIfInBounds_toArray, List.set_cons_zero, List.set_cons_succ])
                    refine wpAnyH_take (i := 12) (oi := { dst := (some 93), op := (Go.Op.binOp Go.BinOp.geq 3 (Go.Operand.tmp 88) (Go.Operand.tmp 92) 3), type := 4, pos := "law.go:82", after := #[{ on := 7, ground := Go.Ground.data }, { on := 11, ground := Go.Ground.data }, { on := 2, ground := Go.Ground.guard }], guard := (some (2, true)) }) (v := ?_) rfl (by kernel_rfl) (by kernel_rfl) (by kernel_rfl) (fun _ _ _ h => h) (Or.inl ⟨by rfl, (by intro w hSw; (try dsimp only at hSw); go_simp; try with_reducible rfl)⟩) (by assumption) ?_
                    (try simp only [Act.put, List.setIfInBounds_toArray, List.set_cons_zero, List.set_cons_succ])
                    refine wpAnyH_take (i := 13) (oi := { dst := (some 94), op := (Go.Op.pick (Go.Operand.tmp 83) (Go.Operand.tmp 93) (Go.Operand.const (Go.Value.bool false))), type := 4, pos := "law.go:82", after := #[{ on := 2, ground := Go.Ground.data }, { on := 12, ground := Go.Ground.data }], guard := none }) (v := ?_) rfl (by kernel_rfl) (by kernel_rfl) (by kernel_rfl) (fun _ _ _ h => h) (Or.inl ⟨by rfl, (by intro w hSw; (try dsimp only at hSw); go_simp; try with_reducible rfl)⟩) (by assumption) ?_
                    (try simp only [Act.put, List.setIfInBounds_toArray, List.set_cons_zero, List.set_cons_succ])
                    refine wpAnyH_done (by kernel_rfl) ?_ _
                    go_wp2
                    go_roundg g2
                    case measure => omega
                    case rel => exact ⟨j + 1 + 1, by have := HJ.out; omega, by go_num, by rw [HIN.out]; simp [HXT.out], ⟨HX.out.drew⟩⟩
                · rw [hq] at HIN
                  clear hq
                  go_wp2
                  refine wp_region_held_drew (S := (fun v => v.cell? ⟨b, o + (j + 1), none⟩ = some (.int .i64 x) ∧ v.cell? ⟨b, o + j, none⟩ = some (.int .i64 y))) (by kernel_rfl) ?_ (fun hHeld => ?_)
                  · exact ⟨d0, d1⟩
                  refine wpAnyH_take (i := 0) (oi := { dst := (some 81), op := (Go.Op.move (Go.Operand.tmp 11)), type := 3, pos := "law.go:82", after := #[], guard := none }) (v := ?_) rfl (by kernel_rfl) (by kernel_rfl) (by kernel_rfl) (fun _ _ _ h => h) (Or.inl ⟨by rfl, (by intro w hSw; (try dsimp only at hSw); go_simp; try with_reducible rfl)⟩) (by assumption) ?_
                  (try simp only [Act.put, List.setIfInBounds_toArray, List.set_cons_zero, List.set_cons_succ])
                  refine wpAnyH_take (i := 1) (oi := { dst := (some 82), op := (Go.Op.binOp Go.BinOp.gtr 3 (Go.Operand.tmp 81) (Go.Operand.const (Go.Value.int Go.IntKind.i64 0)) 3), type := 4, pos := "law.go:82", after := #[{ on := 0, ground := Go.Ground.data }], guard := none }) (v := ?_) rfl (by kernel_rfl) (by kernel_rfl) (by kernel_rfl) (fun _ _ _ h => h) (Or.inl ⟨by rfl, (by intro w hSw; (try dsimp only at hSw); go_simp; try with_reducible rfl)⟩) (by assumption) ?_
                  (try simp only [Act.put, List.setIfInBounds_toArray, List.set_cons_zero, List.set_cons_succ])
                  refine wpAnyH_take (i := 2) (oi := { dst := (some 83), op := (Go.Op.move (Go.Operand.tmp 82)), type := 4, pos := "law.go:82", after := #[{ on := 1, ground := Go.Ground.data }], guard := none }) (v := ?_) rfl (by kernel_rfl) (by kernel_rfl) (by kernel_rfl) (fun _ _ _ h => h) (Or.inl ⟨by rfl, (by intro w hSw; (try dsimp only at hSw); go_simp; try with_reducible rfl)⟩) (by assumption) ?_
                  (try simp only [Act.put, List.setIfInBounds_toArray, List.set_cons_zero, List.set_cons_succ])
                  refine wpAnyH_take (i := 3) (oi := { dst := (some 84), op := (Go.Op.move (Go.Operand.tmp 8)), type := 26, pos := "law.go:82", after := #[{ on := 2, ground := Go.Ground.guard }], guard := (some (2, true)) }) (v := ?_) rfl (by kernel_rfl) (by kernel_rfl) (by kernel_rfl) (fun _ _ _ h => h) (Or.inl ⟨by rfl, (by intro w hSw; (try dsimp only at hSw); go_simp; try with_reducible rfl)⟩) (by assumption) ?_
                  (try simp only [Act.put, List.setIfInBounds_toArray, List.set_cons_zero, List.set_cons_succ])
                  refine wpAnyH_take (i := 4) (oi := { dst := (some 85), op := (Go.Op.move (Go.Operand.tmp 11)), type := 3, pos := "law.go:82", after := #[{ on := 2, ground := Go.Ground.guard }], guard := (some (2, true)) }) (v := ?_) rfl (by kernel_rfl) (by kernel_rfl) (by kernel_rfl) (fun _ _ _ h => h) (Or.inl ⟨by rfl, (by intro w hSw; (try dsimp only at hSw); go_simp; try with_reducible rfl)⟩) (by assumption) ?_
                  (try simp only [Act.put, List.setIfInBounds_toArray, List.set_cons_zero, List.set_cons_succ])
                  refine wpAnyH_take (i := 5) (oi := { dst := (some 86), op := (Go.Op.binOp Go.BinOp.sub 3 (Go.Operand.tmp 85) (Go.Operand.const (Go.Value.int Go.IntKind.i64 1)) 3), type := 3, pos := "law.go:82", after := #[{ on := 4, ground := Go.Ground.data }, { on := 2, ground := Go.Ground.guard }], guard := (some (2, true)) }) (v := ?_) rfl (by kernel_rfl) (by kernel_rfl) (by kernel_rfl) (fun _ _ _ h => h) (Or.inl ⟨by rfl, (by intro w hSw; (try dsimp only at hSw); go_simp; try with_reducible rfl)⟩) (by assumption) ?_
                  (try simp only [Act.put, List.setIfInBounds_toArray, List.set_cons_zero, List.set_cons_succ])
                  refine wpAnyH_take (i := 6) (oi := { dst := (some 87), op := (Go.Op.indexAddr 26 (Go.Operand.tmp 84) (Go.Operand.tmp 86)), type := 0, pos := "law.go:82", after := #[{ on := 3, ground := Go.Ground.data }, { on := 5, ground := Go.Ground.data }, { on := 2, ground := Go.Ground.guard }], guard := (some (2, true)) }) (v := ?_) rfl (by kernel_rfl) (by kernel_rfl) (by kernel_rfl) (fun _ _ _ h => h) (Or.inl ⟨by rfl, (by intro w hSw; (try dsimp only at hSw); go_simp; try with_reducible rfl)⟩) (by assumption) ?_
                  (try simp only [Act.put, List.setIfInBounds_toArray, List.set_cons_zero, List.set_cons_succ])
                  refine wpAnyH_take (i := 7) (oi := { dst := (some 88), op := (Go.Op.load 3 (Go.Operand.tmp 87)), type := 3, pos := "law.go:82", after := #[{ on := 6, ground := Go.Ground.data }, { on := 2, ground := Go.Ground.guard }], guard := (some (2, true)) }) (v := ?_) rfl (by kernel_rfl) (by kernel_rfl) (by kernel_rfl) (fun _ _ _ h => h) (Or.inl ⟨by rfl, (by intro w hSw; (try dsimp only at hSw); go_simp; try with_reducible rfl)⟩) (by assumption) ?_
                  (try simp only [Act.put, List.setIfInBounds_toArray, List.set_cons_zero, List.set_cons_succ])
                  refine wpAnyH_take (i := 8) (oi := { dst := (some 89), op := (Go.Op.move (Go.Operand.tmp 8)), type := 26, pos := "law.go:82", after := #[{ on := 2, ground := Go.Ground.guard }], guard := (some (2, true)) }) (v := ?_) rfl (by kernel_rfl) (by kernel_rfl) (by kernel_rfl) (fun _ _ _ h => h) (Or.inl ⟨by rfl, (by intro w hSw; (try dsimp only at hSw); go_simp; try with_reducible rfl)⟩) (by assumption) ?_
                  (try simp only [Act.put, List.setIfInBounds_toArray, List.set_cons_zero, List.set_cons_succ])
                  refine wpAnyH_take (i := 9) (oi := { dst := (some 90), op := (Go.Op.move (Go.Operand.tmp 11)), type := 3, pos := "law.go:82", after := #[{ on := 2, ground := Go.Ground.guard }], guard := (some (2, true)) }) (v := ?_) rfl (by kernel_rfl) (by kernel_rfl) (by kernel_rfl) (fun _ _ _ h => h) (Or.inl ⟨by rfl, (by intro w hSw; (try dsimp only at hSw); go_simp; try with_reducible rfl)⟩) (by assumption) ?_
                  (try simp only [Act.put, List.setIfInBounds_toArray, List.set_cons_zero, List.set_cons_succ])
                  refine wpAnyH_take (i := 10) (oi := { dst := (some 91), op := (Go.Op.indexAddr 26 (Go.Operand.tmp 89) (Go.Operand.tmp 90)), type := 0, pos := "law.go:82", after := #[{ on := 8, ground := Go.Ground.data }, { on := 9, ground := Go.Ground.data }, { on := 2, ground := Go.Ground.guard }], guard := (some (2, true)) }) (v := ?_) rfl (by kernel_rfl) (by kernel_rfl) (by kernel_rfl) (fun _ _ _ h => h) (Or.inl ⟨by rfl, (by intro w hSw; (try dsimp only at hSw); go_simp; try with_reducible rfl)⟩) (by assumption) ?_
                  (try simp only [Act.put, List.setIfInBounds_toArray, List.set_cons_zero, List.set_cons_succ])
                  refine wpAnyH_take (i := 11) (oi := { dst := (some 92), op := (Go.Op.load 3 (Go.Operand.tmp 91)), type := 3, pos := "law.go:82", after := #[{ on := 10, ground := Go.Ground.data }, { on := 2, ground := Go.Ground.guard }], guard := (some (2, true)) }) (v := ?_) rfl (by kernel_rfl) (by kernel_rfl) (by kernel_rfl) (fun _ _ _ h => h) (Or.inl ⟨by rfl, (by intro w hSw; (try dsimp only at hSw); go_simp; try with_reducible rfl)⟩) (by assumption) ?_
                  (try simp only [Act.put, List.setIfInBounds_toArray, List.set_cons_zero, List.set_cons_succ])
                  refine wpAnyH_take (i := 12) (oi := { dst := (some 93), op := (Go.Op.binOp Go.BinOp.geq 3 (Go.Operand.tmp 88) (Go.Operand.tmp 92) 3), type := 4, pos := "law.go:82", after := #[{ on := 7, ground := Go.Ground.data }, { on := 11, ground := Go.Ground.data }, { on := 2, ground := Go.Ground.guard }], guard := (some (2, true)) }) (v := ?_) rfl (by kernel_rfl) (by kernel_rfl) (by kernel_rfl) (fun _ _ _ h => h) (Or.inl ⟨by rfl, (by intro w hSw; (try dsimp only at hSw); go_simp; try with_reducible rfl)⟩) (by assumption) ?_
                  (try simp only [Act.put, List.setIfInBounds_toArray, List.set_cons_zero, List.set_cons_succ])
                  refine wpAnyH_take (i := 13) (oi := { dst := (some 94), op := (Go.Op.pick (Go.Operand.tmp 83) (Go.Operand.tmp 93) (Go.Operand.const (Go.Value.bool false))), type := 4, pos := "law.go:82", after := #[{ on := 2, ground := Go.Ground.data }, { on := 12, ground := Go.Ground.data }], guard := none }) (v := ?_) rfl (by kernel_rfl) (by kernel_rfl) (by kernel_rfl) (fun _ _ _ h => h) (Or.inl ⟨by rfl, (by intro w hSw; (try dsimp only at hSw); go_simp; try with_reducible rfl)⟩) (by assumption) ?_
                  (try simp only [Act.put, List.setIfInBounds_toArray, List.set_cons_zero, List.set_cons_succ])
                  refine wpAnyH_done (by kernel_rfl) ?_ _
                  go_wp2
                  go_roundg g2
                  case measure => omega
                  case rel => exact ⟨j + 1 + 1, by have := HJ.out; omega, by go_num, by rw [HIN.out]; simp, ⟨HX.out.drew⟩⟩
            · obtain rfl : j0 = L.length := by omega
              rw [List.take_length]
              have hone := HONE.out k hlt
              have hbl : regBegins (.mk k0 nm l) g (tk ++ [(k : Int)]) ≤ 1048576 * 3 := by
                unfold regBegins
                split
                · have := runS_le (mcT g (.mk k0 nm l)) (mcF g (.mk k0 nm l)) (mcP g (.mk k0 nm l)) (tk ++ [(k : Int)]) startS
                  rw [List.length_append] at this
                  unfold regRun
                  simp only [List.length_singleton] at this
                  omega
                · omega
              obtain ⟨m, hm⟩ : ∃ m, m = regBegins (.mk k0 nm l) g (tk ++ [(k : Int)]) := ⟨_, rfl⟩
              rw [← hm] at hone hbl
              have HMM := As.mk hm
              have HUx := As.mk (HC.out.trans HX.out (fun _ _ h => h))
              have hzx := HUx.out.size
              clear hm
              obtain ⟨h0, h1, h2⟩ := HS.out _ (HUc.out.trans HUx.out.drew (fun _ _ h => h))
              cases hq : decide ((k : Int) ∈ L)
              · rw [hq] at hone
                have hm1 : ((m : Int) == (tk.length : Int) + 1) = false := by simp at hone; simp; omega
                have hm2 : (m == tk.length + 1) = false := by simp at hone; simp; omega
                have hm3 : decide (m = tk.length + 1) = false := by simp at hone; simp; omega
                have hm4 : decide ((m : Int) = (tk.length : Int) + 1) = false := by simp at hone; simp; omega
                clear hone
                have hwt : IntKind.i64.wrap ((tk.length : Int) + 1) = (tk.length : Int) + 1 := IntWalk.i64_in _ (by omega)
                have HKL := As.mk (show ¬ (k : Int) ∈ L from by simpa using hq)
                clear hq
                go_wp2
                refine wp_region_held_drew (S := (fun v => v.cell? ⟨w.heap.size, 0, none⟩ = some (.int .i64 k0) ∧ v.cell? ⟨w.heap.size, 1, none⟩ = some (.string nm) ∧ v.cell? ⟨w.heap.size, 2, none⟩ = some (.slice A l.length c))) (by kernel_rfl) ?_ (fun hHeld => ?_)
                · exact HS.out _ (HUc.out.trans HUx.out.drew (fun _ _ h => h))
                refine wpAnyH_take (i := 0) (oi := { dst := (some 95), op := (Go.Op.move (Go.Operand.tmp 10)), type := 4, pos := "law.go:86", after := #[], guard := none }) (v := ?_) rfl (by kernel_rfl) (by kernel_rfl) (by kernel_rfl) (fun _ _ _ h => h) (Or.inl ⟨by rfl, (by intro w hSw; (try dsimp only at hSw); go_simp; try with_reducible rfl)⟩) (by assumption) ?_
                (try simp only [Act.put, List.setIfInBounds_toArray, List.set_cons_zero, List.set_cons_succ])
                refine wpAnyH_take (i := 1) (oi := { dst := (some 96), op := (Go.Op.load 24 (Go.Operand.tmp 3)), type := 24, pos := "law.go:86", after := #[], guard := none }) (v := ?_) rfl (by kernel_rfl) (by kernel_rfl) (by kernel_rfl) (fun _ _ _ h => h) (Or.inl ⟨by rfl, (by intro w hSw; (try dsimp only at hSw); go_simp; try with_reducible rfl)⟩) (by assumption) ?_
                (try simp only [Act.put, List.setIfInBounds_toArray, List.set_cons_zero, List.set_cons_succ])
                refine wpAnyH_take (i := 2) (oi := { dst := (some 97), op := (Go.Op.move (Go.Operand.tmp 1)), type := 25, pos := "law.go:86", after := #[], guard := none }) (v := ?_) rfl (by kernel_rfl) (by kernel_rfl) (by kernel_rfl) (fun _ _ _ h => h) (Or.inl ⟨by rfl, (by intro w hSw; (try dsimp only at hSw); go_simp; try with_reducible rfl)⟩) (by assumption) ?_
                (try simp only [Act.put, List.setIfInBounds_toArray, List.set_cons_zero, List.set_cons_succ])
                refine wpAnyH_take (i := 4) (oi := { dst := (some 99), op := (Go.Op.move (Go.Operand.tmp 2)), type := 26, pos := "law.go:86", after := #[], guard := none }) (v := ?_) rfl (by kernel_rfl) (by kernel_rfl) (by kernel_rfl) (fun _ _ _ h => h) (Or.inl ⟨by rfl, (by intro w hSw; (try dsimp only at hSw); go_simp; try with_reducible rfl)⟩) (by assumption) ?_
                (try simp only [Act.put, List.setIfInBounds_toArray, List.set_cons_zero, List.set_cons_succ])
                refine wpAnyH_take (i := 5) (oi := { dst := (some 100), op := (Go.Op.move (Go.Operand.tmp 7)), type := 3, pos := "law.go:86", after := #[], guard := none }) (v := ?_) rfl (by kernel_rfl) (by kernel_rfl) (by kernel_rfl) (fun _ _ _ h => h) (Or.inl ⟨by rfl, (by intro w hSw; (try dsimp only at hSw); go_simp; try with_reducible rfl)⟩) (by assumption) ?_
                (try simp only [Act.put, List.setIfInBounds_toArray, List.set_cons_zero, List.set_cons_succ])
                refine wpAnyH_take (i := 6) (oi := { dst := (some 101), op := (Go.Op.slice 26 (Go.Operand.tmp 99) none (some (Go.Operand.tmp 100)) none), type := 26, pos := "law.go:86", after := #[{ on := 4, ground := Go.Ground.data }, { on := 5, ground := Go.Ground.data }], guard := none }) (v := ?_) rfl (by kernel_rfl) (by kernel_rfl) (by kernel_rfl) (fun _ _ _ h => h) (Or.inl ⟨by rfl, (by intro w hSw; (try dsimp only at hSw); go_simp; try with_reducible rfl)⟩) (by assumption) ?_
                (try simp only [Act.put, List.setIfInBounds_toArray, List.set_cons_zero, List.set_cons_succ])
                refine wpAnyH_take (i := 8) (oi := { dst := (some 103), op := (Go.Op.move (Go.Operand.tmp 9)), type := 3, pos := "law.go:86", after := #[], guard := none }) (v := ?_) rfl (by kernel_rfl) (by kernel_rfl) (by kernel_rfl) (fun _ _ _ h => h) (Or.inl ⟨by rfl, (by intro w hSw; (try dsimp only at hSw); go_simp; try with_reducible rfl)⟩) (by assumption) ?_
                (try simp only [Act.put, List.setIfInBounds_toArray, List.set_cons_zero, List.set_cons_succ])
                refine wpAnyH_take (i := 12) (oi := { dst := (some 107), op := (Go.Op.move (Go.Operand.tmp 7)), type := 3, pos := "law.go:86", after := #[], guard := none }) (v := ?_) rfl (by kernel_rfl) (by kernel_rfl) (by kernel_rfl) (fun _ _ _ h => h) (Or.inl ⟨by rfl, (by intro w hSw; (try dsimp only at hSw); go_simp; try with_reducible rfl)⟩) (by assumption) ?_
                (try simp only [Act.put, List.setIfInBounds_toArray, List.set_cons_zero, List.set_cons_succ])
                refine wpAnyH_take (i := 13) (oi := { dst := (some 108), op := (Go.Op.binOp Go.BinOp.add 3 (Go.Operand.tmp 107) (Go.Operand.const (Go.Value.int Go.IntKind.i64 1)) 3), type := 3, pos := "law.go:86", after := #[{ on := 12, ground := Go.Ground.data }], guard := none }) (v := ?_) rfl (by kernel_rfl) (by kernel_rfl) (by kernel_rfl) (fun _ _ _ h => h) (Or.inl ⟨by rfl, (by intro w hSw; (try dsimp only at hSw); go_simp; try with_reducible rfl)⟩) (by assumption) ?_
                (try simp only [Act.put, List.setIfInBounds_toArray, List.set_cons_zero, List.set_cons_succ])
                refine wpAnyH_ready (rs := [3, 9]) (by kernel_rfl) (by simp) (AllReadyH.cons (o := { dst := (some 98), op := (Go.Op.buildSlice 26 0 #[]), type := 26, pos := "law.go:86", after := #[], guard := none }) rfl (fun K hK => ?_) (AllReadyH.cons (o := { dst := (some 104), op := (Go.Op.buildSlice 26 1 #[(0, (Go.Operand.tmp 103))]), type := 26, pos := "law.go:86", after := #[{ on := 8, ground := Go.Ground.data }], guard := none }) rfl (fun K hK => ?_) AllReadyH.nil))
                · skip
                  go_simp
                  refine hK.out _ _ (by exact HS.out _ (HUc.out.trans (HUx.out.drew.alloc _) (fun _ _ h => h))) (fun hHeld => ?_)
                  clear hK K
                  (try simp only [Act.put, List.setIfInBounds_toArray, List.set_cons_zero, List.set_cons_succ])
                  refine wpAnyH_ready (rs := [7, 9]) (by kernel_rfl) (by simp) (AllReadyH.cons (o := { dst := (some 102), op := (Go.Op.call { callee := (Go.Callee.builtin Go.Builtin.append), args := #[(Go.Operand.tmp 98), (Go.Operand.tmp 101)], argTypes := #[26, 26] }), type := 26, pos := "law.go:86", after := #[{ on := 3, ground := Go.Ground.data }, { on := 6, ground := Go.Ground.data }], guard := none }) rfl (fun K hK => ?_) (AllReadyH.cons (o := { dst := (some 104), op := (Go.Op.buildSlice 26 1 #[(0, (Go.Operand.tmp 103))]), type := 26, pos := "law.go:86", after := #[{ on := 8, ground := Go.Ground.data }], guard := none }) rfl (fun K hK => ?_) AllReadyH.nil))
                  · skip
                    refine Rp.step_append_row intR (c := cw) (Rp.own_empty (F := fun _ => True) intR (heap_alloc_new wr.drew _) trivial) (Rp.row'_of (HRT.out _ (HUc.out.trans (HUx.out.drew.alloc _) (fun _ _ h => h))) (fun _ _ h => h)) (Fz := fun _ => False) (fun _ h => h.elim) (by rfl) _ _ 26 (.int .i64 0) 8 (by rfl) Try.underlying26 int_info rfl (by decide) (by decide) (by rfl) (by rfl) (by simp; omega) ?_
                    intro v1 w7 ho1 hu1 hat1
                    have HO1 := As.mk (int_own_fp ho1); have HB7 := As.mk hu1
                    have HU7 := As.mk (Upd.trans (HUx.out.drew.alloc _) hu1 (fun q hq h => by simp [Value.ownBlock] at h; omega))
                    have HV1 := As.mk (show ∀ q, v1.ownBlock = some q → wc.heap.size ≤ q from by intro q hq; rcases hat1 with h | ⟨b1, h, hb1⟩ <;> (rw [h] at hq; simp [Value.ownBlock] at hq; (try simp at hb1); omega))
                    clear ho1 hu1 hat1
                    refine hK.out _ _ (by exact HS.out _ (HUc.out.trans HU7.out (fun _ _ h => h))) (fun hHeld => ?_)
                    clear hK K
                    (try simp only [Act.put, List.setIfInBounds_toArray, List.set_cons_zero, List.set_cons_succ])
                    refine wpAnyH_ready (rs := [9]) (by kernel_rfl) (by simp) (AllReadyH.cons (o := { dst := (some 104), op := (Go.Op.buildSlice 26 1 #[(0, (Go.Operand.tmp 103))]), type := 26, pos := "law.go:86", after := #[{ on := 8, ground := Go.Ground.data }], guard := none }) rfl (fun K hK => ?_) AllReadyH.nil)
                    go_simp
                    refine hK.out _ _ (by exact HS.out _ (HUc.out.trans (HU7.out.alloc _) (fun _ _ h => h))) (fun hHeld => ?_)
                    clear hK K
                    (try simp only [Act.put, List.setIfInBounds_toArray, List.set_cons_zero, List.set_cons_succ])
                    refine wpAnyH_ready (rs := [10]) (by kernel_rfl) (by simp) (AllReadyH.cons (o := { dst := (some 105), op := (Go.Op.call { callee := (Go.Callee.builtin Go.Builtin.append), args := #[(Go.Operand.tmp 102), (Go.Operand.tmp 104)], argTypes := #[26, 26] }), type := 26, pos := "law.go:86", after := #[{ on := 7, ground := Go.Ground.data }, { on := 9, ground := Go.Ground.data }, { on := 7, ground := Go.Ground.chain }], guard := none }) rfl (fun K hK => ?_) AllReadyH.nil)
                    refine Rp.step_append_row intR (c := 1) (Rp.own_alloc HO1.out _) (Rp.row'_one (F := fun _ => False) (x := (k : Int)) (cs := [.int .i64 k]) rfl (heap_alloc_new w7 _)) (Fz := fun _ => False) (fun _ h => h.elim) (by rfl) _ _ 26 (.int .i64 0) 8 (by rfl) Try.underlying26 int_info rfl (by decide) (by decide) (by rfl) (by rfl) (by simp; omega) ?_
                    intro v2 w9 ho2 hu2 hat2
                    have ho3 := (int_own_fp ho2)
                    obtain ⟨ab, hab⟩ : ∃ ab, ab = tk ++ [(k : Int)] := ⟨_, rfl⟩
                    rw [List.nil_append, ← hab] at ho3
                    have hbl9 : ab.length ≤ 1048576 * 4 := (by rw [hab, List.length_append, List.length_singleton]; omega)
                    have HAB := As.mk hab
                    have HU9 := As.mk (Upd.trans (HU7.out.alloc _) hu2 (fun q hq h => by have := HV1.out q h; omega))
                    clear hab ho2 hu2 hat2
                    obtain ⟨A2, c2, rfl, _, hr3⟩ := Rp.own_slice ho3
                    have HR9 := As.mk hr3
                    clear ho3 hr3
                    refine hK.out _ _ (by exact HS.out _ (HUc.out.trans HU9.out (fun _ _ h => h))) (fun hHeld => ?_)
                    clear hK K
                    (try simp only [Act.put, List.setIfInBounds_toArray, List.set_cons_zero, List.set_cons_succ])
                    refine wpAnyH_ready (rs := [11]) (by kernel_rfl) (by simp) (AllReadyH.cons (o := { dst := (some 106), op := (Go.Op.call { callee := (Go.Callee.value (Go.Operand.func 14)), args := #[(Go.Operand.tmp 96), (Go.Operand.tmp 97), (Go.Operand.tmp 105)], argTypes := #[24, 25, 26] }), type := 3, pos := "law.go:86", after := #[{ on := 1, ground := Go.Ground.data }, { on := 2, ground := Go.Ground.data }, { on := 10, ground := Go.Ground.data }, { on := 10, ground := Go.Ground.chain }], guard := none }) rfl (fun K hK => ?_) AllReadyH.nil)
                    go_simp
                    go_at_call 14
                    refine (HBEG.out _ (HUc.out.trans HU9.out (fun _ _ h => h)) ab _ A2 c2 HR9.out hbl9).mono ?_
                    rintro e wf ⟨rfl, hu⟩
                    rw [HAB.out, ← HMM.out]
                    have HUf := As.mk (Upd.trans HU9.out hu (fun _ _ h => h))
                    clear hu
                    refine hK.out _ _ (by exact HS.out _ (HUc.out.trans HUf.out (fun _ _ h => h))) (fun hHeld => ?_)
                    clear hK K
                    (try simp only [Act.put, List.setIfInBounds_toArray, List.set_cons_zero, List.set_cons_succ])
                    refine wpAnyH_take (i := 14) (oi := { dst := (some 109), op := (Go.Op.binOp Go.BinOp.eql 3 (Go.Operand.tmp 106) (Go.Operand.tmp 108) 3), type := 4, pos := "law.go:86", after := #[{ on := 11, ground := Go.Ground.data }, { on := 13, ground := Go.Ground.data }], guard := none }) (v := ?_) rfl (by kernel_rfl) (by kernel_rfl) (by kernel_rfl) (fun _ _ _ h => h) (Or.inl ⟨by rfl, (by intro w hSw; (try dsimp only at hSw); go_simp; try with_reducible rfl)⟩) (by assumption) ?_
                    (try simp only [Act.put, List.setIfInBounds_toArray, List.set_cons_zero, List.set_cons_succ])
                    refine wpAnyH_take (i := 15) (oi := { dst := (some 110), op := (Go.Op.binOp Go.BinOp.neq 4 (Go.Operand.tmp 95) (Go.Operand.tmp 109) 4), type := 4, pos := "law.go:86", after := #[{ on := 0, ground := Go.Ground.data }, { on := 14, ground := Go.Ground.data }], guard := none }) (v := ?_) rfl (by kernel_rfl) (by kernel_rfl) (by kernel_rfl) (fun _ _ _ h => h) (Or.inl ⟨by rfl, (by intro w hSw; (try dsimp only at hSw); go_simp; try with_reducible rfl)⟩) (by assumption) ?_
                    (try simp only [Act.put, List.setIfInBounds_toArray, List.set_cons_zero, List.set_cons_succ])
                    refine wpAnyH_done (by kernel_rfl) ?_ _
                    by_cases hnw : tk.length < word.length
                    · have hw1 : decide ((tk.length : Int) < (word.length : Int)) = true := by simp; omega
                      have hw2 : decide (tk.length < word.length) = true := by simp; omega
                      go_wp2
                      go_roundg g1
                      case measure => omega
                      case rel => exact ⟨k + 1, by have := HK.out; omega, by go_num, ⟨HUf.out⟩⟩
                    · have hw1 : decide ((tk.length : Int) < (word.length : Int)) = false := by simp; omega
                      have hw2 : decide (tk.length < word.length) = false := by simp; omega
                      go_wp2
                      go_roundg g1
                      case measure => omega
                      case rel => exact ⟨k + 1, by have := HK.out; omega, by go_num, ⟨HUf.out⟩⟩
                  · skip
                    go_simp
                    refine hK.out _ _ (by exact HS.out _ (HUc.out.trans ((HUx.out.drew.alloc _).alloc _) (fun _ _ h => h))) (fun hHeld => ?_)
                    clear hK K
                    (try simp only [Act.put, List.setIfInBounds_toArray, List.set_cons_zero, List.set_cons_succ])
                    refine wpAnyH_ready (rs := [7]) (by kernel_rfl) (by simp) (AllReadyH.cons (o := { dst := (some 102), op := (Go.Op.call { callee := (Go.Callee.builtin Go.Builtin.append), args := #[(Go.Operand.tmp 98), (Go.Operand.tmp 101)], argTypes := #[26, 26] }), type := 26, pos := "law.go:86", after := #[{ on := 3, ground := Go.Ground.data }, { on := 6, ground := Go.Ground.data }], guard := none }) rfl (fun K hK => ?_) AllReadyH.nil)
                    refine Rp.step_append_row intR (c := cw) (Rp.own_empty (F := fun _ => True) intR ((Below.heap_alloc (wr.drew.alloc _) _ _ (by simp)).trans (heap_alloc_new wr.drew _)) trivial) (Rp.row'_of (HRT.out _ (HUc.out.trans ((HUx.out.drew.alloc _).alloc _) (fun _ _ h => h))) (fun _ _ h => h)) (Fz := fun _ => False) (fun _ h => h.elim) (by rfl) _ _ 26 (.int .i64 0) 8 (by rfl) Try.underlying26 int_info rfl (by decide) (by decide) (by rfl) (by rfl) (by simp; omega) ?_
                    intro v1 w7 ho1 hu1 hat1
                    have HO1 := As.mk (int_own_fp ho1); have HB7 := As.mk hu1
                    have HU7 := As.mk (Upd.trans ((HUx.out.drew.alloc _).alloc _) hu1 (fun q hq h => by simp [Value.ownBlock] at h; omega))
                    have HV1 := As.mk (show ∀ q, v1.ownBlock = some q → wc.heap.size ≤ q from by intro q hq; rcases hat1 with h | ⟨b1, h, hb1⟩ <;> (rw [h] at hq; simp [Value.ownBlock] at hq; (try simp at hb1); omega))
                    clear ho1 hu1 hat1
                    refine hK.out _ _ (by exact HS.out _ (HUc.out.trans HU7.out (fun _ _ h => h))) (fun hHeld => ?_)
                    clear hK K
                    (try simp only [Act.put, List.setIfInBounds_toArray, List.set_cons_zero, List.set_cons_succ])
                    refine wpAnyH_ready (rs := [10]) (by kernel_rfl) (by simp) (AllReadyH.cons (o := { dst := (some 105), op := (Go.Op.call { callee := (Go.Callee.builtin Go.Builtin.append), args := #[(Go.Operand.tmp 102), (Go.Operand.tmp 104)], argTypes := #[26, 26] }), type := 26, pos := "law.go:86", after := #[{ on := 7, ground := Go.Ground.data }, { on := 9, ground := Go.Ground.data }, { on := 7, ground := Go.Ground.chain }], guard := none }) rfl (fun K hK => ?_) AllReadyH.nil)
                    refine Rp.step_append_row intR (c := 1) HO1.out (Rp.row'_one (F := fun _ => False) (x := (k : Int)) (cs := [.int .i64 k]) rfl (Upd.keepB HB7.out (heap_alloc2_new wr.drew _ _) (by simp [Value.ownBlock]))) (Fz := fun _ => False) (fun _ h => h.elim) (by rfl) _ _ 26 (.int .i64 0) 8 (by rfl) Try.underlying26 int_info rfl (by decide) (by decide) (by rfl) (by rfl) (by simp; omega) ?_
                    intro v2 w9 ho2 hu2 hat2
                    have ho3 := (int_own_fp ho2)
                    obtain ⟨ab, hab⟩ : ∃ ab, ab = tk ++ [(k : Int)] := ⟨_, rfl⟩
                    rw [List.nil_append, ← hab] at ho3
                    have hbl9 : ab.length ≤ 1048576 * 4 := (by rw [hab, List.length_append, List.length_singleton]; omega)
                    have HAB := As.mk hab
                    have HU9 := As.mk (Upd.trans HU7.out hu2 (fun q hq h => by have := HV1.out q h; omega))
                    clear hab ho2 hu2 hat2
                    obtain ⟨A2, c2, rfl, _, hr3⟩ := Rp.own_slice ho3
                    have HR9 := As.mk hr3
                    clear ho3 hr3
                    refine hK.out _ _ (by exact HS.out _ (HUc.out.trans HU9.out (fun _ _ h => h))) (fun hHeld => ?_)
                    clear hK K
                    (try simp only [Act.put, List.setIfInBounds_toArray, List.set_cons_zero, List.set_cons_succ])
                    refine wpAnyH_ready (rs := [11]) (by kernel_rfl) (by simp) (AllReadyH.cons (o := { dst := (some 106), op := (Go.Op.call { callee := (Go.Callee.value (Go.Operand.func 14)), args := #[(Go.Operand.tmp 96), (Go.Operand.tmp 97), (Go.Operand.tmp 105)], argTypes := #[24, 25, 26] }), type := 3, pos := "law.go:86", after := #[{ on := 1, ground := Go.Ground.data }, { on := 2, ground := Go.Ground.data }, { on := 10, ground := Go.Ground.data }, { on := 10, ground := Go.Ground.chain }], guard := none }) rfl (fun K hK => ?_) AllReadyH.nil)
                    go_simp
                    go_at_call 14
                    refine (HBEG.out _ (HUc.out.trans HU9.out (fun _ _ h => h)) ab _ A2 c2 HR9.out hbl9).mono ?_
                    rintro e wf ⟨rfl, hu⟩
                    rw [HAB.out, ← HMM.out]
                    have HUf := As.mk (Upd.trans HU9.out hu (fun _ _ h => h))
                    clear hu
                    refine hK.out _ _ (by exact HS.out _ (HUc.out.trans HUf.out (fun _ _ h => h))) (fun hHeld => ?_)
                    clear hK K
                    (try simp only [Act.put, List.setIfInBounds_toArray, List.set_cons_zero, List.set_cons_succ])
                    refine wpAnyH_take (i := 14) (oi := { dst := (some 109), op := (Go.Op.binOp Go.BinOp.eql 3 (Go.Operand.tmp 106) (Go.Operand.tmp 108) 3), type := 4, pos := "law.go:86", after := #[{ on := 11, ground := Go.Ground.data }, { on := 13, ground := Go.Ground.data }], guard := none }) (v := ?_) rfl (by kernel_rfl) (by kernel_rfl) (by kernel_rfl) (fun _ _ _ h => h) (Or.inl ⟨by rfl, (by intro w hSw; (try dsimp only at hSw); go_simp; try with_reducible rfl)⟩) (by assumption) ?_
                    (try simp only [Act.put, List.setIfInBounds_toArray, List.set_cons_zero, List.set_cons_succ])
                    refine wpAnyH_take (i := 15) (oi := { dst := (some 110), op := (Go.Op.binOp Go.BinOp.neq 4 (Go.Operand.tmp 95) (Go.Operand.tmp 109) 4), type := 4, pos := "law.go:86", after := #[{ on := 0, ground := Go.Ground.data }, { on := 14, ground := Go.Ground.data }], guard := none }) (v := ?_) rfl (by kernel_rfl) (by kernel_rfl) (by kernel_rfl) (fun _ _ _ h => h) (Or.inl ⟨by rfl, (by intro w hSw; (try dsimp only at hSw); go_simp; try with_reducible rfl)⟩) (by assumption) ?_
                    (try simp only [Act.put, List.setIfInBounds_toArray, List.set_cons_zero, List.set_cons_succ])
                    refine wpAnyH_done (by kernel_rfl) ?_ _
                    by_cases hnw : tk.length < word.length
                    · have hw1 : decide ((tk.length : Int) < (word.length : Int)) = true := by simp; omega
                      have hw2 : decide (tk.length < word.length) = true := by simp; omega
                      go_wp2
                      go_roundg g1
                      case measure => omega
                      case rel => exact ⟨k + 1, by have := HK.out; omega, by go_num, ⟨HUf.out⟩⟩
                    · have hw1 : decide ((tk.length : Int) < (word.length : Int)) = false := by simp; omega
                      have hw2 : decide (tk.length < word.length) = false := by simp; omega
                      go_wp2
                      go_roundg g1
                      case measure => omega
                      case rel => exact ⟨k + 1, by have := HK.out; omega, by go_num, ⟨HUf.out⟩⟩
                · skip
                  go_simp
                  refine hK.out _ _ (by exact HS.out _ (HUc.out.trans (HUx.out.drew.alloc _) (fun _ _ h => h))) (fun hHeld => ?_)
                  clear hK K
                  (try simp only [Act.put, List.setIfInBounds_toArray, List.set_cons_zero, List.set_cons_succ])
                  refine wpAnyH_ready (rs := [3]) (by kernel_rfl) (by simp) (AllReadyH.cons (o := { dst := (some 98), op := (Go.Op.buildSlice 26 0 #[]), type := 26, pos := "law.go:86", after := #[], guard := none }) rfl (fun K hK => ?_) AllReadyH.nil)
                  go_simp
                  refine hK.out _ _ (by exact HS.out _ (HUc.out.trans ((HUx.out.drew.alloc _).alloc _) (fun _ _ h => h))) (fun hHeld => ?_)
                  clear hK K
                  (try simp only [Act.put, List.setIfInBounds_toArray, List.set_cons_zero, List.set_cons_succ])
                  refine wpAnyH_ready (rs := [7]) (by kernel_rfl) (by simp) (AllReadyH.cons (o := { dst := (some 102), op := (Go.Op.call { callee := (Go.Callee.builtin Go.Builtin.append), args := #[(Go.Operand.tmp 98), (Go.Operand.tmp 101)], argTypes := #[26, 26] }), type := 26, pos := "law.go:86", after := #[{ on := 3, ground := Go.Ground.data }, { on := 6, ground := Go.Ground.data }], guard := none }) rfl (fun K hK => ?_) AllReadyH.nil)
                  refine Rp.step_append_row intR (c := cw) (Rp.own_empty (F := fun _ => True) intR (heap_alloc2_new wr.drew _ _) trivial) (Rp.row'_of (HRT.out _ (HUc.out.trans ((HUx.out.drew.alloc _).alloc _) (fun _ _ h => h))) (fun _ _ h => h)) (Fz := fun _ => False) (fun _ h => h.elim) (by rfl) _ _ 26 (.int .i64 0) 8 (by rfl) Try.underlying26 int_info rfl (by decide) (by decide) (by rfl) (by rfl) (by simp; omega) ?_
                  intro v1 w7 ho1 hu1 hat1
                  have HO1 := As.mk (int_own_fp ho1); have HB7 := As.mk hu1
                  have HU7 := As.mk (Upd.trans ((HUx.out.drew.alloc _).alloc _) hu1 (fun q hq h => by simp [Value.ownBlock] at h; omega))
                  have HV1 := As.mk (show ∀ q, v1.ownBlock = some q → wc.heap.size ≤ q from by intro q hq; rcases hat1 with h | ⟨b1, h, hb1⟩ <;> (rw [h] at hq; simp [Value.ownBlock] at hq; (try simp at hb1); omega))
                  clear ho1 hu1 hat1
                  refine hK.out _ _ (by exact HS.out _ (HUc.out.trans HU7.out (fun _ _ h => h))) (fun hHeld => ?_)
                  clear hK K
                  (try simp only [Act.put, List.setIfInBounds_toArray, List.set_cons_zero, List.set_cons_succ])
                  refine wpAnyH_ready (rs := [10]) (by kernel_rfl) (by simp) (AllReadyH.cons (o := { dst := (some 105), op := (Go.Op.call { callee := (Go.Callee.builtin Go.Builtin.append), args := #[(Go.Operand.tmp 102), (Go.Operand.tmp 104)], argTypes := #[26, 26] }), type := 26, pos := "law.go:86", after := #[{ on := 7, ground := Go.Ground.data }, { on := 9, ground := Go.Ground.data }, { on := 7, ground := Go.Ground.chain }], guard := none }) rfl (fun K hK => ?_) AllReadyH.nil)
                  refine Rp.step_append_row intR (c := 1) HO1.out (Rp.row'_one (F := fun _ => False) (x := (k : Int)) (cs := [.int .i64 k]) rfl (Upd.keepB HB7.out ((Below.heap_alloc (wr.drew.alloc _) _ _ (by simp)).trans (heap_alloc_new wr.drew _)) (by simp [Value.ownBlock]))) (Fz := fun _ => False) (fun _ h => h.elim) (by rfl) _ _ 26 (.int .i64 0) 8 (by rfl) Try.underlying26 int_info rfl (by decide) (by decide) (by rfl) (by rfl) (by simp; omega) ?_
                  intro v2 w9 ho2 hu2 hat2
                  have ho3 := (int_own_fp ho2)
                  obtain ⟨ab, hab⟩ : ∃ ab, ab = tk ++ [(k : Int)] := ⟨_, rfl⟩
                  rw [List.nil_append, ← hab] at ho3
                  have hbl9 : ab.length ≤ 1048576 * 4 := (by rw [hab, List.length_append, List.length_singleton]; omega)
                  have HAB := As.mk hab
                  have HU9 := As.mk (Upd.trans HU7.out hu2 (fun q hq h => by have := HV1.out q h; omega))
                  clear hab ho2 hu2 hat2
                  obtain ⟨A2, c2, rfl, _, hr3⟩ := Rp.own_slice ho3
                  have HR9 := As.mk hr3
                  clear ho3 hr3
                  refine hK.out _ _ (by exact HS.out _ (HUc.out.trans HU9.out (fun _ _ h => h))) (fun hHeld => ?_)
                  clear hK K
                  (try simp only [Act.put, List.setIfInBounds_toArray, List.set_cons_zero, List.set_cons_succ])
                  refine wpAnyH_ready (rs := [11]) (by kernel_rfl) (by simp) (AllReadyH.cons (o := { dst := (some 106), op := (Go.Op.call { callee := (Go.Callee.value (Go.Operand.func 14)), args := #[(Go.Operand.tmp 96), (Go.Operand.tmp 97), (Go.Operand.tmp 105)], argTypes := #[24, 25, 26] }), type := 3, pos := "law.go:86", after := #[{ on := 1, ground := Go.Ground.data }, { on := 2, ground := Go.Ground.data }, { on := 10, ground := Go.Ground.data }, { on := 10, ground := Go.Ground.chain }], guard := none }) rfl (fun K hK => ?_) AllReadyH.nil)
                  go_simp
                  go_at_call 14
                  refine (HBEG.out _ (HUc.out.trans HU9.out (fun _ _ h => h)) ab _ A2 c2 HR9.out hbl9).mono ?_
                  rintro e wf ⟨rfl, hu⟩
                  rw [HAB.out, ← HMM.out]
                  have HUf := As.mk (Upd.trans HU9.out hu (fun _ _ h => h))
                  clear hu
                  refine hK.out _ _ (by exact HS.out _ (HUc.out.trans HUf.out (fun _ _ h => h))) (fun hHeld => ?_)
                  clear hK K
                  (try simp only [Act.put, List.setIfInBounds_toArray, List.set_cons_zero, List.set_cons_succ])
                  refine wpAnyH_take (i := 14) (oi := { dst := (some 109), op := (Go.Op.binOp Go.BinOp.eql 3 (Go.Operand.tmp 106) (Go.Operand.tmp 108) 3), type := 4, pos := "law.go:86", after := #[{ on := 11, ground := Go.Ground.data }, { on := 13, ground := Go.Ground.data }], guard := none }) (v := ?_) rfl (by kernel_rfl) (by kernel_rfl) (by kernel_rfl) (fun _ _ _ h => h) (Or.inl ⟨by rfl, (by intro w hSw; (try dsimp only at hSw); go_simp; try with_reducible rfl)⟩) (by assumption) ?_
                  (try simp only [Act.put, List.setIfInBounds_toArray, List.set_cons_zero, List.set_cons_succ])
                  refine wpAnyH_take (i := 15) (oi := { dst := (some 110), op := (Go.Op.binOp Go.BinOp.neq 4 (Go.Operand.tmp 95) (Go.Operand.tmp 109) 4), type := 4, pos := "law.go:86", after := #[{ on := 0, ground := Go.Ground.data }, { on := 14, ground := Go.Ground.data }], guard := none }) (v := ?_) rfl (by kernel_rfl) (by kernel_rfl) (by kernel_rfl) (fun _ _ _ h => h) (Or.inl ⟨by rfl, (by intro w hSw; (try dsimp only at hSw); go_simp; try with_reducible rfl)⟩) (by assumption) ?_
                  (try simp only [Act.put, List.setIfInBounds_toArray, List.set_cons_zero, List.set_cons_succ])
                  refine wpAnyH_done (by kernel_rfl) ?_ _
                  by_cases hnw : tk.length < word.length
                  · have hw1 : decide ((tk.length : Int) < (word.length : Int)) = true := by simp; omega
                    have hw2 : decide (tk.length < word.length) = true := by simp; omega
                    go_wp2
                    go_roundg g1
                    case measure => omega
                    case rel => exact ⟨k + 1, by have := HK.out; omega, by go_num, ⟨HUf.out⟩⟩
                  · have hw1 : decide ((tk.length : Int) < (word.length : Int)) = false := by simp; omega
                    have hw2 : decide (tk.length < word.length) = false := by simp; omega
                    go_wp2
                    go_roundg g1
                    case measure => omega
                    case rel => exact ⟨k + 1, by have := HK.out; omega, by go_num, ⟨HUf.out⟩⟩
              · rw [hq] at hone
                have hm1 : ((m : Int) == (tk.length : Int) + 1) = true := by simp at hone; simp; omega
                have hm2 : (m == tk.length + 1) = true := by simp at hone; simp; omega
                have hm3 : decide (m = tk.length + 1) = true := by simp at hone; simp; omega
                have hm4 : decide ((m : Int) = (tk.length : Int) + 1) = true := by simp at hone; simp; omega
                clear hone
                have hwt : IntKind.i64.wrap ((tk.length : Int) + 1) = (tk.length : Int) + 1 := IntWalk.i64_in _ (by omega)
                have HKL := As.mk (show (k : Int) ∈ L from by simpa using hq)
                clear hq
                go_wp2
                refine wp_region_held_drew (S := (fun v => v.cell? ⟨w.heap.size, 0, none⟩ = some (.int .i64 k0) ∧ v.cell? ⟨w.heap.size, 1, none⟩ = some (.string nm) ∧ v.cell? ⟨w.heap.size, 2, none⟩ = some (.slice A l.length c))) (by kernel_rfl) ?_ (fun hHeld => ?_)
                · exact HS.out _ (HUc.out.trans HUx.out.drew (fun _ _ h => h))
                refine wpAnyH_take (i := 0) (oi := { dst := (some 95), op := (Go.Op.move (Go.Operand.tmp 10)), type := 4, pos := "law.go:86", after := #[], guard := none }) (v := ?_) rfl (by kernel_rfl) (by kernel_rfl) (by kernel_rfl) (fun _ _ _ h => h) (Or.inl ⟨by rfl, (by intro w hSw; (try dsimp only at hSw); go_simp; try with_reducible rfl)⟩) (by assumption) ?_
                (try simp only [Act.put, List.setIfInBounds_toArray, List.set_cons_zero, List.set_cons_succ])
                refine wpAnyH_take (i := 1) (oi := { dst := (some 96), op := (Go.Op.load 24 (Go.Operand.tmp 3)), type := 24, pos := "law.go:86", after := #[], guard := none }) (v := ?_) rfl (by kernel_rfl) (by kernel_rfl) (by kernel_rfl) (fun _ _ _ h => h) (Or.inl ⟨by rfl, (by intro w hSw; (try dsimp only at hSw); go_simp; try with_reducible rfl)⟩) (by assumption) ?_
                (try simp only [Act.put, List.setIfInBounds_toArray, List.set_cons_zero, List.set_cons_succ])
                refine wpAnyH_take (i := 2) (oi := { dst := (some 97), op := (Go.Op.move (Go.Operand.tmp 1)), type := 25, pos := "law.go:86", after := #[], guard := none }) (v := ?_) rfl (by kernel_rfl) (by kernel_rfl) (by kernel_rfl) (fun _ _ _ h => h) (Or.inl ⟨by rfl, (by intro w hSw; (try dsimp only at hSw); go_simp; try with_reducible rfl)⟩) (by assumption) ?_
                (try simp only [Act.put, List.setIfInBounds_toArray, List.set_cons_zero, List.set_cons_succ])
                refine wpAnyH_take (i := 4) (oi := { dst := (some 99), op := (Go.Op.move (Go.Operand.tmp 2)), type := 26, pos := "law.go:86", after := #[], guard := none }) (v := ?_) rfl (by kernel_rfl) (by kernel_rfl) (by kernel_rfl) (fun _ _ _ h => h) (Or.inl ⟨by rfl, (by intro w hSw; (try dsimp only at hSw); go_simp; try with_reducible rfl)⟩) (by assumption) ?_
                (try simp only [Act.put, List.setIfInBounds_toArray, List.set_cons_zero, List.set_cons_succ])
                refine wpAnyH_take (i := 5) (oi := { dst := (some 100), op := (Go.Op.move (Go.Operand.tmp 7)), type := 3, pos := "law.go:86", after := #[], guard := none }) (v := ?_) rfl (by kernel_rfl) (by kernel_rfl) (by kernel_rfl) (fun _ _ _ h => h) (Or.inl ⟨by rfl, (by intro w hSw; (try dsimp only at hSw); go_simp; try with_reducible rfl)⟩) (by assumption) ?_
                (try simp only [Act.put, List.setIfInBounds_toArray, List.set_cons_zero, List.set_cons_succ])
                refine wpAnyH_take (i := 6) (oi := { dst := (some 101), op := (Go.Op.slice 26 (Go.Operand.tmp 99) none (some (Go.Operand.tmp 100)) none), type := 26, pos := "law.go:86", after := #[{ on := 4, ground := Go.Ground.data }, { on := 5, ground := Go.Ground.data }], guard := none }) (v := ?_) rfl (by kernel_rfl) (by kernel_rfl) (by kernel_rfl) (fun _ _ _ h => h) (Or.inl ⟨by rfl, (by intro w hSw; (try dsimp only at hSw); go_simp; try with_reducible rfl)⟩) (by assumption) ?_
                (try simp only [Act.put, List.setIfInBounds_toArray, List.set_cons_zero, List.set_cons_succ])
                refine wpAnyH_take (i := 8) (oi := { dst := (some 103), op := (Go.Op.move (Go.Operand.tmp 9)), type := 3, pos := "law.go:86", after := #[], guard := none }) (v := ?_) rfl (by kernel_rfl) (by kernel_rfl) (by kernel_rfl) (fun _ _ _ h => h) (Or.inl ⟨by rfl, (by intro w hSw; (try dsimp only at hSw); go_simp; try with_reducible rfl)⟩) (by assumption) ?_
                (try simp only [Act.put, List.setIfInBounds_toArray, List.set_cons_zero, List.set_cons_succ])
                refine wpAnyH_take (i := 12) (oi := { dst := (some 107), op := (Go.Op.move (Go.Operand.tmp 7)), type := 3, pos := "law.go:86", after := #[], guard := none }) (v := ?_) rfl (by kernel_rfl) (by kernel_rfl) (by kernel_rfl) (fun _ _ _ h => h) (Or.inl ⟨by rfl, (by intro w hSw; (try dsimp only at hSw); go_simp; try with_reducible rfl)⟩) (by assumption) ?_
                (try simp only [Act.put, List.setIfInBounds_toArray, List.set_cons_zero, List.set_cons_succ])
                refine wpAnyH_take (i := 13) (oi := { dst := (some 108), op := (Go.Op.binOp Go.BinOp.add 3 (Go.Operand.tmp 107) (Go.Operand.const (Go.Value.int Go.IntKind.i64 1)) 3), type := 3, pos := "law.go:86", after := #[{ on := 12, ground := Go.Ground.data }], guard := none }) (v := ?_) rfl (by kernel_rfl) (by kernel_rfl) (by kernel_rfl) (fun _ _ _ h => h) (Or.inl ⟨by rfl, (by intro w hSw; (try dsimp only at hSw); go_simp; try with_reducible rfl)⟩) (by assumption) ?_
                (try simp only [Act.put, List.setIfInBounds_toArray, List.set_cons_zero, List.set_cons_succ])
                refine wpAnyH_ready (rs := [3, 9]) (by kernel_rfl) (by simp) (AllReadyH.cons (o := { dst := (some 98), op := (Go.Op.buildSlice 26 0 #[]), type := 26, pos := "law.go:86", after := #[], guard := none }) rfl (fun K hK => ?_) (AllReadyH.cons (o := { dst := (some 104), op := (Go.Op.buildSlice 26 1 #[(0, (Go.Operand.tmp 103))]), type := 26, pos := "law.go:86", after := #[{ on := 8, ground := Go.Ground.data }], guard := none }) rfl (fun K hK => ?_) AllReadyH.nil))
                · skip
                  go_simp
                  refine hK.out _ _ (by exact HS.out _ (HUc.out.trans (HUx.out.drew.alloc _) (fun _ _ h => h))) (fun hHeld => ?_)
                  clear hK K
                  (try simp only [Act.put, List.setIfInBounds_toArray, List.set_cons_zero, List.set_cons_succ])
                  refine wpAnyH_ready (rs := [7, 9]) (by kernel_rfl) (by simp) (AllReadyH.cons (o := { dst := (some 102), op := (Go.Op.call { callee := (Go.Callee.builtin Go.Builtin.append), args := #[(Go.Operand.tmp 98), (Go.Operand.tmp 101)], argTypes := #[26, 26] }), type := 26, pos := "law.go:86", after := #[{ on := 3, ground := Go.Ground.data }, { on := 6, ground := Go.Ground.data }], guard := none }) rfl (fun K hK => ?_) (AllReadyH.cons (o := { dst := (some 104), op := (Go.Op.buildSlice 26 1 #[(0, (Go.Operand.tmp 103))]), type := 26, pos := "law.go:86", after := #[{ on := 8, ground := Go.Ground.data }], guard := none }) rfl (fun K hK => ?_) AllReadyH.nil))
                  · skip
                    refine Rp.step_append_row intR (c := cw) (Rp.own_empty (F := fun _ => True) intR (heap_alloc_new wr.drew _) trivial) (Rp.row'_of (HRT.out _ (HUc.out.trans (HUx.out.drew.alloc _) (fun _ _ h => h))) (fun _ _ h => h)) (Fz := fun _ => False) (fun _ h => h.elim) (by rfl) _ _ 26 (.int .i64 0) 8 (by rfl) Try.underlying26 int_info rfl (by decide) (by decide) (by rfl) (by rfl) (by simp; omega) ?_
                    intro v1 w7 ho1 hu1 hat1
                    have HO1 := As.mk (int_own_fp ho1); have HB7 := As.mk hu1
                    have HU7 := As.mk (Upd.trans (HUx.out.drew.alloc _) hu1 (fun q hq h => by simp [Value.ownBlock] at h; omega))
                    have HV1 := As.mk (show ∀ q, v1.ownBlock = some q → wc.heap.size ≤ q from by intro q hq; rcases hat1 with h | ⟨b1, h, hb1⟩ <;> (rw [h] at hq; simp [Value.ownBlock] at hq; (try simp at hb1); omega))
                    clear ho1 hu1 hat1
                    refine hK.out _ _ (by exact HS.out _ (HUc.out.trans HU7.out (fun _ _ h => h))) (fun hHeld => ?_)
                    clear hK K
                    (try simp only [Act.put, List.setIfInBounds_toArray, List.set_cons_zero, List.set_cons_succ])
                    refine wpAnyH_ready (rs := [9]) (by kernel_rfl) (by simp) (AllReadyH.cons (o := { dst := (some 104), op := (Go.Op.buildSlice 26 1 #[(0, (Go.Operand.tmp 103))]), type := 26, pos := "law.go:86", after := #[{ on := 8, ground := Go.Ground.data }], guard := none }) rfl (fun K hK => ?_) AllReadyH.nil)
                    go_simp
                    refine hK.out _ _ (by exact HS.out _ (HUc.out.trans (HU7.out.alloc _) (fun _ _ h => h))) (fun hHeld => ?_)
                    clear hK K
                    (try simp only [Act.put, List.setIfInBounds_toArray, List.set_cons_zero, List.set_cons_succ])
                    refine wpAnyH_ready (rs := [10]) (by kernel_rfl) (by simp) (AllReadyH.cons (o := { dst := (some 105), op := (Go.Op.call { callee := (Go.Callee.builtin Go.Builtin.append), args := #[(Go.Operand.tmp 102), (Go.Operand.tmp 104)], argTypes := #[26, 26] }), type := 26, pos := "law.go:86", after := #[{ on := 7, ground := Go.Ground.data }, { on := 9, ground := Go.Ground.data }, { on := 7, ground := Go.Ground.chain }], guard := none }) rfl (fun K hK => ?_) AllReadyH.nil)
                    refine Rp.step_append_row intR (c := 1) (Rp.own_alloc HO1.out _) (Rp.row'_one (F := fun _ => False) (x := (k : Int)) (cs := [.int .i64 k]) rfl (heap_alloc_new w7 _)) (Fz := fun _ => False) (fun _ h => h.elim) (by rfl) _ _ 26 (.int .i64 0) 8 (by rfl) Try.underlying26 int_info rfl (by decide) (by decide) (by rfl) (by rfl) (by simp; omega) ?_
                    intro v2 w9 ho2 hu2 hat2
                    have ho3 := (int_own_fp ho2)
                    obtain ⟨ab, hab⟩ : ∃ ab, ab = tk ++ [(k : Int)] := ⟨_, rfl⟩
                    rw [List.nil_append, ← hab] at ho3
                    have hbl9 : ab.length ≤ 1048576 * 4 := (by rw [hab, List.length_append, List.length_singleton]; omega)
                    have HAB := As.mk hab
                    have HU9 := As.mk (Upd.trans (HU7.out.alloc _) hu2 (fun q hq h => by have := HV1.out q h; omega))
                    clear hab ho2 hu2 hat2
                    obtain ⟨A2, c2, rfl, _, hr3⟩ := Rp.own_slice ho3
                    have HR9 := As.mk hr3
                    clear ho3 hr3
                    refine hK.out _ _ (by exact HS.out _ (HUc.out.trans HU9.out (fun _ _ h => h))) (fun hHeld => ?_)
                    clear hK K
                    (try simp only [Act.put, List.setIfInBounds_toArray, List.set_cons_zero, List.set_cons_succ])
                    refine wpAnyH_ready (rs := [11]) (by kernel_rfl) (by simp) (AllReadyH.cons (o := { dst := (some 106), op := (Go.Op.call { callee := (Go.Callee.value (Go.Operand.func 14)), args := #[(Go.Operand.tmp 96), (Go.Operand.tmp 97), (Go.Operand.tmp 105)], argTypes := #[24, 25, 26] }), type := 3, pos := "law.go:86", after := #[{ on := 1, ground := Go.Ground.data }, { on := 2, ground := Go.Ground.data }, { on := 10, ground := Go.Ground.data }, { on := 10, ground := Go.Ground.chain }], guard := none }) rfl (fun K hK => ?_) AllReadyH.nil)
                    go_simp
                    go_at_call 14
                    refine (HBEG.out _ (HUc.out.trans HU9.out (fun _ _ h => h)) ab _ A2 c2 HR9.out hbl9).mono ?_
                    rintro e wf ⟨rfl, hu⟩
                    rw [HAB.out, ← HMM.out]
                    have HUf := As.mk (Upd.trans HU9.out hu (fun _ _ h => h))
                    clear hu
                    refine hK.out _ _ (by exact HS.out _ (HUc.out.trans HUf.out (fun _ _ h => h))) (fun hHeld => ?_)
                    clear hK K
                    (try simp only [Act.put, List.setIfInBounds_toArray, List.set_cons_zero, List.set_cons_succ])
                    refine wpAnyH_take (i := 14) (oi := { dst := (some 109), op := (Go.Op.binOp Go.BinOp.eql 3 (Go.Operand.tmp 106) (Go.Operand.tmp 108) 3), type := 4, pos := "law.go:86", after := #[{ on := 11, ground := Go.Ground.data }, { on := 13, ground := Go.Ground.data }], guard := none }) (v := ?_) rfl (by kernel_rfl) (by kernel_rfl) (by kernel_rfl) (fun _ _ _ h => h) (Or.inl ⟨by rfl, (by intro w hSw; (try dsimp only at hSw); go_simp; try with_reducible rfl)⟩) (by assumption) ?_
                    (try simp only [Act.put, List.setIfInBounds_toArray, List.set_cons_zero, List.set_cons_succ])
                    refine wpAnyH_take (i := 15) (oi := { dst := (some 110), op := (Go.Op.binOp Go.BinOp.neq 4 (Go.Operand.tmp 95) (Go.Operand.tmp 109) 4), type := 4, pos := "law.go:86", after := #[{ on := 0, ground := Go.Ground.data }, { on := 14, ground := Go.Ground.data }], guard := none }) (v := ?_) rfl (by kernel_rfl) (by kernel_rfl) (by kernel_rfl) (fun _ _ _ h => h) (Or.inl ⟨by rfl, (by intro w hSw; (try dsimp only at hSw); go_simp; try with_reducible rfl)⟩) (by assumption) ?_
                    (try simp only [Act.put, List.setIfInBounds_toArray, List.set_cons_zero, List.set_cons_succ])
                    refine wpAnyH_done (by kernel_rfl) ?_ _
                    by_cases hnw : tk.length < word.length
                    · have hw1 : decide ((tk.length : Int) < (word.length : Int)) = true := by simp; omega
                      have hw2 : decide (tk.length < word.length) = true := by simp; omega
                      obtain ⟨y9, hy9⟩ : ∃ y, word[tk.length]? = some y := ⟨_, List.getElem?_eq_getElem hnw⟩
                      obtain ⟨b9, o9, rfl, _, _, d9⟩ := int_at (Rp.row_pure HW.out (HUc.out.trans HUf.out (fun _ _ h => h))) hy9
                      have hne9 := HN.out.not k y9 hy9 HKL.out
                      have hne8 : (y9 == (k : Int)) = false := by simpa using hne9
                      clear hy9 hne9
                      go_wp2
                      go_roundg g1
                      case measure => omega
                      case rel => exact ⟨k + 1, by have := HK.out; omega, by go_num, ⟨HUf.out⟩⟩
                    · have hw1 : decide ((tk.length : Int) < (word.length : Int)) = false := by simp; omega
                      have hw2 : decide (tk.length < word.length) = false := by simp; omega
                      go_wp2
                      go_roundg g1
                      case measure => omega
                      case rel => exact ⟨k + 1, by have := HK.out; omega, by go_num, ⟨HUf.out⟩⟩
                  · skip
                    go_simp
                    refine hK.out _ _ (by exact HS.out _ (HUc.out.trans ((HUx.out.drew.alloc _).alloc _) (fun _ _ h => h))) (fun hHeld => ?_)
                    clear hK K
                    (try simp only [Act.put, List.setIfInBounds_toArray, List.set_cons_zero, List.set_cons_succ])
                    refine wpAnyH_ready (rs := [7]) (by kernel_rfl) (by simp) (AllReadyH.cons (o := { dst := (some 102), op := (Go.Op.call { callee := (Go.Callee.builtin Go.Builtin.append), args := #[(Go.Operand.tmp 98), (Go.Operand.tmp 101)], argTypes := #[26, 26] }), type := 26, pos := "law.go:86", after := #[{ on := 3, ground := Go.Ground.data }, { on := 6, ground := Go.Ground.data }], guard := none }) rfl (fun K hK => ?_) AllReadyH.nil)
                    refine Rp.step_append_row intR (c := cw) (Rp.own_empty (F := fun _ => True) intR ((Below.heap_alloc (wr.drew.alloc _) _ _ (by simp)).trans (heap_alloc_new wr.drew _)) trivial) (Rp.row'_of (HRT.out _ (HUc.out.trans ((HUx.out.drew.alloc _).alloc _) (fun _ _ h => h))) (fun _ _ h => h)) (Fz := fun _ => False) (fun _ h => h.elim) (by rfl) _ _ 26 (.int .i64 0) 8 (by rfl) Try.underlying26 int_info rfl (by decide) (by decide) (by rfl) (by rfl) (by simp; omega) ?_
                    intro v1 w7 ho1 hu1 hat1
                    have HO1 := As.mk (int_own_fp ho1); have HB7 := As.mk hu1
                    have HU7 := As.mk (Upd.trans ((HUx.out.drew.alloc _).alloc _) hu1 (fun q hq h => by simp [Value.ownBlock] at h; omega))
                    have HV1 := As.mk (show ∀ q, v1.ownBlock = some q → wc.heap.size ≤ q from by intro q hq; rcases hat1 with h | ⟨b1, h, hb1⟩ <;> (rw [h] at hq; simp [Value.ownBlock] at hq; (try simp at hb1); omega))
                    clear ho1 hu1 hat1
                    refine hK.out _ _ (by exact HS.out _ (HUc.out.trans HU7.out (fun _ _ h => h))) (fun hHeld => ?_)
                    clear hK K
                    (try simp only [Act.put, List.setIfInBounds_toArray, List.set_cons_zero, List.set_cons_succ])
                    refine wpAnyH_ready (rs := [10]) (by kernel_rfl) (by simp) (AllReadyH.cons (o := { dst := (some 105), op := (Go.Op.call { callee := (Go.Callee.builtin Go.Builtin.append), args := #[(Go.Operand.tmp 102), (Go.Operand.tmp 104)], argTypes := #[26, 26] }), type := 26, pos := "law.go:86", after := #[{ on := 7, ground := Go.Ground.data }, { on := 9, ground := Go.Ground.data }, { on := 7, ground := Go.Ground.chain }], guard := none }) rfl (fun K hK => ?_) AllReadyH.nil)
                    refine Rp.step_append_row intR (c := 1) HO1.out (Rp.row'_one (F := fun _ => False) (x := (k : Int)) (cs := [.int .i64 k]) rfl (Upd.keepB HB7.out (heap_alloc2_new wr.drew _ _) (by simp [Value.ownBlock]))) (Fz := fun _ => False) (fun _ h => h.elim) (by rfl) _ _ 26 (.int .i64 0) 8 (by rfl) Try.underlying26 int_info rfl (by decide) (by decide) (by rfl) (by rfl) (by simp; omega) ?_
                    intro v2 w9 ho2 hu2 hat2
                    have ho3 := (int_own_fp ho2)
                    obtain ⟨ab, hab⟩ : ∃ ab, ab = tk ++ [(k : Int)] := ⟨_, rfl⟩
                    rw [List.nil_append, ← hab] at ho3
                    have hbl9 : ab.length ≤ 1048576 * 4 := (by rw [hab, List.length_append, List.length_singleton]; omega)
                    have HAB := As.mk hab
                    have HU9 := As.mk (Upd.trans HU7.out hu2 (fun q hq h => by have := HV1.out q h; omega))
                    clear hab ho2 hu2 hat2
                    obtain ⟨A2, c2, rfl, _, hr3⟩ := Rp.own_slice ho3
                    have HR9 := As.mk hr3
                    clear ho3 hr3
                    refine hK.out _ _ (by exact HS.out _ (HUc.out.trans HU9.out (fun _ _ h => h))) (fun hHeld => ?_)
                    clear hK K
                    (try simp only [Act.put, List.setIfInBounds_toArray, List.set_cons_zero, List.set_cons_succ])
                    refine wpAnyH_ready (rs := [11]) (by kernel_rfl) (by simp) (AllReadyH.cons (o := { dst := (some 106), op := (Go.Op.call { callee := (Go.Callee.value (Go.Operand.func 14)), args := #[(Go.Operand.tmp 96), (Go.Operand.tmp 97), (Go.Operand.tmp 105)], argTypes := #[24, 25, 26] }), type := 3, pos := "law.go:86", after := #[{ on := 1, ground := Go.Ground.data }, { on := 2, ground := Go.Ground.data }, { on := 10, ground := Go.Ground.data }, { on := 10, ground := Go.Ground.chain }], guard := none }) rfl (fun K hK => ?_) AllReadyH.nil)
                    go_simp
                    go_at_call 14
                    refine (HBEG.out _ (HUc.out.trans HU9.out (fun _ _ h => h)) ab _ A2 c2 HR9.out hbl9).mono ?_
                    rintro e wf ⟨rfl, hu⟩
                    rw [HAB.out, ← HMM.out]
                    have HUf := As.mk (Upd.trans HU9.out hu (fun _ _ h => h))
                    clear hu
                    refine hK.out _ _ (by exact HS.out _ (HUc.out.trans HUf.out (fun _ _ h => h))) (fun hHeld => ?_)
                    clear hK K
                    (try simp only [Act.put, List.setIfInBounds_toArray, List.set_cons_zero, List.set_cons_succ])
                    refine wpAnyH_take (i := 14) (oi := { dst := (some 109), op := (Go.Op.binOp Go.BinOp.eql 3 (Go.Operand.tmp 106) (Go.Operand.tmp 108) 3), type := 4, pos := "law.go:86", after := #[{ on := 11, ground := Go.Ground.data }, { on := 13, ground := Go.Ground.data }], guard := none }) (v := ?_) rfl (by kernel_rfl) (by kernel_rfl) (by kernel_rfl) (fun _ _ _ h => h) (Or.inl ⟨by rfl, (by intro w hSw; (try dsimp only at hSw); go_simp; try with_reducible rfl)⟩) (by assumption) ?_
                    (try simp only [Act.put, List.setIfInBounds_toArray, List.set_cons_zero, List.set_cons_succ])
                    refine wpAnyH_take (i := 15) (oi := { dst := (some 110), op := (Go.Op.binOp Go.BinOp.neq 4 (Go.Operand.tmp 95) (Go.Operand.tmp 109) 4), type := 4, pos := "law.go:86", after := #[{ on := 0, ground := Go.Ground.data }, { on := 14, ground := Go.Ground.data }], guard := none }) (v := ?_) rfl (by kernel_rfl) (by kernel_rfl) (by kernel_rfl) (fun _ _ _ h => h) (Or.inl ⟨by rfl, (by intro w hSw; (try dsimp only at hSw); go_simp; try with_reducible rfl)⟩) (by assumption) ?_
                    (try simp only [Act.put, List.setIfInBounds_toArray, List.set_cons_zero, List.set_cons_succ])
                    refine wpAnyH_done (by kernel_rfl) ?_ _
                    by_cases hnw : tk.length < word.length
                    · have hw1 : decide ((tk.length : Int) < (word.length : Int)) = true := by simp; omega
                      have hw2 : decide (tk.length < word.length) = true := by simp; omega
                      obtain ⟨y9, hy9⟩ : ∃ y, word[tk.length]? = some y := ⟨_, List.getElem?_eq_getElem hnw⟩
                      obtain ⟨b9, o9, rfl, _, _, d9⟩ := int_at (Rp.row_pure HW.out (HUc.out.trans HUf.out (fun _ _ h => h))) hy9
                      have hne9 := HN.out.not k y9 hy9 HKL.out
                      have hne8 : (y9 == (k : Int)) = false := by simpa using hne9
                      clear hy9 hne9
                      go_wp2
                      go_roundg g1
                      case measure => omega
                      case rel => exact ⟨k + 1, by have := HK.out; omega, by go_num, ⟨HUf.out⟩⟩
                    · have hw1 : decide ((tk.length : Int) < (word.length : Int)) = false := by simp; omega
                      have hw2 : decide (tk.length < word.length) = false := by simp; omega
                      go_wp2
                      go_roundg g1
                      case measure => omega
                      case rel => exact ⟨k + 1, by have := HK.out; omega, by go_num, ⟨HUf.out⟩⟩
                · skip
                  go_simp
                  refine hK.out _ _ (by exact HS.out _ (HUc.out.trans (HUx.out.drew.alloc _) (fun _ _ h => h))) (fun hHeld => ?_)
                  clear hK K
                  (try simp only [Act.put, List.setIfInBounds_toArray, List.set_cons_zero, List.set_cons_succ])
                  refine wpAnyH_ready (rs := [3]) (by kernel_rfl) (by simp) (AllReadyH.cons (o := { dst := (some 98), op := (Go.Op.buildSlice 26 0 #[]), type := 26, pos := "law.go:86", after := #[], guard := none }) rfl (fun K hK => ?_) AllReadyH.nil)
                  go_simp
                  refine hK.out _ _ (by exact HS.out _ (HUc.out.trans ((HUx.out.drew.alloc _).alloc _) (fun _ _ h => h))) (fun hHeld => ?_)
                  clear hK K
                  (try simp only [Act.put, List.setIfInBounds_toArray, List.set_cons_zero, List.set_cons_succ])
                  refine wpAnyH_ready (rs := [7]) (by kernel_rfl) (by simp) (AllReadyH.cons (o := { dst := (some 102), op := (Go.Op.call { callee := (Go.Callee.builtin Go.Builtin.append), args := #[(Go.Operand.tmp 98), (Go.Operand.tmp 101)], argTypes := #[26, 26] }), type := 26, pos := "law.go:86", after := #[{ on := 3, ground := Go.Ground.data }, { on := 6, ground := Go.Ground.data }], guard := none }) rfl (fun K hK => ?_) AllReadyH.nil)
                  refine Rp.step_append_row intR (c := cw) (Rp.own_empty (F := fun _ => True) intR (heap_alloc2_new wr.drew _ _) trivial) (Rp.row'_of (HRT.out _ (HUc.out.trans ((HUx.out.drew.alloc _).alloc _) (fun _ _ h => h))) (fun _ _ h => h)) (Fz := fun _ => False) (fun _ h => h.elim) (by rfl) _ _ 26 (.int .i64 0) 8 (by rfl) Try.underlying26 int_info rfl (by decide) (by decide) (by rfl) (by rfl) (by simp; omega) ?_
                  intro v1 w7 ho1 hu1 hat1
                  have HO1 := As.mk (int_own_fp ho1); have HB7 := As.mk hu1
                  have HU7 := As.mk (Upd.trans ((HUx.out.drew.alloc _).alloc _) hu1 (fun q hq h => by simp [Value.ownBlock] at h; omega))
                  have HV1 := As.mk (show ∀ q, v1.ownBlock = some q → wc.heap.size ≤ q from by intro q hq; rcases hat1 with h | ⟨b1, h, hb1⟩ <;> (rw [h] at hq; simp [Value.ownBlock] at hq; (try simp at hb1); omega))
                  clear ho1 hu1 hat1
                  refine hK.out _ _ (by exact HS.out _ (HUc.out.trans HU7.out (fun _ _ h => h))) (fun hHeld => ?_)
                  clear hK K
                  (try simp only [Act.put, List.setIfInBounds_toArray, List.set_cons_zero, List.set_cons_succ])
                  refine wpAnyH_ready (rs := [10]) (by kernel_rfl) (by simp) (AllReadyH.cons (o := { dst := (some 105), op := (Go.Op.call { callee := (Go.Callee.builtin Go.Builtin.append), args := #[(Go.Operand.tmp 102), (Go.Operand.tmp 104)], argTypes := #[26, 26] }), type := 26, pos := "law.go:86", after := #[{ on := 7, ground := Go.Ground.data }, { on := 9, ground := Go.Ground.data }, { on := 7, ground := Go.Ground.chain }], guard := none }) rfl (fun K hK => ?_) AllReadyH.nil)
                  refine Rp.step_append_row intR (c := 1) HO1.out (Rp.row'_one (F := fun _ => False) (x := (k : Int)) (cs := [.int .i64 k]) rfl (Upd.keepB HB7.out ((Below.heap_alloc (wr.drew.alloc _) _ _ (by simp)).trans (heap_alloc_new wr.drew _)) (by simp [Value.ownBlock]))) (Fz := fun _ => False) (fun _ h => h.elim) (by rfl) _ _ 26 (.int .i64 0) 8 (by rfl) Try.underlying26 int_info rfl (by decide) (by decide) (by rfl) (by rfl) (by simp; omega) ?_
                  intro v2 w9 ho2 hu2 hat2
                  have ho3 := (int_own_fp ho2)
                  obtain ⟨ab, hab⟩ : ∃ ab, ab = tk ++ [(k : Int)] := ⟨_, rfl⟩
                  rw [List.nil_append, ← hab] at ho3
                  have hbl9 : ab.length ≤ 1048576 * 4 := (by rw [hab, List.length_append, List.length_singleton]; omega)
                  have HAB := As.mk hab
                  have HU9 := As.mk (Upd.trans HU7.out hu2 (fun q hq h => by have := HV1.out q h; omega))
                  clear hab ho2 hu2 hat2
                  obtain ⟨A2, c2, rfl, _, hr3⟩ := Rp.own_slice ho3
                  have HR9 := As.mk hr3
                  clear ho3 hr3
                  refine hK.out _ _ (by exact HS.out _ (HUc.out.trans HU9.out (fun _ _ h => h))) (fun hHeld => ?_)
                  clear hK K
                  (try simp only [Act.put, List.setIfInBounds_toArray, List.set_cons_zero, List.set_cons_succ])
                  refine wpAnyH_ready (rs := [11]) (by kernel_rfl) (by simp) (AllReadyH.cons (o := { dst := (some 106), op := (Go.Op.call { callee := (Go.Callee.value (Go.Operand.func 14)), args := #[(Go.Operand.tmp 96), (Go.Operand.tmp 97), (Go.Operand.tmp 105)], argTypes := #[24, 25, 26] }), type := 3, pos := "law.go:86", after := #[{ on := 1, ground := Go.Ground.data }, { on := 2, ground := Go.Ground.data }, { on := 10, ground := Go.Ground.data }, { on := 10, ground := Go.Ground.chain }], guard := none }) rfl (fun K hK => ?_) AllReadyH.nil)
                  go_simp
                  go_at_call 14
                  refine (HBEG.out _ (HUc.out.trans HU9.out (fun _ _ h => h)) ab _ A2 c2 HR9.out hbl9).mono ?_
                  rintro e wf ⟨rfl, hu⟩
                  rw [HAB.out, ← HMM.out]
                  have HUf := As.mk (Upd.trans HU9.out hu (fun _ _ h => h))
                  clear hu
                  refine hK.out _ _ (by exact HS.out _ (HUc.out.trans HUf.out (fun _ _ h => h))) (fun hHeld => ?_)
                  clear hK K
                  (try simp only [Act.put, List.setIfInBounds_toArray, List.set_cons_zero, List.set_cons_succ])
                  refine wpAnyH_take (i := 14) (oi := { dst := (some 109), op := (Go.Op.binOp Go.BinOp.eql 3 (Go.Operand.tmp 106) (Go.Operand.tmp 108) 3), type := 4, pos := "law.go:86", after := #[{ on := 11, ground := Go.Ground.data }, { on := 13, ground := Go.Ground.data }], guard := none }) (v := ?_) rfl (by kernel_rfl) (by kernel_rfl) (by kernel_rfl) (fun _ _ _ h => h) (Or.inl ⟨by rfl, (by intro w hSw; (try dsimp only at hSw); go_simp; try with_reducible rfl)⟩) (by assumption) ?_
                  (try simp only [Act.put, List.setIfInBounds_toArray, List.set_cons_zero, List.set_cons_succ])
                  refine wpAnyH_take (i := 15) (oi := { dst := (some 110), op := (Go.Op.binOp Go.BinOp.neq 4 (Go.Operand.tmp 95) (Go.Operand.tmp 109) 4), type := 4, pos := "law.go:86", after := #[{ on := 0, ground := Go.Ground.data }, { on := 14, ground := Go.Ground.data }], guard := none }) (v := ?_) rfl (by kernel_rfl) (by kernel_rfl) (by kernel_rfl) (fun _ _ _ h => h) (Or.inl ⟨by rfl, (by intro w hSw; (try dsimp only at hSw); go_simp; try with_reducible rfl)⟩) (by assumption) ?_
                  (try simp only [Act.put, List.setIfInBounds_toArray, List.set_cons_zero, List.set_cons_succ])
                  refine wpAnyH_done (by kernel_rfl) ?_ _
                  by_cases hnw : tk.length < word.length
                  · have hw1 : decide ((tk.length : Int) < (word.length : Int)) = true := by simp; omega
                    have hw2 : decide (tk.length < word.length) = true := by simp; omega
                    obtain ⟨y9, hy9⟩ : ∃ y, word[tk.length]? = some y := ⟨_, List.getElem?_eq_getElem hnw⟩
                    obtain ⟨b9, o9, rfl, _, _, d9⟩ := int_at (Rp.row_pure HW.out (HUc.out.trans HUf.out (fun _ _ h => h))) hy9
                    have hne9 := HN.out.not k y9 hy9 HKL.out
                    have hne8 : (y9 == (k : Int)) = false := by simpa using hne9
                    clear hy9 hne9
                    go_wp2
                    go_roundg g1
                    case measure => omega
                    case rel => exact ⟨k + 1, by have := HK.out; omega, by go_num, ⟨HUf.out⟩⟩
                  · have hw1 : decide ((tk.length : Int) < (word.length : Int)) = false := by simp; omega
                    have hw2 : decide (tk.length < word.length) = false := by simp; omega
                    go_wp2
                    go_roundg g1
                    case measure => omega
                    case rel => exact ⟨k + 1, by have := HK.out; omega, by go_num, ⟨HUf.out⟩⟩
        · obtain rfl : k = 16 := by omega
          go_wp2_with (go_at_call 9; refine awake_calls.mono ?_; rintro e z9 ⟨rfl, hu9⟩)
          go_ret
          exact ⟨rfl, (HP0.out.trans (HUc.out.trans HC.out (fun _ _ h => h)) (fun _ _ h => h)).trans hu9 (fun _ _ h => h)⟩
  · have e3 : (regCheck (.mk k0 nm l) g != 0) = true := by simp [hck]
    generalize regCheck (.mk k0 nm l) g = v at *
    clear hck
    go_enter Try.func7, Try.ntmps7
    go_wp2_with (first | (go_at_call 8; refine HCK.out.mono ?_; rintro e w1 ⟨rfl, hu⟩; have HU1 := As.mk hu; clear hu) | (go_at_call 9; refine awake_calls.mono ?_; rintro e w3 ⟨rfl, hu3⟩))
    go_ret
    exact ⟨rfl, (HP0.out.trans HU1.out (fun _ _ h => h)).trans hu3 (fun _ _ h => h)⟩
end Go.Proofs.Ytchgeaklaeoplaa
