/- The house's specs. The house's schema: plain facts. schema.House. -/
import Derived.Test.YtfapglhdakhbeaaGreatDoorNew
import Derived.Deep.WholeRow
import Derived.Great.Walk
namespace Go.Proofs.YtfapglhdakhbeaaGreatDoor
open Go.RowKit
open Go.Great
set_option linter.unusedVariables false
set_option linter.unusedSimpArgs false

def houseSpecs : List Spec := [⟨⟨#[112, 97, 114, 97]⟩, ⟨#[116, 101, 120, 116, 42]⟩, false, 7, 0, 0, false⟩, ⟨⟨#[104, 101, 97, 100]⟩, ⟨#[116, 101, 120, 116, 42]⟩, false, 7, 1, 6, false⟩, ⟨⟨#[113, 117, 111, 116, 101]⟩, ⟨#[98, 108, 111, 99, 107, 43]⟩, false, 0, 0, 0, false⟩, ⟨⟨#[99, 111, 100, 101]⟩, ⟨#[116, 101, 120, 116, 42]⟩, false, 0, 0, 0, true⟩, ⟨⟨#[108, 105, 115, 116]⟩, ⟨#[105, 116, 101, 109, 43]⟩, false, 0, 0, 1, false⟩, ⟨⟨#[105, 116, 101, 109]⟩, ⟨#[98, 108, 111, 99, 107, 43]⟩, false, 0, 0, 0, false⟩, ⟨⟨#[114, 117, 108, 101]⟩, ⟨#[]⟩, true, 0, 0, 0, false⟩]
def houseCells : Array Value := (houseSpecs.flatMap Spec.cs).toArray
def zeroCells : Array Value := ((List.replicate 7 (Spec.mk ⟨#[]⟩ ⟨#[]⟩ false 0 0 0 false)).flatMap Spec.cs).toArray
theorem arr_info : (Tryz.prog.info? 81).map (fun i => (i.zero, i.size)) = some (some (.agg zeroCells), 49) := by kernel_rfl
theorem specs_calls (w : World) : Calls Tryz.prog 65 #[] w fun r w' => r = .returned (.agg houseCells) ∧ Pure w w' := by
  obtain ⟨hz, hs⟩ := zero_of_info arr_info
  go_enter Tryz.func65, Tryz.ntmps65
  refine wp_seq (wp_region_list ?_)
  refine wpList_allocTo rfl _ rfl (.pointer (some ⟨w.heap.size, 0, none⟩)) (.cells zeroCells 81) (by simp [execOp, Instr.alloc, hz, Value.cells, newVar, newRow]) ?_
  refine wpList_nil ?_
  refine wp_seq (wp_region_list ?_)
  iterate 8 refine wpList_build rfl _ _ rfl (by kernel_rfl) ?_
  refine wpList_store_row rfl _ _ _ rfl w.heap.size houseCells (by kernel_rfl) (by kernel_rfl) _ zeroCells (heap_alloc_new w _) (by rw [hs]; kernel_rfl) (by kernel_rfl) (by kernel_rfl) ?_
  refine wpList_nil ?_
  rw [World.setRow_alloc_new]
  refine wp_ret ?_
  exact bodyPost_ret (results_cell_row (P := Tryz.prog) rfl _ _ w.heap.size 81 houseCells (0, 0) _ (by kernel_rfl) (heap_alloc_new w _) Tryz.underlying81 rfl (by rw [hs]; kernel_rfl)) rfl ⟨rfl, Upd.alloc1 _ _ _⟩
end Go.Proofs.YtfapglhdakhbeaaGreatDoor
namespace Go.Proofs.YtfapglhdakhbeaaGreatDoor
open Go.RowKit
set_option linter.unusedVariables false
set_option linter.unusedSimpArgs false

def blockName : ByteArray := ⟨#[98, 108, 111, 99, 107]⟩
def itemName : ByteArray := ⟨#[105, 116, 101, 109]⟩
def blockPlus : ByteArray := ⟨#[98, 108, 111, 99, 107, 43]⟩
def itemPlus : ByteArray := ⟨#[105, 116, 101, 109, 43]⟩
def textStar : ByteArray := ⟨#[116, 101, 120, 116, 42]⟩
def houseGrp : List Grp := [⟨blockName, [1, 2, 3, 4, 5, 7]⟩]
def exS (kk : Int) (nm : ByteArray) : Ex := .mk kk ⟨#[]⟩ [.mk 1 nm []]
def houseEs : List Ex := [exS 5 blockName, exS 4 textName, exS 4 textName, exS 5 blockName, exS 4 textName, exS 5 itemName, exS 5 blockName, .mk 0 ⟨#[]⟩ []]
theorem house_names : namesB houseSpecs houseGrp = true := by kernel_rfl
theorem house_fits : houseSpecs.any (fun x => !fitsB x) = false := by kernel_rfl
theorem house_checks : houseEs.all (fun e => decide (regCheck e (newGroups houseSpecs houseGrp) = 0)) = true := by kernel_rfl
theorem sign_text : NameSign textStar 4 4 := by
  refine ⟨⟨by decide, by decide, by decide, fun i h1 h2 => ?_, fun _ => by kernel_rfl⟩, rfl, fun h => .inl ⟨by rfl, rfl⟩, by kernel_rfl, fun h => ⟨by rfl, by rfl, Nat.le_of_ble_eq_true (by rfl)⟩⟩
  have h : i = 0 ∨ i = 1 ∨ i = 2 ∨ i = 3 := by omega
  rcases h with rfl | rfl | rfl | rfl
  · exact (by kernel_rfl : nameB (textStar.extract 0 (0 + 1)) = true)
  · exact (by kernel_rfl : nameB (textStar.extract 1 (1 + 1)) = true)
  · exact (by kernel_rfl : nameB (textStar.extract 2 (2 + 1)) = true)
  · exact (by kernel_rfl : nameB (textStar.extract 3 (3 + 1)) = true)
theorem sign_block : NameSign blockPlus 5 5 := by
  refine ⟨⟨by decide, by decide, by decide, fun i h1 h2 => ?_, fun _ => by kernel_rfl⟩, rfl, fun h => .inr (.inl ⟨by rfl, rfl⟩), by kernel_rfl, fun h => ⟨by rfl, by rfl, Nat.le_of_ble_eq_true (by rfl)⟩⟩
  have h : i = 0 ∨ i = 1 ∨ i = 2 ∨ i = 3 ∨ i = 4 := by omega
  rcases h with rfl | rfl | rfl | rfl | rfl
  · exact (by kernel_rfl : nameB (blockPlus.extract 0 (0 + 1)) = true)
  · exact (by kernel_rfl : nameB (blockPlus.extract 1 (1 + 1)) = true)
  · exact (by kernel_rfl : nameB (blockPlus.extract 2 (2 + 1)) = true)
  · exact (by kernel_rfl : nameB (blockPlus.extract 3 (3 + 1)) = true)
  · exact (by kernel_rfl : nameB (blockPlus.extract 4 (4 + 1)) = true)
theorem sign_item : NameSign itemPlus 4 5 := by
  refine ⟨⟨by decide, by decide, by decide, fun i h1 h2 => ?_, fun _ => by kernel_rfl⟩, rfl, fun h => .inr (.inl ⟨by rfl, rfl⟩), by kernel_rfl, fun h => ⟨by rfl, by rfl, Nat.le_of_ble_eq_true (by rfl)⟩⟩
  have h : i = 0 ∨ i = 1 ∨ i = 2 ∨ i = 3 := by omega
  rcases h with rfl | rfl | rfl | rfl
  · exact (by kernel_rfl : nameB (itemPlus.extract 0 (0 + 1)) = true)
  · exact (by kernel_rfl : nameB (itemPlus.extract 1 (1 + 1)) = true)
  · exact (by kernel_rfl : nameB (itemPlus.extract 2 (2 + 1)) = true)
  · exact (by kernel_rfl : nameB (itemPlus.extract 3 (3 + 1)) = true)
theorem parse_text : ParsesTo textStar (exS 4 textName) := parse_name sign_text (by decide)
theorem parse_block : ParsesTo blockPlus (exS 5 blockName) := parse_name sign_block (by decide)
theorem parse_item : ParsesTo itemPlus (exS 5 itemName) := parse_name sign_item (by decide)
theorem house_parses : ∀ (k : Nat) (s : Spec) (e : Ex), (wholeSpec blockPlus :: houseSpecs)[k]? = some s → houseEs[k]? = some e → ParsesTo s.expr e ∧ regCheck e (newGroups houseSpecs houseGrp) = 0 ∧ e.wt ≤ 1048576 := by
  intro k s e hs he
  have hc : regCheck e (newGroups houseSpecs houseGrp) = 0 := by simpa using List.all_eq_true.1 house_checks e (List.mem_of_getElem? he)
  have hw : houseEs.all (fun e => decide (e.wt ≤ 1048576)) = true := by kernel_rfl
  have hw1 : e.wt ≤ 1048576 := by simpa using List.all_eq_true.1 hw e (List.mem_of_getElem? he)
  refine ⟨?_, hc, hw1⟩
  have hk : k < 8 := (List.getElem?_eq_some_iff.1 he).1
  have h : k = 0 ∨ k = 1 ∨ k = 2 ∨ k = 3 ∨ k = 4 ∨ k = 5 ∨ k = 6 ∨ k = 7 := by omega
  rcases h with rfl | rfl | rfl | rfl | rfl | rfl | rfl | rfl <;> (injection hs with hs; injection he with he; subst hs; subst he)
  · exact parse_block
  · exact parse_text
  · exact parse_text
  · exact parse_block
  · exact parse_text
  · exact parse_item
  · exact parse_block
  · exact parse_empty
end Go.Proofs.YtfapglhdakhbeaaGreatDoor
namespace Go.Proofs.YtfapglhdakhbeaaGreatDoor
open Go.RowKit
open Go.Great
set_option linter.unusedVariables false
set_option linter.unusedSimpArgs false

def houseRules : List (Spec × Ex) := (wholeSpec blockPlus :: houseSpecs).zip houseEs
def houseGroups : List Grp := newGroups houseSpecs houseGrp
theorem house_reps (w : World) (F : Nat → Prop) : Reps (specR.rep w F) 7 houseSpecs houseCells.toList := by
  refine ⟨by kernel_rfl, fun j x hx => ?_⟩
  have hk : j < 7 := (List.getElem?_eq_some_iff.1 hx).1
  have h : j = 0 ∨ j = 1 ∨ j = 2 ∨ j = 3 ∨ j = 4 ∨ j = 5 ∨ j = 6 := by omega
  rcases h with rfl | rfl | rfl | rfl | rfl | rfl | rfl <;> (injection hx with hx; subst hx; rfl)
theorem house_ints (w : World) (F : Nat → Prop) : Reps (intR.rep w F) 1 [1, 2, 3, 4, 5, 7] [.int .i64 1, .int .i64 2, .int .i64 3, .int .i64 4, .int .i64 5, .int .i64 7] := by
  refine ⟨rfl, fun j x hx => ?_⟩
  have hk : j < 6 := (List.getElem?_eq_some_iff.1 hx).1
  have h : j = 0 ∨ j = 1 ∨ j = 2 ∨ j = 3 ∨ j = 4 ∨ j = 5 := by omega
  rcases h with rfl | rfl | rfl | rfl | rfl | rfl <;> (injection hx with hx; subst hx; rfl)
theorem house_small : ∀ x ∈ houseSpecs, x.name.size ≤ 1048576 := by
  have h : houseSpecs.all (fun x => decide (x.name.size ≤ 1048576)) = true := by kernel_rfl
  intro x hx
  simpa using List.all_eq_true.1 h x hx
theorem house_gsmall : ∀ x ∈ houseGrp, x.name.size ≤ 1048576 ∧ x.types.length ≤ 1000 := by
  have h : houseGrp.all (fun x => decide (x.name.size ≤ 1048576 ∧ x.types.length ≤ 1000)) = true := by kernel_rfl
  intro x hx
  simpa using List.all_eq_true.1 h x hx
theorem house_cells_size : houseCells.size = 49 := by kernel_rfl
set_option maxRecDepth 100000 in
set_option maxHeartbeats 4000000 in
theorem House_calls (w : World) : Calls Tryz.prog 15 #[] w fun r w' => ∃ cb, r = .returned (.pointer (some ⟨cb, 0, none⟩)) ∧ SchR w' cb houseRules houseGroups ∧ Pure w w' := by
  have HZ := As.mk (zero_of_info arr_info)
  have HSP := As.mk (specs_calls w)
  have HCR := As.mk (fun W F => house_reps W F)
  have HC1 := As.mk (by kernel_rfl : (houseCells.all (·.oneCell')) = true)
  have HC2 := As.mk house_cells_size
  have HC3 := As.mk (by kernel_rfl : zeroCells.size = 49)
  generalize houseCells = hc at *
  go_enter Tryz.func15, Tryz.ntmps15
  go_wp2_with (go_at_call 65; refine HSP.out.mono ?_; rintro e w1 ⟨rfl, hu⟩; have HU1 := As.mk hu; clear hu; apply As.out)
  refine ⟨?_⟩
  rename_i hKK
  refine hKK _ _ ?_
  refine wpList_allocTo rfl _ rfl (.pointer (some ⟨w1.heap.size, 0, none⟩)) (.cells zeroCells 81) (by simp [execOp, Instr.alloc, HZ.out.1, Value.cells, newVar, newRow]) ?_
  refine wpList_store_row rfl _ _ _ rfl w1.heap.size hc (by rfl) (by rfl) _ zeroCells (heap_alloc_new w1 _) (by rw [HZ.out.2, HC2.out]) (by rw [HC2.out, HC3.out]) HC1.out ?_
  rw [World.setRow_alloc_new]
  obtain ⟨W, hW⟩ : ∃ W, W = w1.alloc (.cells hc 81) := ⟨_, rfl⟩
  have HWB := As.mk (show W.heap[w1.heap.size]? = some (.cells hc 81 (0, 0)) from hW ▸ heap_alloc_new w1 _)
  have HPW := As.mk (show Pure w W from hW ▸ HU1.out.alloc _)
  rw [← hW]
  clear hW
  have hI : Pure W ((W.alloc (.cells #[.int .i64 1, .int .i64 2, .int .i64 3, .int .i64 4, .int .i64 5, .int .i64 7] 3)).alloc (.cells #[.string blockName, .slice (some ⟨W.heap.size, 0, none⟩) 6 6] 88)) := (Upd.alloc1 _ _ _).alloc _
  have hz : (W.alloc (.cells #[.int .i64 1, .int .i64 2, .int .i64 3, .int .i64 4, .int .i64 5, .int .i64 7] 3)).heap.size = W.heap.size + 1 := by simp
  have hir := Rp.row_pure (Rp.row_of_block (d := intR) (F := fun _ => True) (heap_alloc_new W (.cells #[.int .i64 1, .int .i64 2, .int .i64 3, .int .i64 4, .int .i64 5, .int .i64 7] 3)) trivial (house_ints _ _)) (Upd.alloc1 (fun _ => False) _ (.cells #[.string blockName, .slice (some ⟨W.heap.size, 0, none⟩) 6 6] 88))
  have hgb := heap_alloc_new (W.alloc (.cells #[.int .i64 1, .int .i64 2, .int .i64 3, .int .i64 4, .int .i64 5, .int .i64 7] 3)) (.cells #[.string blockName, .slice (some ⟨W.heap.size, 0, none⟩) 6 6] 88)
  rw [hz] at hgb
  have hgr : grpR.row _ (fun _ => True) (some ⟨W.heap.size + 1, 0, none⟩) houseGrp := Rp.row_of_block hgb trivial (Reps.single (x := (⟨blockName, [1, 2, 3, 4, 5, 7]⟩ : Grp)) ⟨_, _, rfl, Nat.le_refl 6, hir⟩ rfl)
  have hsr := Rp.row_pure (Rp.row_of_block (d := specR) (F := fun _ => True) HWB.out trivial (HCR.out W _)) hI
  have HNEW := As.mk (New_calls (c := 7) (d := 1) (whole := blockPlus) (es := houseEs) hsr hgr (by decide) (by decide) house_small house_gsmall house_names house_fits rfl house_parses)
  have HI := As.mk (HPW.out.trans hI (fun _ _ h => h))
  clear hI hz hir hgb hgr hsr
  go_wp2_with (go_at_call 66; refine HNEW.out.mono ?_; rintro e w7 ⟨cb, rfl, hsch, _, hu⟩; have HS := As.mk hsch; have HU7 := As.mk (HI.out.trans hu (fun _ _ h => h)); clear hsch hu)
  go_ret
  exact ⟨_, rfl, HS.out, HU7.out⟩
end Go.Proofs.YtfapglhdakhbeaaGreatDoor
