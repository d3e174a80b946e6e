/- An argument of bytes. -/
import Derived.Test.YteeindicpbcjaaaGreatDoorOpenKit
namespace Go.Proofs.YteeindicpbcjaaaGreatDoor
open Go.ChangeShapes Go.WideShapes Go.ChangeAt Go.RowKit
set_option linter.unusedVariables false
set_option linter.unusedSimpArgs false

abbrev byteR : Rp Int := Rp.int .u8
abbrev ByteWf (x : Int) : Prop := (Lit.int .u8 x).wf = true
theorem byte_at {w : World} {F : Nat → Prop} {A : Option Addr} {xs : List Int} (h : byteR.row w F A xs) {j : Nat} {x : Int} (hx : xs[j]? = some x) :
    ∃ b o, A = some ⟨b, o, none⟩ ∧ b < w.heap.size ∧ w.cell? ⟨b, o + j, none⟩ = some (.int .u8 x) := by
  obtain ⟨b, o, cs, hA, hF, hb, hr, hc⟩ := Rp.row_at h hx
  have hr' : cs = [Value.int .u8 x] := hr
  subst hr'
  have := hc 0 _ rfl
  rw [show (byteR.sz) = 1 from rfl, Nat.mul_one] at this
  exact ⟨b, o, hA, hb, this⟩
set_option maxRecDepth 100000 in
theorem bytes_trod {H : Type} {enc : TypeId × Value → H} {w : World} {base : Nat} {spare : Nat → Bool} {held : Bool} {fuel : Nat} {cs : List Value} {x : DataW H × List MemPlace} (h : DataW.trod enc Tryz.prog w base spare held fuel 46 cs = some x) :
    ∃ l : List Int, byteR.slice.rep w (fun k => k < w.heap.size) l cs ∧ l.length < Rows.uptoBulk x.1 ∧ ∀ y ∈ l, ByteWf y := by
  obtain ⟨l, h1, h2, D, h3, _⟩ := slice_opens Tryz.underlying46 (d := byteR) (by kernel_rfl) (by decide) h (Q := fun y _ => ByteWf y) (fun n cs' y _ hy => by
    obtain ⟨n, rfl, rfl, hw⟩ := DataW.trod_int Tryz.underlying5 hy
    exact ⟨n, rfl, hw⟩)
  exact ⟨l, h1, h2, fun y hy => by obtain ⟨i, hi⟩ := List.getElem?_of_mem hy; exact h3 i y hi⟩
set_option maxRecDepth 100000 in
theorem arg_bytes {H : Type} {enc : TypeId × Value → H} {W : World} {base : Nat} {spare : Nat → Bool} {held : Bool} {v : Value} {d : DataW H} {p : List MemPlace} {r : Reach} {b0 : Nat}
    (hv : Value.okWide Tryz.prog W r b0 46 v) (h : DataW.Trod enc Tryz.prog W base spare held 46 v d p) :
    ∃ (A : Option Addr) (c : Nat) (l : List Int), v = .slice A l.length c ∧ l.length ≤ c ∧ byteR.row W (fun k => k < W.heap.size) A l ∧ l.length < Rows.uptoBulk d ∧ ∀ x ∈ l, ByteWf x := by
  obtain ⟨a, len, cap, rfl⟩ := okWide_slice Tryz.underlying46 hv
  obtain ⟨fuel, hf⟩ := h
  obtain ⟨l, ⟨A, c, hcs, hlc, hrow⟩, hq, hw⟩ := bytes_trod hf
  simp [Value.cells] at hcs
  obtain ⟨rfl, rfl, rfl⟩ := hcs
  exact ⟨_, _, l, rfl, hlc, hrow, hq, hw⟩
theorem byte_wf {x : Int} (h : ByteWf x) : 0 ≤ x ∧ x ≤ 255 := by
  have h1 : (decide (IntKind.u8.min ≤ x) && decide (x ≤ IntKind.u8.max)) = true := h
  rw [Bool.and_eq_true] at h1
  have h2 := of_decide_eq_true h1.1
  have h3 := of_decide_eq_true h1.2
  exact ⟨h2, h3⟩
end Go.Proofs.YteeindicpbcjaaaGreatDoor
