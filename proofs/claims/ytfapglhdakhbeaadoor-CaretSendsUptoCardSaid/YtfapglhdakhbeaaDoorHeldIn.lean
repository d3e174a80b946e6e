/- A drawn region within a round of a range over a function: walked as one outside (wip/emmac.py's '%regionTin'). -/
import Derived.Test.YtfapglhdakhbeaaDoorHeld
import Derived.OrdersIn
import Derived.RangeFuncCalls
import Derived.TacticsIn
namespace Go.Proofs.YtfapglhdakhbeaaDoor
open Go
section
variable {P : Program} {ops : Array Oper} {Q : Exit → Act → World → Prop} {md : Region.Mode}
def NoOut (Q : Exit → Act → World → Prop) : Exit → Act → World → Prop := fun e a w => e ≠ .outgrown ∧ Q e a w
theorem noOut_shut (h : LetsOut (NoOut Q)) : False := by
  obtain ⟨a, w, h1, _⟩ := h
  exact h1 rfl
def plainOp (o : Oper) : Bool := match o.op with | .defer _ => false | _ => true
theorem plainOp_spec {o : Oper} (h : plainOp o = true) : ∀ c, o.op ≠ .defer c := by
  intro c e
  unfold plainOp at h
  rw [e] at h
  cases h
theorem oper_in {l n : Nat} {o : Oper} {a : Act} {w : World} {next : Act → World → Prop} (hd : plainOp o = true) (h : o.wp P a w next (NoOut Q)) : o.wpIn (Fence.wide.inRound l) n P a w next Q := by
  refine ⟨fun _ _ => trivial, ?_⟩
  rw [show (Fence.wide.inRound l).round = some l from rfl, Oper.semAt_some l _ o (plainOp_spec hd)]
  unfold Oper.wp at h
  generalize (execOp a.eval o).run P w = r at h ⊢
  cases r with
  | ok x w' =>
    cases x with
    | value v => exact h
    | skip => exact h
    | defer d => exact h
    | enter f args =>
      refine ⟨(fun h => by cases h), CallsIn.inRound l (callsIn_wide.2 (Calls.mono h ?_))⟩
      intro e w'' he
      cases e with
      | returned v => exact he
      | panicked c => exact he.2
      | outgrown => exact (noOut_shut he).elim
    | row row args =>
      refine ⟨(fun h => by cases h), fun c cs _ => ?_⟩
      obtain ⟨v, w'', r, s⟩ := h c cs
      exact ⟨v, w'', r, stepsIn_wide.2 s⟩
    | _ => exact False.elim h
  | halt x w' =>
    cases x with
    | panic v => exact h.2
    | _ => exact False.elim h
def plainOps (ops : Array Oper) : Bool := ops.all plainOp
theorem wpOp_in {l n i : Nat} {K : Act → World → Prop} {a : Act} {w : World} (hd : plainOps ops = true) (h : wpOp P ops (NoOut Q) i K a w) : wpOpIn (Fence.wide.inRound l) n P ops Q i K a w := by
  unfold wpOp at h
  unfold wpOpIn
  cases ho : ops[i]? with
  | none => simp only [ho] at h; exact h
  | some o =>
    simp only [ho] at h
    have hp : plainOp o = true := by
      unfold plainOps at hd
      exact Array.all_eq_true'.1 hd o (Array.mem_of_getElem? ho)
    show if Region.wanted o (yielded ops a.tmps) = true then _ else _
    split
    · rename_i hw
      rw [if_pos hw] at h
      rcases h with h | h
      · exact oper_in hp h
      · exact (noOut_shut h.2).elim
    · rename_i hw
      rw [if_neg hw] at h
      exact ⟨fun _ _ => trivial, h⟩
theorem wpAny_in {l n : Nat} (hd : plainOps ops = true) : ∀ (fuel : Nat) (listed : Array Bool) (a : Act) (w : World), wpAny P md ops (NoOut Q) fuel listed a w → wpAnyIn (Fence.wide.inRound l) n P md ops Q fuel listed a w
  | 0, _, _, _, h => ⟨h.1, h.2.2⟩
  | fuel + 1, _, _, _, h => ⟨fun hr => (h.1 hr).2, fun i hi => wpOpIn_mono (fun a' w' h' => wpAny_in hd fuel _ a' w' h') (wpOp_in hd (h.2 i hi))⟩
theorem wpIn_region_T {l n : Nat} (S : World → Prop) (L : Nat) {id : Nat} {a : Act} {w : World} (hd : plainOps ops = true) (hm : P.follows .mixedOrders = true) (hS : S w.drew)
    (h : S w.drew → wpAnyT P .any ops (NoOut Q) S L ops.size (Array.replicate ops.size false) a w.drew) : (Code.region id ops true).wpIn (Fence.wide.inRound l) n P Q a w :=
  wpIn_region_any hm (wpAny_in hd _ _ _ _ (wpAny_of_T _ _ _ _ (h hS)))
end
end Go.Proofs.YtfapglhdakhbeaaDoor
