/- My own texts, packed: HouseC, MarkL. -/
import Derived.Test.YtofjodppljnlaaaGreatDoorP13
set_option maxRecDepth 100000
set_option maxHeartbeats 4000000
set_option linter.unusedVariables false
set_option linter.unusedSimpArgs false
variable {w w1 W:Go.World} {F G:Nat → Prop} {A B:Option Go.Addr} {cb c:Nat}
namespace Go.Proofs.YtofjodppljnlaaaGreatDoor
open Go.RowKit
theorem toks_reps (w:World) (F:Nat->Prop):∀ l:List Tok,Reps (tokR.rep w F) 4 l (l.flatMap Tok.cs)
 | []=>Reps.nil _ _
 | x :: r=>by
   rw[List.flatMap_cons]
   exact Reps.append (xs:=[x]) (Reps.single (R:=tokR.rep w F) (show tokR.rep w F x x.cs from rfl) rfl) (toks_reps w F r)
theorem x1a {b:Nat} {l:List Tok} {e:TypeId} {fr:Nat × Nat} (hb:w.heap[b]?=some (.cells (l.flatMap Tok.cs).toArray e fr)) (hF:F b):tokR.row w F (some ⟨b,0,none⟩) l:=
 Rp.x1k hb hF (toks_reps w F l)
abbrev x2y:List Tok:=[⟨1,1,0,0⟩,⟨2,0,0,0⟩]
theorem fc_rights:∀ (l:List Tok) (n m:Nat),fcRun n l=some m->∀ x ∈ l,x0p x=true:=by
 intro l
 induction l with
 | nil=>intro n m _ x hx;cases hx
 | cons y r ih=>
   intro n m h x hx
   unfold fcRun at h
   split at h
   ·cases h
   ·rename_i hy
    have hy':x0p y=true:=by simpa using hy
    rcases List.mem_cons.1 hx with rfl | hx
    ·exact hy'
    ·split at h
     ·split at h
      ·cases h
      ·exact ih _ _ h x hx
     ·split at h
      ·split at h
       ·cases h
       ·exact ih _ _ h x hx
      ·exact ih _ _ h x hx
abbrev shutT:Tok:=⟨2,0,0,0⟩
/-- One that moves what stands in a gap. -/
def arnd (a b g h ins:Int) (sl:List Tok):StepD:=⟨1,a,b,g,h,ins,sl,0⟩
theorem arnd_do (l sl:List Tok) (a b g h ins:Int):x0t l (arnd a b g h ins sl)=l.take a.toNat ++ sl.take ins.toNat ++ (l.take h.toNat).drop g.toNat ++ sl.drop ins.toNat ++ l.drop b.toNat:=by
 unfold x0t arnd
 rw[if_neg (show ¬ ((1:Int)=0) by decide),if_pos rfl]
theorem arnd_ok {a b g h ins:Int} {sl:List Tok}:(arnd a b g h ins sl).ok ↔ 0<=a/\a<=g/\g < h/\h<=b/\b<=2048/\0<=ins/\ins<=sl.length/\∀ x ∈ sl,x0p x=true:=by
 unfold StepD.ok StepD.kindOk arnd
 constructor
 ·rintro ⟨h1,h2,h3,h4,h5⟩
  simp only at h1 h2 h3 h4 h5
  rcases h4 with h4 | h4 | h4
  ·exact⟨h1,h4.2.1,h4.2.2.1,h4.2.2.2.1,h3,h4.2.2.2.2.1,h4.2.2.2.2.2.1,h5⟩
  ·exact absurd h4.1 (by decide)
  ·exact absurd h4.1 (by decide)
 ·rintro ⟨h1,h2,h3,h4,h5,h6,h7,h8⟩
  exact⟨h1,by simp only;omega,h5,.inl ⟨rfl,h2,h3,h4,h6,h7,rfl⟩,h8⟩
end Go.Proofs.YtofjodppljnlaaaGreatDoor
