/- My own texts, packed: AlikeE. -/
import Derived.Test.YtofjodppljnlaaaGreatDoorP2
set_option maxRecDepth 100000
set_option maxHeartbeats 4000000
set_option linter.unusedVariables false
set_option linter.unusedSimpArgs false
variable {w w1 W:Go.World} {F G:Nat → Prop} {A B:Option Go.Addr} {cb c:Nat}
namespace Go.Proofs.YtofjodppljnlaaaGreatDoor
open Go.RowKit
theorem Alike_calls {c':Nat} {l l':List Tok} (hr:tokR.row w F A l) (hr':tokR.row w G B l') (hb:l.length<=1048576 * 4) (hb':l'.length<=1048576 * 4) :
 Calls Tryz.prog 139 #[.slice A l.length c,.slice B l'.length c'] w fun e w'=>e=.returned (.bool (decide (l=l')))/\Pure w w':=by
 by_cases hll:l.length=l'.length
 ·have HR:=mK hr
  have HR':=mK hr'
  have HL:=mK hll
  rw[hll]
  clear hr hr' hll
  go_enter Tryz.func139,Tryz.ntmps139
  go_wp2
  go_loopg [5] l'.length (fun g i wr=>∃ k:Nat,k+g=l'.length/\i=.int .i64 k/\As (l.take k=l'.take k)/\As (Pure w wr))
  case atStart=>exact⟨0,by omega,rfl,⟨by simp⟩,⟨Upd.refl _ _⟩⟩
  case round=>
   obtain⟨k,hk,rfl,HT,HP⟩:=hrel
   by_cases hlt:k < l'.length
   ·obtain⟨g1,rfl⟩:=sC1 (by omega:0 < gk)
    obtain⟨x,hx⟩:∃ x,l[k]?=some x:=⟨_,List.getElem?_eq_getElem (by have:=HL.o;omega)⟩
    obtain⟨y,hy⟩:∃ y,l'[k]?=some y:=⟨_,List.getElem?_eq_getElem hlt⟩
    obtain⟨b,o,rfl,hF,hbl,c0,c1,c2,c3⟩:=x0j (Rp.x01 HR.o HP.o) hx
    obtain⟨b',o',rfl,hG,hbl',d0,d1,d2,d3⟩:=x0j (Rp.x01 HR'.o HP.o) hy
    have HX:=mK hx
    have HY:=mK hy
    have HK:=mK hk
    clear hx hy hk
    by_cases hxy:x=y
    ·subst hxy
     go_wp2
     go_region
     all_goals go_wp2
     all_goals go_roundg g1
     all_goals first
      | (case measure=>omega)
      | (case rel=>exact⟨k+1,by have:=HK.o;omega,by go_num,⟨by rw[List.take_add_one,List.take_add_one,HT.o,HX.o,HY.o]⟩,⟨HP.o.drew⟩⟩)
    ·have HN:=mK hxy
     rcases tok_diff hxy with h | ⟨h1,h⟩ | ⟨h1,h2,h⟩ | ⟨h1,h2,h3,h⟩
     all_goals
      clear hxy
      go_wp2
      go_region
      all_goals go_wp2
      all_goals go_ret
      all_goals exact⟨x0h (lists_diff HX.o HY.o HN.o).symm,HP.o.drew⟩
   ·have hkl:k=l'.length:=by omega
    subst hkl
    go_wp2
    go_ret
    refine⟨x0h ?_,HP.o⟩
    have h1:=HT.o
    rw[List.take_length,<- HL.o,List.take_length] at h1
    simp[h1]
 ·have h1:¬ ((l.length:Int)=(l'.length:Int)):=by omega
  have HN:=mK hll
  go_enter Tryz.func139,Tryz.ntmps139
  go_wp2
  go_ret
  exact⟨x0h (by symm;rw[decide_eq_false_iff_not];rintro rfl;exact HN.o rfl),Upd.refl _ _⟩
/-- Two slices of the same tokens. -/
theorem Alike_same {c':Nat} {l:List Tok} (hr:tokR.row w F A l) (hr':tokR.row w G B l) (hb:l.length<=1048576 * 4) :
 Calls Tryz.prog 139 #[.slice A l.length c,.slice B l.length c'] w fun e w'=>e=.returned (.bool true)/\Pure w w':=by
 refine(Alike_calls hr hr' hb hb).mono ?_
 rintro e w' ⟨rfl,hu⟩
 exact⟨x0h (by simp),hu⟩
end Go.Proofs.YtofjodppljnlaaaGreatDoor
