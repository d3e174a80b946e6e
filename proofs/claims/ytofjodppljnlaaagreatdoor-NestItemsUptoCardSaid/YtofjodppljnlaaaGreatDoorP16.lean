/- My own texts, packed: RowK, Partner. -/
import Derived.Test.YtofjodppljnlaaaGreatDoorP1
import Derived.OrdersHeld
import Derived.Deep.RegionHeld
set_option maxRecDepth 100000
set_option maxHeartbeats 4000000
set_option linter.unusedVariables false
set_option linter.unusedSimpArgs false
variable {w w1 W:Go.World} {F G:Nat → Prop} {A B:Option Go.Addr} {cb c:Nat}
namespace Go.Proofs.YtofjodppljnlaaaGreatDoor
open Go.RowKit
def ptGo:Nat->Int->List Tok->Option Nat
 | _,_,[]=>none
 | k,d,x :: r=>if x.k=1 then ptGo (k+1) (d+1) r else if x.k=2 then (if d - 1=0 then some k else ptGo (k+1) (d - 1) r) else ptGo (k+1) d r
/-- The partner of what opens at i. -/
def partL (l:List Tok) (i:Nat):Int:=match ptGo 0 0 (l.drop i) with
 | some k=>(i:Int)+k
 | none=>-1
theorem x5s {l:List Tok} {i:Nat} {y:Tok} (hr:tokR.row w F A l) (hb:l.length<=1048576 * 4) (hlc:l.length<=c) (hy:l[i]?=some y) (h1:y.k=1) :
 Calls Tryz.prog 103 #[.slice A l.length c,.int .i64 i] w fun e w'=>e=.returned (.int .i64 (partL l i))/\Pure w w':=by
 have HR:=mK hr
 have hil:i < l.length:=(List.getElem?_eq_some_iff.1 hy).1
 obtain⟨by',oy',rfl,_,hby,f0,f1,f2,f3⟩:=x0j hr hy
 rw[h1] at f0
 have t1:decide ((i:Int) < 0)=false:=by simp
 have t2:decide ((i:Int) >= (l.length:Int))=false:=by simp;omega
 have t3:decide ((l.length:Int)<=(i:Int))=false:=by simp;omega
 have t6:decide (l.length<=i)=false:=by simp;omega
 obtain⟨m,hm⟩:∃ m,l.length=i+m:=⟨l.length - i,by omega⟩
 have HM:=mK hm
 have hle1:i<=c:=by omega
 have hle2:i+m<=c:=by omega
 clear hr hy h1
 rw[hm] at t2 t3 t6 hil
 rw[hm]
 go_enter Tryz.func103,Tryz.ntmps103
 go_wp2
 go_loopg [5,32] m (fun gg dv kv wr=>∃ (k:Nat) (d:Int),k+gg=m/\dv=.int .i64 d/\kv=.int .i64 k/\d<=k/\-(k:Int)<=d/\As (ptGo k d (l.drop (i+k))=ptGo 0 0 (l.drop i)/\Pure w wr))
 case atStart=>exact⟨0,0,by omega,rfl,rfl,by omega,by omega,⟨rfl,Upd.refl _ _⟩⟩
 case round=>
  obtain⟨k,d,hk,rfl,rfl,hdk,hdk2,HC⟩:=hrel
  by_cases hlt:k < m
  ·obtain⟨x,hx⟩:∃ x,l[i+k]?=some x:=⟨_,List.getElem?_eq_getElem (by have:=HM.o;omega)⟩
   obtain⟨heq,hp⟩:=HC.o
   obtain⟨b,o,hA,hFb,hbb,d0,d1,d2,d3⟩:=x0j (Rp.x01 HR.o hp) hx
   simp only[Option.some.injEq,Addr.mk.injEq] at hA
   obtain⟨rfl,rfl,_⟩:=hA
   rw[Nat.add_mul,<- Nat.add_assoc] at d0 d1 d2 d3
   obtain⟨g1,rfl⟩:=sC1 (by omega:0 < gk)
   rw[drop_cons hx,ptGo,Nat.add_assoc i k 1] at heq
   have HP:=mK hp
   have HK:=mK hk
   have hml:=HM.o
   have hw1:IntKind.i64.wrap (d+1)=d+1:=IntWalk.i64_in _ (by omega)
   have hw2:IntKind.i64.wrap (d - 1)=d - 1:=IntWalk.i64_in _ (by omega)
   have hw3:IntKind.i64.wrap ((i:Int)+k)=(i:Int)+k:=IntWalk.i64_in _ (by omega)
   clear hp hk hx HC hml
   by_cases h1:x.k=1
   ·have e1:(x.k == 1)=true:=by simp[h1]
    rw[if_pos h1] at heq
    have HE:=mK heq
    clear heq h1
    go_wp2
    go_roundg g1
    case measure=>omega
    case rel=>exact⟨k+1,d+1,by have:=HK.o;omega,by first | rfl | go_num,by go_num,by omega,by omega,⟨HE.o,HP.o.alloc _⟩⟩
   ·have e1:(x.k == 1)=false:=by simp[h1]
    rw[if_neg h1] at heq
    by_cases h2:x.k=2
    ·have e2:(x.k == 2)=true:=by simp[h2]
     rw[if_pos h2] at heq
     by_cases hd:d - 1=0
     ·have e3:(d - 1 == 0)=true:=by simpa using hd
      rw[if_pos hd] at heq
      have HE:=mK (show ((i:Int)+(k:Int))=partL l i by unfold partL;rw[<- heq])
      clear heq h1 h2 hd
      go_wp2
      go_ret
      exact⟨by rw[<- HE.o];rfl,HP.o.alloc _⟩
     ·have e3:(d - 1 == 0)=false:=by simpa using hd
      rw[if_neg hd] at heq
      have HE:=mK heq
      clear heq h1 h2 hd
      go_wp2
      go_roundg g1
      case measure=>omega
      case rel=>exact⟨k+1,d - 1,by have:=HK.o;omega,by first | rfl | go_num,by go_num,by omega,by omega,⟨HE.o,HP.o.alloc _⟩⟩
    ·have e2:(x.k == 2)=false:=by simp[h2]
     rw[if_neg h2] at heq
     have HE:=mK heq
     clear heq h1 h2
     go_wp2
     go_roundg g1
     case measure=>omega
     case rel=>exact⟨k+1,d,by have:=HK.o;omega,by first | rfl | go_num,by go_num,by omega,by omega,⟨HE.o,HP.o.alloc _⟩⟩
  ·obtain rfl:k=m:=by omega
   obtain⟨heq,hp⟩:=HC.o
   rw[<- HM.o,List.drop_length,ptGo] at heq
   have HE:=mK (show (-1:Int)=partL l i by unfold partL;rw[<- heq])
   have HP:=mK hp
   clear heq hp HC
   go_wp2
   go_ret
   exact⟨by rw[<- HE.o];rfl,HP.o⟩
end Go.Proofs.YtofjodppljnlaaaGreatDoor
