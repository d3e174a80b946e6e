/- My own texts, packed: Stack, MarkL. -/
import Derived.Test.YtofjodppljnlaaaGreatDoorP13
set_option maxRecDepth 100000
set_option maxHeartbeats 4000000
set_option linter.unusedVariables false
set_option linter.unusedSimpArgs false
variable {w w1 W:Go.World} {F G:Nat → Prop} {A B:Option Go.Addr} {cb c:Nat}
namespace Go.Proofs.YtofjodppljnlaaaGreatDoor
open Go.RowKit
theorem stack_calls {l:List Tok} {at':Int} (hr:tokR.row w F A l) (hb:l.length<=1048576 * 4) (hlc:l.length<=c) :
 Calls Tryz.prog 136 #[.slice A l.length c,.int .i64 at'] w fun e w'=>∃ v,e=.returned v/\intRS.own 3 w' (fun k=>w.heap.size<=k) v (x1w l at')/\Pure w w':=by
 have HR:=mK hr
 clear hr
 by_cases h1:at' > l.length
 ·have HE:=mK (show x1w l at'=[] by unfold x1w;rw[if_pos h1])
  have h2:decide ((l.length:Int) < at')=true:=by simp;omega
  go_enter Tryz.func136,Tryz.ntmps136
  go_wp2
  go_ret
  exact⟨_,rfl,by rw[HE.o];exact Rp.x0v _ _ _ _,Upd.refl _ _⟩
 ·have HE:=mK (show x1w l at'=stkGo 0 (l.take (max at' 0).toNat) [] by unfold x1w;rw[if_neg h1])
  have h2:decide ((l.length:Int) < at')=false:=by simp;omega
  by_cases hneg:at' < 0
  ·have hE:x1w l at'=[]:=by rw[HE.o,show (max at' 0).toNat=0 by omega];rfl
   have HE2:=mK hE
   have hmx:max at' 0=0:=by omega
   clear HE hE h1
   go_enter Tryz.func136,Tryz.ntmps136
   go_wp2
   go_loopg [5,17] 0 (fun g v i wr=>i=.int .i64 0/\v=.slice none 0 0/\As (wr=w))
   case atStart=>exact⟨rfl,rfl,⟨rfl⟩⟩
   case round=>
    obtain⟨rfl,rfl,HW⟩:=hrel
    obtain rfl:=HW.o
    go_wp2
    go_ret
    exact⟨_,rfl,by rw[HE2.o];exact Rp.x0v _ _ _ _,Upd.refl _ _⟩
  ·obtain⟨m,rfl⟩:∃ m:Nat,at'=m:=⟨at'.toNat,by omega⟩
   have hml:m<=l.length:=by omega
   have hml2:m<=c:=by omega
   have hmx:max (m:Int) 0=m:=by omega
   rw[hmx,Int.toNat_natCast] at HE
   clear hneg h1
   go_enter Tryz.func136,Tryz.ntmps136
   have hlm:decide (l.length < m)=false:=by simp;omega
   go_wp2
   go_loopg [5,17] m (fun g v i wr=>∃ k:Nat,k+g=m/\i=.int .i64 k/\As (StkRel w wr l m k v))
   case atStart=>exact⟨0,by omega,rfl,⟨[],Rp.x0v _ _ _ _,by simp,by simp,Upd.refl _ _⟩⟩
   case round=>
    obtain⟨k,hk,rfl,HS⟩:=hrel
    by_cases hlt:k < m
    ·obtain⟨s,hown,hsl,hse,hp⟩:=HS.o
     obtain⟨x,hx⟩:∃ x,l[k]?=some x:=⟨_,List.getElem?_eq_getElem (by omega)⟩
     have hx2:(l.take m)[k]?=some x:=by rw[List.getElem?_take,if_pos hlt];exact hx
     obtain⟨b,o,rfl,hFb,hbb,d0,d1,d2,d3⟩:=x0j (Rp.x01 HR.o hp) hx
     obtain⟨g1,rfl⟩:=sC1 (by omega:0 < gk)
     have HX:=mK (And.intro hx2 (And.intro hsl hse))
     have HO:=mK hown
     have HP:=mK hp
     have HK:=mK hk
     clear hx hx2 hse hown hp hk HS
     by_cases h1:x.k=1
     ·have e1:(x.k == 1)=true:=by simp[h1]
      have HST:=mK (show x1b k x s=s ++ [(k:Int)] by unfold x1b;rw[if_pos h1])
      clear h1
      go_wp2_with (at_builtin;refine Rp.x0o intRS (Rp.x1s HO.o _) (k:Int) [.int .i64 k] rfl (Fp:=fun _=>False) (G:=fun q=>w.heap.size<=q) (fun _ h=>h.elim) (fun _ h _=>h) (fun q hq=>by have:=HP.o.size;simp at hq;omega) rfl _ _ 83 _ 8 rfl Tryz.underlying83 x1n rfl (by decide) (by decide) rfl (by simp[Act.eval]) (by omega) ?_;intro v1 w1 ho1 hu1;have HO1:=mK ho1;have HU1:=mK (Upd.trans (HP.o.alloc _) hu1 (fun q hq h=>by have:=Rp.x03 HO.o q h;omega));clear ho1 hu1)
      go_roundg g1
      case measure=>omega
      case rel=>exact⟨k+1,by have:=HK.o;omega,by go_num,⟨StkRel.step HX.o.1 HX.o.2.1 HX.o.2.2 (by rw[HST.o];exact HO1.o) HU1.o⟩⟩
     ·have e1:(x.k == 1)=false:=by simp[h1]
      by_cases h2:x.k=2
      ·have e2:(x.k == 2)=true:=by simp[h2]
       have HST:=mK (show x1b k x s=s.dropLast by unfold x1b;rw[if_neg h1,if_pos h2])
       clear h1 h2
       by_cases hs:s=[]
       ·subst hs
        rcases Rp.own_nil_val HO.o with rfl | ⟨a,cc,rfl⟩
        all_goals
         go_wp2
         go_roundg g1
         case measure=>omega
         case rel=>exact⟨k+1,by have:=HK.o;omega,by go_num,⟨StkRel.step HX.o.1 HX.o.2.1 HX.o.2.2 (by rw[HST.o];exact Rp.x1s HO.o _) (HP.o.alloc _)⟩⟩
       ·obtain⟨a,cc,rfl⟩:=Rp.own_val HO.o hs
        obtain⟨n,hn⟩:∃ n,s.length=n+1:=⟨s.length - 1,by have:=List.length_pos_iff.2 hs;omega⟩
        have hcut:=Rp.own_take HO.o n (by omega)
        have hdl:s.take n=s.dropLast:=by rw[List.dropLast_eq_take,hn];rfl
        rw[hdl,<- HST.o] at hcut
        have HC:=mK (Rp.x1s (o:=.cells #[.int .i64 x.k,.int .i64 x.t,.int .i64 x.n,.int .i64 x.m] 71) hcut)
        obtain⟨A1,c1,hv1,hle1,_⟩:=Rp.x0c HO.o
        simp only[Value.slice.injEq] at hv1
        have hnc:n+1<=cc:=by omega
        rw[hn]
        clear hcut hdl hs hv1 hle1
        go_wp2
        go_roundg g1
        case measure=>omega
        case rel=>exact⟨k+1,by have:=HK.o;omega,by go_num,⟨StkRel.step HX.o.1 HX.o.2.1 HX.o.2.2 HC.o (HP.o.alloc _)⟩⟩
      ·have e2:(x.k == 2)=false:=by simp[h2]
       have HST:=mK (show x1b k x s=s by unfold x1b;rw[if_neg h1,if_neg h2])
       clear h1 h2
       go_wp2
       go_roundg g1
       case measure=>omega
       case rel=>exact⟨k+1,by have:=HK.o;omega,by go_num,⟨StkRel.step HX.o.1 HX.o.2.1 HX.o.2.2 (by rw[HST.o];exact Rp.x1s HO.o _) (HP.o.alloc _)⟩⟩
    ·obtain rfl:k=m:=by omega
     go_wp2
     go_ret
     obtain⟨s,hown,hsl,hse,hp⟩:=HS.o
     refine⟨_,rfl,?_,hp⟩
     rw[List.drop_eq_nil_of_le (by rw[List.length_take];omega)] at hse
     rw[HE.o,<- hse]
     exact hown
theorem x2g {l:List Tok} {at':Int} (hr:tokR.row w F A l) (hb:l.length<=1048576 * 4) (hlc:l.length<=c) :
 Calls Tryz.prog 72 #[.slice A l.length c,.int .i64 at'] w fun e w'=>e=.returned (.int .i64 (x04 l at'))/\Pure w w':=by
 have HC:=mK (stack_calls (at':=at') hr hb hlc)
 have HE:=mK (show x04 l at'=(x1w l at').getLast?.getD (-1) from rfl)
 have hsl:=stackL_len l at'
 clear hr
 generalize x1w l at'=s at *
 generalize x04 l at'=r at *
 go_enter Tryz.func72,Tryz.ntmps72
 go_wp2_with (go_at_call 136;refine HC.o.mono ?_;rintro e w1 ⟨v,rfl,ho,hu⟩;have HO:=mK ho;have HU:=mK hu;clear ho hu;apply As.o)
 refine⟨?_⟩
 by_cases hs:s=[]
 ·subst hs
  obtain⟨A1,c1,rfl,hle,_⟩:=Rp.x0c HO.o
  go_wp2
  go_ret
  exact⟨by rw[HE.o];rfl,HU.o⟩
 ·obtain⟨a,cc,rfl⟩:=Rp.own_val HO.o hs
  obtain⟨n,hn⟩:∃ n,s.length=n+1:=⟨s.length - 1,by have:=List.length_pos_iff.2 hs;omega⟩
  obtain⟨x,hx⟩:∃ x,s[n]?=some x:=⟨_,List.getElem?_eq_getElem (by omega)⟩
  obtain⟨b,rfl,hbb,hc⟩:=int_own_at HO.o hx
  have hlast:s.getLast?.getD (-1)=x:=by rw[List.getLast?_eq_getElem?,hn];simp[hx]
  rw[hlast] at HE
  rw[hn]
  clear hs hlast hx
  go_wp2
  go_ret
  exact⟨by rw[HE.o];rfl,HU.o⟩
theorem stkGo_mem:∀ (r:List Tok) (k:Nat) (s:List Int),∀ p ∈ stkGo k r s,p ∈ s\/∃ (j:Nat) (x:Tok),p=((k+j:Nat):Int)/\r[j]?=some x/\x.k=1:=by
 intro r
 induction r with
 | nil=>intro k s p hp;exact .inl hp
 | cons x r ih=>
   intro k s p hp
   rw[stkGo] at hp
   rcases ih (k+1) _ p hp with h | ⟨j,y,h1,h2,h3⟩
   ·unfold x1b at h
    split at h
    ·rename_i h1
     rcases List.mem_append.1 h with h | h
     ·exact .inl h
     ·exact .inr ⟨0,x,by rw[List.mem_singleton.1 h];simp,rfl,h1⟩
    ·split at h
     ·exact .inl (List.dropLast_subset _ h)
     ·exact .inl h
   ·exact .inr ⟨j+1,y,by rw[h1];congr 1;omega,by simpa using h2,h3⟩
theorem x20 {l:List Tok} {p:Int} (h:x04 l p ≠ -1):∃ (i:Nat) (y:Tok),x04 l p=(i:Int)/\l[i]?=some y/\y.k=1/\(i:Int) < p:=by
 unfold x04 at h ⊢
 cases hs:(x1w l p).getLast? with
 | none=>rw[hs] at h;exact absurd rfl h
 | some q=>
   have hm:=List.mem_of_getLast? hs
   unfold x1w at hm
   split at hm
   ·cases hm
   ·rename_i hp
    rcases stkGo_mem _ _ _ q hm with h1 | ⟨j,x,h1,h2,h3⟩
    ·cases h1
    ·rw[List.getElem?_take] at h2
     split at h2
     ·refine⟨j,x,?_,h2,h3,by omega⟩
      rw[Option.getD_some,h1]
      congr 1
      omega
     ·cases h2
end Go.Proofs.YtofjodppljnlaaaGreatDoor
