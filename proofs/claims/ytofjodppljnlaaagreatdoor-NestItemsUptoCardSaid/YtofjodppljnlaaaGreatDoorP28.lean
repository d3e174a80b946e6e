/- My own texts, packed: MarkL, Piece, Ref4, EdAw, EdN. -/
import Derived.Test.YtofjodppljnlaaaGreatDoorP16
import Derived.Test.YtofjodppljnlaaaGreatDoorP14
import Derived.Test.YtofjodppljnlaaaGreatDoorP19
set_option maxRecDepth 100000
set_option maxHeartbeats 4000000
set_option linter.unusedVariables false
set_option linter.unusedSimpArgs false
variable {w w1 W:Go.World} {F G:Nat → Prop} {A B:Option Go.Addr} {cb c:Nat}
namespace Go.Proofs.YtofjodppljnlaaaGreatDoor
open Go.RowKit
abbrev openT (t n:Int):Tok:=⟨1,t,n,0⟩
theorem pt_at:∀ (L:List Tok) (j:Nat) (d:Int) (k:Nat),ptGo j d L=some k->j<=k/\k < j+L.length/\∃ x,L[k - j]?=some x/\x.k=2:=by
 intro L
 induction L with
 | nil=>intro j d k h;cases h
 | cons x r ih=>
   intro j d k h
   rw[ptGo] at h
   split at h
   ·obtain⟨h1,h2,y,h3,h4⟩:=ih _ _ _ h
    refine⟨by omega,by simp;omega,y,?_,h4⟩
    rw[show k - j=(k - (j+1))+1 by omega,List.getElem?_cons_succ]
    exact h3
   ·split at h
    ·rename_i h2
     split at h
     ·simp only[Option.some.injEq] at h
      subst h
      exact⟨Nat.le_refl _,by simp,x,by simp,h2⟩
     ·obtain⟨h1,h2,y,h3,h4⟩:=ih _ _ _ h
      refine⟨by omega,by simp;omega,y,?_,h4⟩
      rw[show k - j=(k - (j+1))+1 by omega,List.getElem?_cons_succ]
      exact h3
    ·obtain⟨h1,h2,y,h3,h4⟩:=ih _ _ _ h
     refine⟨by omega,by simp;omega,y,?_,h4⟩
     rw[show k - j=(k - (j+1))+1 by omega,List.getElem?_cons_succ]
     exact h3
theorem stkGo_app:∀ (a b:List Tok) (k:Nat) (s:List Int),stkGo k (a ++ b) s=stkGo (k+a.length) b (stkGo k a s):=by
 intro a
 induction a with
 | nil=>intro b k s;rfl
 | cons x r ih=>
   intro b k s
   rw[List.cons_append,stkGo,stkGo,ih]
   congr 1
   simp;omega
theorem stack_at {l:List Tok} {n:Nat} (hn:n<=l.length):x1w l (n:Int)=stkGo 0 (l.take n) []:=by
 unfold x1w
 rw[if_neg (by omega),show (max (n:Int) 0).toNat=n by omega]
theorem x45 {l:List Tok} {n:Nat} (hn:n<=l.length):x04 l (n:Int)=(stkGo 0 (l.take n) []).getLast?.getD (-1):=by
 unfold x04
 rw[stack_at hn]
theorem part_some {l:List Tok} {i:Nat} {e:Int} (h:partL l i=e) (he:0<=e):∃ k:Nat,e=(i:Int)+k/\ptGo 0 0 (l.drop i)=some k/\i+k < l.length/\∃ x,l[i+k]?=some x/\x.k=2:=by
 unfold partL at h
 cases hp:ptGo 0 0 (l.drop i) with
 | none=>rw[hp] at h;simp only at h;omega
 | some k=>
   rw[hp] at h
   obtain⟨h1,h2,x,h3,h4⟩:=pt_at _ _ _ _ hp
   rw[List.length_drop] at h2
   refine⟨k,h.symm,rfl,by omega,x,?_,h4⟩
   rw[Nat.sub_zero,List.getElem?_drop] at h3
   exact h3
/-- How deep behind a piece that begins so deep; none: it falls below. -/
def dpt:Nat->List Tok->Option Nat
 | n,[]=>some n
 | n,x :: r=>if x.k=1 then dpt (n+1) r else if x.k=2 then (if n=0 then none else dpt (n - 1) r) else dpt n r
theorem dpt_app:∀ (a b:List Tok) (n:Nat),dpt n (a ++ b)=(dpt n a).bind (fun m=>dpt m b):=by
 intro a b
 induction a with
 | nil=>intro n;rfl
 | cons x r ih=>
   intro n
   rw[List.cons_append,dpt,dpt]
   split
   ·exact ih _
   ·split
    ·split
     ·rfl
     ·exact ih _
    ·exact ih _
/-- The same of the places. -/
theorem dpt_stk:∀ (B:List Tok) (a b:Nat),dpt a B=some b->∀ (k:Nat) (u:List Int),u.length=a->∀ S:List Int,stkGo k B (S ++ u)=S ++ stkGo k B u/\(stkGo k B u).length=b:=by
 intro B
 induction B with
 | nil=>
   intro a b h k u hu S
   simp only[dpt,Option.some.injEq] at h
   exact⟨rfl,by simp only[stkGo];omega⟩
 | cons x r ih=>
   intro a b h k u hu S
   unfold dpt at h
   simp only[stkGo,x1b]
   by_cases h1:x.k=1
   ·rw[if_pos h1] at h
    simp only[if_pos h1,List.append_assoc]
    exact ih _ _ h _ _ (by simp[hu]) S
   ·rw[if_neg h1] at h
    simp only[if_neg h1]
    by_cases h2:x.k=2
    ·rw[if_pos h2] at h
     split at h
     ·cases h
     ·rename_i h0
      simp only[if_pos h2]
      have hne:u ≠ []:=by intro e;subst e;simp at hu;omega
      rw[List.dropLast_append_of_ne_nil hne]
      exact ih _ _ h _ _ (by rw[List.length_dropLast];omega) S
    ·rw[if_neg h2] at h
     simp only[if_neg h2]
     exact ih _ _ h _ _ hu S
/-- Behind what is open, so deep in it: is it the innermost? -/
theorem around_rel {l:List Tok} {i m n:Nat} {o:Tok} (hi:l[i]?=some o) (h1:o.k=1) (hm:i+1+m<=l.length) (hd:dpt 0 ((l.drop (i+1)).take m)=some n):x04 l ((i+1+m:Nat):Int)=(i:Int) ↔ n=0:=by
 have hil:=(List.getElem?_eq_some_iff.1 hi).1
 have htk:l.take (i+1+m)=l.take i ++ o :: (l.drop (i+1)).take m:=by
  rw[List.take_add,List.take_add_one,hi]
  simp
 have hli:(l.take i).length=i:=by rw[List.length_take];omega
 rw[x45 hm,htk,stkGo_app]
 simp only[stkGo,x1b,if_pos h1,Nat.zero_add,hli]
 obtain⟨e1,e2⟩:=dpt_stk ((l.drop (i+1)).take m) 0 n hd (i+1) [] rfl (stkGo 0 (l.take i) [] ++ [(i:Int)])
 rw[List.append_nil] at e1
 rw[e1]
 constructor
 ·intro h
  rcases Nat.eq_zero_or_pos n with h0 | h0
  ·exact h0
  ·exfalso
   have hne:stkGo (i+1) ((l.drop (i+1)).take m) [] ≠ []:=by intro e;rw[e] at e2;simp at e2;omega
   rw[List.getLast?_append,List.getLast?_eq_some_getLast hne,Option.some_or,Option.getD_some] at h
   have hmem:=List.getLast_mem hne
   rw[h] at hmem
   rcases stkGo_mem _ _ _ _ hmem with h9 | ⟨j,x,h9,_⟩
   ·cases h9
   ·omega
 ·intro h0
  subst h0
  rw[List.eq_nil_of_length_eq_zero e2,List.append_nil]
  simp
theorem x5c {l:List Tok} {i:Nat} {y:Tok} (hr:tokR.row w F A l) (hb:l.length<=1048576 * 4) (hlc:l.length<=c) (hy:l[i]?=some y) (h1:y.k=1) :
 Calls Tryz.prog 77 #[.slice A l.length c,.int .i64 i] w fun e w'=>e=.returned (.int .i64 (partL l i))/\Pure w w':=by
 have HR:=mK hr
 have HA:=mK (fun W (hu:Pure w W) (q:Int)=>x25 (c:=c) (at':=q) (Rp.x01 hr hu) hb hlc)
 have hil:i < l.length:=(List.getElem?_eq_some_iff.1 hy).1
 obtain⟨bA,oA,rfl,_,hby,f0,f1,f2,f3⟩:=x0j hr hy
 rw[h1] at f0
 have t1:decide ((i:Int) < 0)=false:=by simp
 have t2:decide ((i:Int) >= (l.length:Int))=false:=by simp;omega
 have t6:decide (l.length<=i)=false:=by simp;omega
 have hw0:IntKind.i64.wrap ((i:Int)+1)=(i:Int)+1:=IntWalk.i64_in _ (by omega)
 have HREL:=mK (fun (m n:Nat) (hm:i+1+m<=l.length) (hd:dpt 0 ((l.drop (i+1)).take m)=some n)=>around_rel hy h1 hm hd)
 have HPT:=mK (show partL l i=match ptGo 1 1 (l.drop (i+1)) with | some q=>(i:Int)+q | none=>-1 by
  unfold partL
  rw[drop_cons hy,ptGo,if_pos h1]
  rfl)
 clear hr hy h1
 go_enter Tryz.func77,Tryz.ntmps77
 go_wp2
 go_loopg [5] (l.length - (i+1)) (fun g kv wr=>∃ m n:Nat,m+g=l.length - (i+1)/\kv=.int .i64 ((i+1+m:Nat):Int)/\As (dpt 0 ((l.drop (i+1)).take m)=some n)/\As (ptGo (m+1) ((n:Int)+1) (l.drop (i+1+m))=ptGo 1 1 (l.drop (i+1)))/\As (Pure w wr))
 case atStart=>exact⟨0,0,by omega,by go_num,⟨rfl⟩,⟨by simp⟩,⟨Upd.refl _ _⟩⟩
 case round=>
  obtain⟨m,n,hm,rfl,HD,HT,HP⟩:=hrel
  by_cases hlt:i+1+m < l.length
  ·obtain⟨g1,rfl⟩:=sC1 (by omega:0 < gk)
   obtain⟨x,hx⟩:∃ x,l[i+1+m]?=some x:=⟨_,List.getElem?_eq_getElem hlt⟩
   obtain⟨b,o,hA,hFb,hbb,d0,d1,d2,d3⟩:=x0j (Rp.x01 HR.o HP.o) hx
   simp only[Option.some.injEq,Addr.mk.injEq,and_true] at hA
   obtain⟨rfl,rfl⟩:=hA
   have hrl:=HREL.o m n (by omega) HD.o
   have hpt:=HT.o
   rw[drop_cons hx,ptGo] at hpt
   have hdx:dpt 0 ((l.drop (i+1)).take (m+1))=(dpt 0 ((l.drop (i+1)).take m)).bind (fun q=>dpt q [x]):=by
    rw[List.take_add_one,List.getElem?_drop,hx,dpt_app]
    rfl
   rw[HD.o] at hdx
   simp only[Option.bind_some,dpt] at hdx
   have i5:((i+1+m:Nat):Int) < (l.length:Int):=by omega
   have hwk:IntKind.i64.wrap (((i+1+m:Nat):Int)+1)=((i+1+(m+1):Nat):Int):=by rw[IntWalk.i64_in _ (by omega)];omega
   have HM:=mK hm
   generalize hq:i+1+m=q at *
   have HQ:=mK hq
   clear hx hFb HT HD hm hq
   by_cases h1:x.k=1
   ·have e1:(x.k == 2)=false:=by simp[h1]
    rw[if_pos h1] at hpt hdx
    have HV:=mK (And.intro hpt hdx)
    clear hpt hdx h1 hrl
    go_wp2
    go_roundg g1
    case measure=>omega
    case rel=>exact⟨m+1,n+1,by have:=HM.o;omega,by have h9:=HQ.o;congr 1 <;> omega,⟨HV.o.2⟩,⟨by rw[<- HV.o.1,<- HQ.o];congr 1 <;> omega⟩,HP⟩
   ·rw[if_neg h1] at hpt hdx
    by_cases h2:x.k=2
    ·have e1:(x.k == 2)=true:=by simp[h2]
     rw[if_pos h2] at hpt hdx
     by_cases hn:n=0
     ·have ha:x04 l (q:Int)=(i:Int):=hrl.2 hn
      subst hn
      rw[if_pos (by omega)] at hpt
      have HAq:=mK (fun W (hu:Pure w W)=>(by have:=HA.o W hu (q:Int);rw[ha] at this;exact this:Calls Tryz.prog 74 #[.slice (some ⟨bA,oA,none⟩) l.length c,.int .i64 (q:Nat)] W fun e w'=>e=.returned (.int .i64 (i:Nat))/\Pure W w'))
      have HV:=mK (show partL l i=(q:Int) by rw[HPT.o,<- hpt];simp only;have:=HQ.o;omega)
      clear hpt hdx h1 h2 hrl ha
      go_wp2_with (go_at_call 74;refine(HAq.o _ HP.o).mono ?_;rintro r w1 ⟨rfl,hu⟩;have HU1:=mK hu;clear hu)
      go_ret
      exact⟨by rw[HV.o];rfl,HP.o.tt HU1.o⟩
     ·have ha:¬ x04 l (q:Int)=(i:Int):=fun e=>hn (hrl.1 e)
      have e3:(x04 l (q:Int) == (i:Int))=false:=by simpa using ha
      rw[if_neg (by omega)] at hpt
      rw[if_neg hn] at hdx
      have HV:=mK (And.intro hpt hdx)
      have HN:=mK hn
      have HAq:=mK (fun W (hu:Pure w W)=>HA.o W hu (q:Int))
      generalize x04 l (q:Int)=aq at *
      clear hpt hdx h1 h2 hrl ha hn
      go_wp2_with (go_at_call 74;refine(HAq.o _ HP.o).mono ?_;rintro r w1 ⟨rfl,hu⟩;have HU1:=mK hu;clear hu)
      go_roundg g1
      case measure=>omega
      case rel=>exact⟨m+1,n - 1,by have:=HM.o;omega,by have h9:=HQ.o;congr 1 <;> omega,⟨HV.o.2⟩,⟨by rw[<- HV.o.1,<- HQ.o];have h8:=HN.o;congr 1 <;> omega⟩,⟨HP.o.tt HU1.o⟩⟩
    ·have e1:(x.k == 2)=false:=by simp[h2]
     rw[if_neg h2] at hpt hdx
     have HV:=mK (And.intro hpt hdx)
     clear hpt hdx h1 h2 hrl
     go_wp2
     go_roundg g1
     case measure=>omega
     case rel=>exact⟨m+1,n,by have:=HM.o;omega,by have h9:=HQ.o;congr 1 <;> omega,⟨HV.o.2⟩,⟨by rw[<- HV.o.1,<- HQ.o];rfl⟩,HP⟩
  ·have hml:i+1+m=l.length:=by omega
   have hpt:=HT.o
   rw[List.drop_eq_nil_of_le (by omega)] at hpt
   have HV:=mK (show partL l i=-1 by rw[HPT.o,<- hpt];rfl)
   have i5:¬ (((i+1+m:Nat):Int) < (l.length:Int)):=by omega
   generalize hq:i+1+m=q at *
   clear hpt HT HD
   go_wp2
   go_ret
   exact⟨by rw[HV.o];rfl,HP.o⟩
theorem toldS_zero {s:StepD}:toldS s 0=s:=rfl
theorem x3i {l:List Tok} {i:Nat} (h:l.length<=2048):-1<=partL l i/\partL l i < (l.length:Int):=by
 by_cases h0:0<=partL l i
 ·obtain⟨k,h1,_,h2,_⟩:=part_some (l:=l) (i:=i) rfl h0
  omega
 ·unfold partL at h0 ⊢
  split
  ·rename_i k hk
   rw[hk] at h0
   simp only at h0
   omega
  ·omega
end Go.Proofs.YtofjodppljnlaaaGreatDoor
