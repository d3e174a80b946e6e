/- My own texts, packed: RowK. -/
import Derived.Test.YtofjodppljnlaaaGreatDoorP2
set_option maxRecDepth 100000
set_option maxHeartbeats 4000000
set_option linter.unusedVariables false
set_option linter.unusedSimpArgs false
variable {w w1 W:Go.World} {F G:Nat → Prop} {A B:Option Go.Addr} {cb c:Nat}
namespace Go.Proofs.YtofjodppljnlaaaGreatDoor
open Go.RowKit
def KdRel (w wr:World) (l:List Tok) (i:Int) (k d:Nat) (v:Value):Prop:=
 ∃ s:List Int,intRS.own 3 wr (fun q=>w.heap.size<=q) v s/\s.length<=k/\s ++ kdGo i k d (l.drop k)=kidsL l i/\Pure w wr
theorem kdGo_len (i:Int):∀ (l:List Tok) (k d:Nat),(kdGo i k d l).length<=l.length:=by
 intro l
 induction l with
 | nil=>intro k d;simp[kdGo]
 | cons x r ih=>
   intro k d
   rw[kdGo]
   split
   ·split
    ·simp
    ·have:=ih (k+1) (d - 1)
     simp only[List.length_cons]
     omega
   ·rw[List.length_append]
    have h1:=ih (k+1) (if x.k=1 then d+1 else d)
    have h2:(if d=0/\0<=x.k/\x.k<=3 then [(k:Int)] else []).length<=1:=by split <;> simp
    simp only[List.length_cons]
    omega
theorem kidsL_len (l:List Tok) (i:Int):(kidsL l i).length<=l.length:=by
 unfold kidsL
 have:=kdGo_len i (l.drop (i+1).toNat) (i+1).toNat 0
 rw[List.length_drop] at this
 omega
theorem Kids_whole {l:List Tok} (hr:tokR.row w F A l) (hb:l.length<=1048576 * 4) :
 Calls Tryz.prog 76 #[.slice A l.length c,.int .i64 (-1)] w fun e w'=>∃ v,e=.returned v/\intRS.own 3 w' (fun k=>w.heap.size<=k) v (kidsL l (-1))/\Pure w w':=by
 have HR:=mK hr
 have HS0:=mK (show KdRel w w l (-1) 0 0 (.slice none 0 0) from⟨[],Rp.x0v _ _ _ _,Nat.zero_le _,rfl,Upd.refl _ _⟩)
 have t2:decide ((-1:Int) >= (l.length:Int))=false:=by simp;omega
 have t3:decide ((l.length:Int)<=-1)=false:=by simp;omega
 clear hr
 go_enter Tryz.func76,Tryz.ntmps76
 go_wp2
 go_loopg [5,6,7] l.length (fun gg v dv kv wr=>∃ k d:Nat,k+gg=l.length/\dv=.int .i64 d/\kv=.int .i64 k/\d<=k/\As (KdRel w wr l (-1) k d v))
 case atStart=>exact⟨0,0,by omega,rfl,rfl,by omega,HS0⟩
 case round=>
  obtain⟨k,d,hk,rfl,rfl,hdk,HC⟩:=hrel
  by_cases hlt:k < l.length
  ·obtain⟨x,hx⟩:=gS hlt
   obtain⟨s,hown,hsl,heq,hp⟩:=HC.o
   obtain⟨b,o,rfl,hFb,hbb,d0,d1,d2,d3⟩:=x0j (Rp.x01 HR.o hp) hx
   obtain⟨g1,rfl⟩:=sC1 (by omega:0 < gk)
   rw[drop_cons hx,kdGo] at heq
   have HO:=mK hown
   have HP:=mK hp
   have HK:=mK hk
   have HSL:=mK hsl
   have hdec:decide (k < l.length)=true:=by simpa using hlt
   have hwk:IntKind.i64.wrap ((k:Int)+1)=(k:Int)+1:=IntWalk.i64_in _ (by omega)
   clear hown hp hk hx HC hsl
   by_cases h2:x.k=2
   ·have e2:(x.k == 2)=true:=by simp[h2]
    rw[if_pos h2] at heq
    by_cases hd:d=0
    ·subst hd
     rw[if_neg (by omega)] at heq
     have HE:=mK heq
     have hmx:max ((0:Int) - 1) 0=0:=by decide
     have hmy:max (-1:Int) 0=0:=by decide
     clear heq h2
     go_wp2
     go_roundg g1
     case measure=>omega
     case rel=>exact⟨k+1,0,by have:=HK.o;omega,by first | rfl | go_num,by go_num,by omega,⟨s,HO.o,by have:=HSL.o;omega,HE.o,HP.o⟩⟩
    ·obtain⟨d',rfl⟩:∃ d',d=d'+1:=⟨d - 1,by omega⟩
     rw[if_neg (by omega)] at heq
     have HE:=mK heq
     have e0:(((d'+1:Nat):Int) == 0)=false:=by simp;omega
     have e00:(((d':Nat):Int)+1 == 0)=false:=by simp;omega
     have hmx:max (d':Int) 0=d':=by omega
     clear heq h2 hd
     go_wp2
     go_roundg g1
     case measure=>omega
     case rel=>exact⟨k+1,d',by have:=HK.o;omega,by first | rfl | go_num,by go_num,by omega,⟨s,HO.o,by have:=HSL.o;omega,HE.o,HP.o⟩⟩
   ·have e2:(x.k == 2)=false:=by simp[h2]
    rw[if_neg h2] at heq
    have hw1:IntKind.i64.wrap ((d:Int)+1)=(d:Int)+1:=IntWalk.i64_in _ (by omega)
    have hd1:∀ (d2:Nat) (v2:Value) (w2:World) (s2:List Int),s ++ ((if d=0/\0<=x.k/\x.k<=3 then [(k:Int)] else []) ++ kdGo (-1:Int) (k+1) d2 (l.drop (k+1)))=kidsL l (-1:Int)->intRS.own 3 w2 (fun q=>w.heap.size<=q) v2 s2->s2=s ++ (if d=0/\0<=x.k/\x.k<=3 then [(k:Int)] else [])->Pure w w2->KdRel w w2 l (-1:Int) (k+1) d2 v2:=fun d2 v2 w2 s2 h1 h3 h4 h5=>⟨s2,h3,by subst h4;rw[List.length_append];have:=HSL.o;split <;> simp <;> omega,by rw[h4,List.append_assoc];exact h1,h5⟩
    have HD1:=mK hd1
    have HE:=mK heq
    clear heq hd1
    by_cases hin:d=0/\0<=x.k/\x.k<=3
    ·obtain⟨rfl,hin1,hin2⟩:=hin
     rw[if_pos ⟨rfl,hin1,hin2⟩] at HE HD1
     have f1:decide (x.k >= 0)=true:=by simpa using hin1
     have f2:decide (0<=x.k)=true:=by simpa using hin1
     have f3:decide (x.k<=3)=true:=by simpa using hin2
     clear hin1 hin2 h2
     by_cases h1:x.k=1
     ·have e1:(x.k == 1)=true:=by simp[h1]
      rw[if_pos h1] at HE
      clear h1
      go_wp2_with (at_builtin;refine Rp.x0o intRS HO.o (k:Int) [.int .i64 k] rfl (Fp:=fun _=>False) (G:=fun q=>w.heap.size<=q) (fun _ h=>h.elim) (fun _ h _=>h) (fun q hq=>by have:=HP.o.size;omega) rfl _ _ 83 _ 8 rfl Tryz.underlying83 x1n rfl (by decide) (by decide) rfl (by simp[Act.eval]) (by have:=HSL.o;omega) ?_;intro v1 w1 ho1 hu1;have HO1:=mK ho1;have HU1:=mK (HP.o.trans hu1 (fun q hq h=>by have:=Rp.x03 HO.o q h;omega));clear ho1 hu1)
      go_roundg g1
      case measure=>omega
      case rel=>exact⟨k+1,1,by have:=HK.o;omega,by first | rfl | go_num,by go_num,by omega,⟨HD1.o _ _ _ _ HE.o HO1.o rfl HU1.o⟩⟩
     ·have e1:(x.k == 1)=false:=by simp[h1]
      rw[if_neg h1] at HE
      clear h1
      go_wp2_with (at_builtin;refine Rp.x0o intRS HO.o (k:Int) [.int .i64 k] rfl (Fp:=fun _=>False) (G:=fun q=>w.heap.size<=q) (fun _ h=>h.elim) (fun _ h _=>h) (fun q hq=>by have:=HP.o.size;omega) rfl _ _ 83 _ 8 rfl Tryz.underlying83 x1n rfl (by decide) (by decide) rfl (by simp[Act.eval]) (by have:=HSL.o;omega) ?_;intro v1 w1 ho1 hu1;have HO1:=mK ho1;have HU1:=mK (HP.o.trans hu1 (fun q hq h=>by have:=Rp.x03 HO.o q h;omega));clear ho1 hu1)
      go_roundg g1
      case measure=>omega
      case rel=>exact⟨k+1,0,by have:=HK.o;omega,by first | rfl | go_num,by go_num,by omega,⟨HD1.o _ _ _ _ HE.o HO1.o rfl HU1.o⟩⟩
    ·rw[if_neg hin] at HE HD1
     have hcond:(decide ((d:Int)=0) && (decide (0<=x.k) && decide (x.k<=3)))=false:=by
      rw[<- Bool.not_eq_true]
      simp only[Bool.and_eq_true,decide_eq_true_eq]
      omega
     have HCOND:=mK hcond
     clear hin hcond
     cases c0:decide ((d:Int)=0) <;> cases c1:decide (0<=x.k) <;> cases c2:decide (x.k<=3) <;> cases c3:decide (x.k=1)
     all_goals first
      | (exfalso;rw[c0,c1,c2] at HCOND;exact absurd HCOND.o (by decide))
      | skip
     all_goals
      have c4:((d:Int) == 0)=decide ((d:Int)=0):=rfl
      have c5:(x.k == 1)=decide (x.k=1):=rfl
      have c6:decide (x.k >= 0)=decide (0<=x.k):=rfl
      have c7:decide (d=0)=decide ((d:Int)=0):=by simp
      rw[c0] at c4 c7
      rw[c3] at c5
      rw[c1] at c6
      have HC3:=mK c3
      clear HCOND c3
      go_wp2
      go_roundg g1
      case measure=>omega
      case rel=>exact⟨k+1,if x.k=1 then d+1 else d,by have:=HK.o;omega,by first | (rw[if_pos (of_decide_eq_true HC3.o)];go_num) | (rw[if_neg (of_decide_eq_false HC3.o)];go_num) | (rw[if_neg (of_decide_eq_false HC3.o)]),by go_num,by split <;> omega,⟨HD1.o _ _ _ _ HE.o HO.o (by simp) HP.o⟩⟩
  ·obtain rfl:k=l.length:=by omega
   obtain⟨s,hown,hsl,heq,hp⟩:=HC.o
   rw[List.drop_length,kdGo,List.append_nil] at heq
   have HO:=mK hown
   have HP:=mK hp
   have HE:=mK heq
   clear hown hp heq HC hsl
   go_wp2
   go_ret
   exact⟨_,rfl,by rw[<- HE.o];exact HO.o,HP.o⟩
theorem Kids_in {l:List Tok} {j:Nat} {y:Tok} (hr:tokR.row w F A l) (hb:l.length<=1048576 * 4) (hy:l[j]?=some y) (hy1:y.k=1) :
 Calls Tryz.prog 76 #[.slice A l.length c,.int .i64 j] w fun e w'=>∃ v,e=.returned v/\intRS.own 3 w' (fun k=>w.heap.size<=k) v (kidsL l j)/\Pure w w':=by
 have HR:=mK hr
 have hjl:j < l.length:=(List.getElem?_eq_some_iff.1 hy).1
 have HS0:=mK (show KdRel w w l j (j+1) 0 (.slice none 0 0) from⟨[],Rp.x0v _ _ _ _,Nat.zero_le _,rfl,Upd.refl _ _⟩)
 obtain⟨by',oy',rfl,_,hby,f0,f1,f2,f3⟩:=x0j hr hy
 rw[hy1] at f0
 have t1:decide ((j:Int) < -1)=false:=by rw[decide_eq_false_iff_not];omega
 have t2:decide ((j:Int) >= (l.length:Int))=false:=by simp;omega
 have t3:decide ((l.length:Int)<=(j:Int))=false:=by simp;omega
 have t4:decide ((j:Int) >= 0)=true:=by simp
 have t5:decide ((0:Int)<=(j:Int))=true:=by simp
 have t6:decide (l.length<=j)=false:=by simp;omega
 have hwj:IntKind.i64.wrap ((j:Int)+1)=(j:Int)+1:=IntWalk.i64_in _ (by omega)
 clear hr hy hy1
 go_enter Tryz.func76,Tryz.ntmps76
 go_wp2
 go_loopg [5,6,7] (l.length - (j+1)) (fun gg v dv kv wr=>∃ k d:Nat,k+gg=l.length/\dv=.int .i64 d/\kv=.int .i64 k/\d<=k/\As (KdRel w wr l j k d v))
 case atStart=>exact⟨j+1,0,by omega,rfl,by go_num,by omega,HS0⟩
 case round=>
  obtain⟨k,d,hk,rfl,rfl,hdk,HC⟩:=hrel
  by_cases hlt:k < l.length
  ·obtain⟨x,hx⟩:=gS hlt
   obtain⟨s,hown,hsl,heq,hp⟩:=HC.o
   obtain⟨b,o,hA,hFb,hbb,d0,d1,d2,d3⟩:=x0j (Rp.x01 HR.o hp) hx
   simp only[Option.some.injEq,Addr.mk.injEq] at hA
   obtain⟨rfl,rfl,_⟩:=hA
   obtain⟨g1,rfl⟩:=sC1 (by omega:0 < gk)
   rw[drop_cons hx,kdGo] at heq
   have HO:=mK hown
   have HP:=mK hp
   have HK:=mK hk
   have HSL:=mK hsl
   have hdec:decide (k < l.length)=true:=by simpa using hlt
   have hwk:IntKind.i64.wrap ((k:Int)+1)=(k:Int)+1:=IntWalk.i64_in _ (by omega)
   clear hown hp hk hx HC hsl
   by_cases h2:x.k=2
   ·have e2:(x.k == 2)=true:=by simp[h2]
    rw[if_pos h2] at heq
    by_cases hd:d=0
    ·subst hd
     rw[if_pos ⟨rfl,by omega⟩,List.append_nil] at heq
     have HE:=mK heq
     clear heq h2
     go_wp2
     go_ret
     exact⟨_,rfl,by rw[<- HE.o];exact HO.o,HP.o⟩
    ·obtain⟨d',rfl⟩:∃ d',d=d'+1:=⟨d - 1,by omega⟩
     rw[if_neg (by omega)] at heq
     have HE:=mK heq
     have e0:(((d'+1:Nat):Int) == 0)=false:=by simp;omega
     have e00:(((d':Nat):Int)+1 == 0)=false:=by simp;omega
     have hmx:max (d':Int) 0=d':=by omega
     clear heq h2 hd
     go_wp2
     go_roundg g1
     case measure=>omega
     case rel=>exact⟨k+1,d',by have:=HK.o;omega,by first | rfl | go_num,by go_num,by omega,⟨s,HO.o,by have:=HSL.o;omega,HE.o,HP.o⟩⟩
   ·have e2:(x.k == 2)=false:=by simp[h2]
    rw[if_neg h2] at heq
    have hw1:IntKind.i64.wrap ((d:Int)+1)=(d:Int)+1:=IntWalk.i64_in _ (by omega)
    have hd1:∀ (d2:Nat) (v2:Value) (w2:World) (s2:List Int),s ++ ((if d=0/\0<=x.k/\x.k<=3 then [(k:Int)] else []) ++ kdGo (j:Int) (k+1) d2 (l.drop (k+1)))=kidsL l (j:Int)->intRS.own 3 w2 (fun q=>w.heap.size<=q) v2 s2->s2=s ++ (if d=0/\0<=x.k/\x.k<=3 then [(k:Int)] else [])->Pure w w2->KdRel w w2 l (j:Int) (k+1) d2 v2:=fun d2 v2 w2 s2 h1 h3 h4 h5=>⟨s2,h3,by subst h4;rw[List.length_append];have:=HSL.o;split <;> simp <;> omega,by rw[h4,List.append_assoc];exact h1,h5⟩
    have HD1:=mK hd1
    have HE:=mK heq
    clear heq hd1
    by_cases hin:d=0/\0<=x.k/\x.k<=3
    ·obtain⟨rfl,hin1,hin2⟩:=hin
     rw[if_pos ⟨rfl,hin1,hin2⟩] at HE HD1
     have f1:decide (x.k >= 0)=true:=by simpa using hin1
     have f2:decide (0<=x.k)=true:=by simpa using hin1
     have f3:decide (x.k<=3)=true:=by simpa using hin2
     clear hin1 hin2 h2
     by_cases h1:x.k=1
     ·have e1:(x.k == 1)=true:=by simp[h1]
      rw[if_pos h1] at HE
      clear h1
      go_wp2_with (at_builtin;refine Rp.x0o intRS HO.o (k:Int) [.int .i64 k] rfl (Fp:=fun _=>False) (G:=fun q=>w.heap.size<=q) (fun _ h=>h.elim) (fun _ h _=>h) (fun q hq=>by have:=HP.o.size;omega) rfl _ _ 83 _ 8 rfl Tryz.underlying83 x1n rfl (by decide) (by decide) rfl (by simp[Act.eval]) (by have:=HSL.o;omega) ?_;intro v1 w1 ho1 hu1;have HO1:=mK ho1;have HU1:=mK (HP.o.trans hu1 (fun q hq h=>by have:=Rp.x03 HO.o q h;omega));clear ho1 hu1)
      go_roundg g1
      case measure=>omega
      case rel=>exact⟨k+1,1,by have:=HK.o;omega,by first | rfl | go_num,by go_num,by omega,⟨HD1.o _ _ _ _ HE.o HO1.o rfl HU1.o⟩⟩
     ·have e1:(x.k == 1)=false:=by simp[h1]
      rw[if_neg h1] at HE
      clear h1
      go_wp2_with (at_builtin;refine Rp.x0o intRS HO.o (k:Int) [.int .i64 k] rfl (Fp:=fun _=>False) (G:=fun q=>w.heap.size<=q) (fun _ h=>h.elim) (fun _ h _=>h) (fun q hq=>by have:=HP.o.size;omega) rfl _ _ 83 _ 8 rfl Tryz.underlying83 x1n rfl (by decide) (by decide) rfl (by simp[Act.eval]) (by have:=HSL.o;omega) ?_;intro v1 w1 ho1 hu1;have HO1:=mK ho1;have HU1:=mK (HP.o.trans hu1 (fun q hq h=>by have:=Rp.x03 HO.o q h;omega));clear ho1 hu1)
      go_roundg g1
      case measure=>omega
      case rel=>exact⟨k+1,0,by have:=HK.o;omega,by first | rfl | go_num,by go_num,by omega,⟨HD1.o _ _ _ _ HE.o HO1.o rfl HU1.o⟩⟩
    ·rw[if_neg hin] at HE HD1
     have hcond:(decide ((d:Int)=0) && (decide (0<=x.k) && decide (x.k<=3)))=false:=by
      rw[<- Bool.not_eq_true]
      simp only[Bool.and_eq_true,decide_eq_true_eq]
      omega
     have HCOND:=mK hcond
     clear hin hcond
     cases c0:decide ((d:Int)=0) <;> cases c1:decide (0<=x.k) <;> cases c2:decide (x.k<=3) <;> cases c3:decide (x.k=1)
     all_goals first
      | (exfalso;rw[c0,c1,c2] at HCOND;exact absurd HCOND.o (by decide))
      | skip
     all_goals
      have c4:((d:Int) == 0)=decide ((d:Int)=0):=rfl
      have c5:(x.k == 1)=decide (x.k=1):=rfl
      have c6:decide (x.k >= 0)=decide (0<=x.k):=rfl
      have c7:decide (d=0)=decide ((d:Int)=0):=by simp
      rw[c0] at c4 c7
      rw[c3] at c5
      rw[c1] at c6
      have HC3:=mK c3
      clear HCOND c3
      go_wp2
      go_roundg g1
      case measure=>omega
      case rel=>exact⟨k+1,if x.k=1 then d+1 else d,by have:=HK.o;omega,by first | (rw[if_pos (of_decide_eq_true HC3.o)];go_num) | (rw[if_neg (of_decide_eq_false HC3.o)];go_num) | (rw[if_neg (of_decide_eq_false HC3.o)]),by go_num,by split <;> omega,⟨HD1.o _ _ _ _ HE.o HO.o (by simp) HP.o⟩⟩
  ·obtain rfl:k=l.length:=by omega
   obtain⟨s,hown,hsl,heq,hp⟩:=HC.o
   rw[List.drop_length,kdGo,List.append_nil] at heq
   have HO:=mK hown
   have HP:=mK hp
   have HE:=mK heq
   clear hown hp heq HC hsl
   go_wp2
   go_ret
   exact⟨_,rfl,by rw[<- HE.o];exact HO.o,HP.o⟩
end Go.Proofs.YtofjodppljnlaaaGreatDoor
