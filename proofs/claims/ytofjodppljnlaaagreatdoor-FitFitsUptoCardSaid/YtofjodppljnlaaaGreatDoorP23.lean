/- My own texts, packed: Spc6, Tok6, One6, Check6, Do10, House6. -/
import Derived.Test.YtofjodppljnlaaaGreatDoorP22
import Derived.Test.YtofjodppljnlaaaGreatDoorP19
import Derived.Test.YtofjodppljnlaaaGreatDoorP21
set_option maxRecDepth 100000
set_option maxHeartbeats 4000000
set_option linter.unusedVariables false
set_option linter.unusedSimpArgs false
variable {w w1 W:Go.World} {F G:Nat → Prop} {A B:Option Go.Addr} {cb c:Nat}
namespace Go.Proofs.YtofjodppljnlaaaGreatDoor
open Go.RowKit
theorem spec_some {k:Nat} {x:Spec} {e:Ex} (h:x02[k+1]?=some (x,e)):x17 x02 ((k+1:Nat):Int)=some x:=by
 unfold x17
 rw[if_neg (by omega),Int.toNat_natCast,h]
 rfl
theorem spec_low {t:Int} (h:t < 1):x17 x02 t=none:=by
 unfold x17
 rw[if_pos h]
theorem spec_high {t:Int} (h:7 < t):x17 x02 t=none:=by
 unfold x17
 rw[if_neg (by omega),List.getElem?_eq_none (by rw[x2w];omega)]
 rfl
theorem Spec6_in (h:H6 w cb) {k:Nat} (hk:k < 7) {x:Spec} (hx:x1c[k]?=some x):Calls Tryz.prog 75 #[.pointer (some ⟨cb,0,none⟩),.int .i64 ((k+1:Nat):Int)] w fun r w'=>r=.returned (.tuple #[x.val,.bool true])/\Pure w w':=by
 obtain⟨AW,cW,AL,cL,AE,cE,AG,cG,hcb,c0,c1,c2,c3,c4,c5,hw,hl,he,hg⟩:=h.cells
 obtain⟨b,o,rfl,_,hbl,d0,d1,d2,d3,d4,d5,d6⟩:=x58 hl hx
 rw[h6_len] at c3
 have t1:decide (((k+1:Nat):Int) < 1)=false:=decide_eq_false (by omega)
 have t3:decide ((7:Int) < ((k+1:Nat):Int))=false:=decide_eq_false (by omega)
 have t4:IntKind.i64.wrap (((k+1:Nat):Int) - 1)=(k:Int):=by rw[show ((k+1:Nat):Int) - 1=(k:Int) by omega];exact IntWalk.i64_in _ (by omega)
 generalize ((k+1:Nat):Int)=kk at *
 clear hw hl he hg h hx
 go_enter Tryz.func75,Tryz.ntmps75
 go_wp2
 exact bodyPost_ret (v:=.tuple #[x.val,.bool true]) (by simp[results,Tryz.results75,go_sem,Spec.val]) rfl ⟨rfl,Upd.alloc1 _ _ _⟩
theorem Spec6_out (h:H6 w cb) {t:Int} (ht:t < 1\/7 < t):Calls Tryz.prog 75 #[.pointer (some ⟨cb,0,none⟩),.int .i64 t] w fun r w'=>r=.returned (.tuple #[zeroSpec.val,.bool false])/\Pure w w':=by
 obtain⟨AW,cW,AL,cL,AE,cE,AG,cG,hcb,c0,c1,c2,c3,c4,c5,hw,hl,he,hg⟩:=h.cells
 rw[h6_len] at c3
 by_cases h1:t < 1
 ·have t1:decide (t < 1)=true:=by simpa using h1
  clear hw hl he hg h ht h1
  go_enter Tryz.func75,Tryz.ntmps75
  go_wp2
  exact bodyPost_ret (v:=.tuple #[zeroSpec.val,.bool false]) (by simp[results,Tryz.results75,go_sem,Spec.val]) rfl ⟨rfl,Upd.alloc1 _ _ _⟩
 ·have t1:decide (t < 1)=false:=by simpa using h1
  have t3:decide ((7:Int) < t)=true:=decide_eq_true (by omega)
  clear hw hl he hg h ht h1
  go_enter Tryz.func75,Tryz.ntmps75
  go_wp2
  exact bodyPost_ret (v:=.tuple #[zeroSpec.val,.bool false]) (by simp[results,Tryz.results75,go_sem,Spec.val]) rfl ⟨rfl,Upd.alloc1 _ _ _⟩
theorem Spec6_calls (h:H6 w cb) (t:Int):Calls Tryz.prog 75 #[.pointer (some ⟨cb,0,none⟩),.int .i64 t] w fun r w'=>r=.returned (.tuple #[((x17 x02 t).getD zeroSpec).val,.bool (x17 x02 t).isSome])/\Pure w w':=by
 by_cases h1:t < 1
 ·rw[spec_low h1];exact Spec6_out h (.inl h1)
 ·by_cases h2:7 < t
  ·rw[spec_high h2];exact Spec6_out h (.inr h2)
  ·obtain⟨k,rfl⟩:∃ k:Nat,t=((k+1:Nat):Int):=⟨(t - 1).toNat,by omega⟩
   have hk:k < 7:=by omega
   obtain⟨x,e,hx,_,hR⟩:=h6_at k hk
   rw[spec_some hR]
   exact Spec6_in h hk hx
theorem rule6_whole {n:Nat} (h:H6 w cb) {t:Int} (ht:t < 0):Calls Tryz.prog 78 #[.pointer (some ⟨cb,0,none⟩),.slice A n c,.int .i64 t] w fun r w'=>(∃ A1 c1,r=.returned (x43.val A1 c1)/\exR.row w' AnyB A1 x43.l)/\Pure w w':=by
 obtain⟨AW,cW,AL,cL,AE,cE,AG,cG,hcb,c0,c1,c2,c3,c4,c5,hw,hl,he,hg⟩:=h.cells
 have HW:=mK hw
 have t1:decide (t < 0)=true:=by simpa using ht
 clear hw hl he hg h ht
 generalize x43=e0 at *
 obtain⟨k0,nm,l⟩:=e0
 unfold Ex.val at *
 go_enter Tryz.func78,Tryz.ntmps78
 go_wp2
 have hu:Pure w (w.alloc (.cells #[.int .i64 k0,.string nm,.slice AW l.length cW] 92)):=Upd.alloc1 _ _ _
 exact bodyPost_ret (v:=.agg #[.int .i64 k0,.string nm,.slice AW l.length cW]) (by simp[results,Tryz.results78,go_sem]) rfl ⟨⟨AW,cW,rfl,Rp.x01 HW.o hu⟩,hu⟩
theorem wd_shut {d:Int} {s:List Int} {x:Tok} (h:x.k=2):x3m (d,s) x=(d - 1,s):=by unfold x3m;simp[h]
theorem wd_open0 {s:List Int} {x:Tok} (h:x.k=1):x3m (0,s) x=(1,s ++ [x.t]):=by unfold x3m;simp[h]
theorem wd_open {d:Int} {s:List Int} {x:Tok} (h:x.k=1) (hd:d ≠ 0):x3m (d,s) x=(d+1,s):=by unfold x3m;simp[h,hd]
theorem wd_else0 {s:List Int} {x:Tok} (h:x.k ≠ 1) (h2:x.k ≠ 2):x3m (0,s) x=(0,s ++ [x.t]):=by unfold x3m;simp[h,h2]
theorem wd_else {d:Int} {s:List Int} {x:Tok} (h:x.k ≠ 1) (h2:x.k ≠ 2) (hd:d ≠ 0):x3m (d,s) x=(d,s):=by unfold x3m;simp[h,h2,hd]
/-- What the loop of word keeps. -/
def WdRel (w wr:World) (l:List Tok) (a:Int) (b k:Nat) (d:Int) (v:Value):Prop:=
 ∃ s:List Int,intRS.own 3 wr (fun q=>w.heap.size<=q) v s/\s.length<=k/\-(k:Int)<=d/\d<=k/\((l.take b).drop k).foldl x3m (d,s)=wdGo l a b/\Pure w wr
theorem word6_calls {l:List Tok} {a b:Nat} (hr:tokR.row w F A l) (hb:l.length<=1048576) (hbl:b<=l.length) (hab:a<=b) {i:Int} (hi:i=(a:Int) - 1) :
 Calls Tryz.prog 71 #[.slice A l.length c,.int .i64 i,.int .i64 b] w fun e w'=>∃ v,e=.returned v/\intRS.own 3 w' (fun k=>w.heap.size<=k) v (wordL l i b)/\(wordL l i b).length<=b/\Pure w w':=by
 have HR:=mK hr
 have hw0:IntKind.i64.wrap (i+1)=(a:Int):=by rw[show i+1=(a:Int) by omega];exact IntWalk.i64_in _ (by omega)
 have HS0:=mK (show WdRel w w l i b a 0 (.slice none 0 0) from⟨[],Rp.x0v _ _ _ _,Nat.zero_le _,by omega,by omega,by unfold wdGo;rw[show (i+1).toNat=a by omega,Int.toNat_natCast],Upd.refl _ _⟩)
 clear hr hi
 go_enter Tryz.func71,Tryz.ntmps71
 go_wp2
 go_loopg [7,8,9] (b - a) (fun gg v dv kv wr=>∃ (k:Nat) (d:Int),k+gg=b/\dv=.int .i64 d/\kv=.int .i64 k/\As (WdRel w wr l i b k d v))
 case atStart=>exact⟨a,0,by omega,rfl,rfl,HS0⟩
 case round=>
  clear HS0
  obtain⟨k,d,hk,rfl,rfl,HC⟩:=hrel
  by_cases hlt:k < b
  ·obtain⟨x,hx⟩:∃ x,l[k]?=some x:=⟨_,List.getElem?_eq_getElem (by omega)⟩
   obtain⟨s,hown,hsl,hd1,hd2,heq,hp⟩:=HC.o
   obtain⟨bt,ot,rfl,hFb,hb0,p0,p1,p2,p3⟩:=x0j HR.o hx
   have q0:=(hp.cell hb0 (fun h=>h)).trans p0
   have q1:=(hp.cell hb0 (fun h=>h)).trans p1
   have hbb:=Nat.lt_of_lt_of_le hb0 hp.size
   obtain⟨g1,rfl⟩:=sC1 (by omega:0 < gk)
   have hcons:(l.take b).drop k=x :: (l.take b).drop (k+1):=drop_cons (by rw[List.getElem?_take,if_pos hlt];exact hx)
   rw[hcons,List.foldl_cons] at heq
   have HNB:=mK (fun h=>(absurd (Rp.x03 hown bt h).1 (by omega):False))
   have HO:=mK hown
   have HP:=mK hp
   have HK:=mK hk
   have HSL:=mK hsl
   have hkl:(k:Int) < (l.length:Int):=by omega
   have hkb:decide ((k:Int) < (b:Int))=true:=decide_eq_true (by omega)
   have hwk:IntKind.i64.wrap ((k:Int)+1)=(k:Int)+1:=IntWalk.i64_in _ (by omega)
   have hwd:IntKind.i64.wrap (d+1)=d+1:=IntWalk.i64_in _ (by omega)
   have hwe:IntKind.i64.wrap (d - 1)=d - 1:=IntWalk.i64_in _ (by omega)
   clear hown hp hk hx HC hsl hcons p0 p1 p2 p3
   by_cases h2:x.k=2
   ·have e2:(x.k == 2)=true:=by simp[h2]
    have e3:(x.k != 2)=false:=by simp[h2]
    have e1:(x.k == 1)=false:=by simp[h2]
    rw[wd_shut h2] at heq
    by_cases hd:d=0
    ·subst hd
     rw[show (0:Int) - 1=-1 from rfl] at heq
     have HE:=mK heq
     clear heq h2
     go_wp2
     go_roundg g1
     case measure=>omega
     case rel=>exact⟨k+1,-1,by have:=HK.o;omega,by first | rfl | go_num,by go_num,⟨_,HO.o,by have:=HSL.o;first | omega | (rw[List.length_append,List.length_singleton];omega),by omega,by omega,HE.o,HP.o⟩⟩
    ·have e0:(d == 0)=false:=by simp[hd]
     have HE:=mK heq
     clear heq h2 hd
     go_wp2
     go_roundg g1
     case measure=>omega
     case rel=>exact⟨k+1,d - 1,by have:=HK.o;omega,by first | rfl | go_num,by go_num,⟨_,HO.o,by have:=HSL.o;first | omega | (rw[List.length_append,List.length_singleton];omega),by omega,by omega,HE.o,HP.o⟩⟩
   ·have e2:(x.k == 2)=false:=by simp[h2]
    have e3:(x.k != 2)=true:=by simp[h2]
    by_cases h1:x.k=1
    ·have e1:(x.k == 1)=true:=by simp[h1]
     by_cases hd:d=0
     ·subst hd
      rw[wd_open0 h1] at heq
      have HE:=mK heq
      clear heq h2 h1
      go_wp2_with (at_builtin;refine Rp.x0o intRS HO.o x.t [.int .i64 x.t] rfl (Fp:=fun _=>False) (G:=fun q=>w.heap.size<=q) (fun _ h=>h.elim) (fun _ h _=>h) (fun q hq=>by have:=HP.o.size;omega) rfl _ _ 83 _ 8 rfl Tryz.underlying83 x1n rfl (by decide) (by decide) rfl (by simp[Act.eval]) (by have:=HSL.o;omega) ?_;intro v1 w1 ho1 hu1;have HO1:=mK ho1;have HU1:=mK (HP.o.trans hu1 (fun q hq h=>by have:=Rp.x03 HO.o q h;omega));have HU0:=mK hu1;clear ho1 hu1;apply As.o)
      refine⟨?_⟩
      have r0:=(HU0.o.cell hbb HNB.o).trans q0
      have hbb1:=Nat.lt_of_lt_of_le hbb HU0.o.size
      clear q0 q1
      go_wp2
      go_roundg g1
      case measure=>omega
      case rel=>exact⟨k+1,1,by have:=HK.o;omega,by first | rfl | go_num,by go_num,⟨_,HO1.o,by have:=HSL.o;first | omega | (rw[List.length_append,List.length_singleton];omega),by omega,by omega,HE.o,HU1.o⟩⟩
     ·have e0:(d == 0)=false:=by simp[hd]
      rw[wd_open h1 hd] at heq
      have HE:=mK heq
      clear heq h2 hd h1
      go_wp2
      go_roundg g1
      case measure=>omega
      case rel=>exact⟨k+1,d+1,by have:=HK.o;omega,by first | rfl | go_num,by go_num,⟨_,HO.o,by have:=HSL.o;first | omega | (rw[List.length_append,List.length_singleton];omega),by omega,by omega,HE.o,HP.o⟩⟩
    ·have e1:(x.k == 1)=false:=by simp[h1]
     by_cases hd:d=0
     ·subst hd
      rw[wd_else0 h1 h2] at heq
      have HE:=mK heq
      clear heq h2 h1
      go_wp2_with (at_builtin;refine Rp.x0o intRS HO.o x.t [.int .i64 x.t] rfl (Fp:=fun _=>False) (G:=fun q=>w.heap.size<=q) (fun _ h=>h.elim) (fun _ h _=>h) (fun q hq=>by have:=HP.o.size;omega) rfl _ _ 83 _ 8 rfl Tryz.underlying83 x1n rfl (by decide) (by decide) rfl (by simp[Act.eval]) (by have:=HSL.o;omega) ?_;intro v1 w1 ho1 hu1;have HO1:=mK ho1;have HU1:=mK (HP.o.trans hu1 (fun q hq h=>by have:=Rp.x03 HO.o q h;omega));have HU0:=mK hu1;clear ho1 hu1;apply As.o)
      refine⟨?_⟩
      have r0:=(HU0.o.cell hbb HNB.o).trans q0
      have hbb1:=Nat.lt_of_lt_of_le hbb HU0.o.size
      clear q0 q1
      go_wp2
      go_roundg g1
      case measure=>omega
      case rel=>exact⟨k+1,0,by have:=HK.o;omega,by first | rfl | go_num,by go_num,⟨_,HO1.o,by have:=HSL.o;first | omega | (rw[List.length_append,List.length_singleton];omega),by omega,by omega,HE.o,HU1.o⟩⟩
     ·have e0:(d == 0)=false:=by simp[hd]
      rw[wd_else h1 h2 hd] at heq
      have HE:=mK heq
      clear heq h2 hd h1
      go_wp2
      go_roundg g1
      case measure=>omega
      case rel=>exact⟨k+1,d,by have:=HK.o;omega,by first | rfl | go_num,by go_num,⟨_,HO.o,by have:=HSL.o;first | omega | (rw[List.length_append,List.length_singleton];omega),by omega,by omega,HE.o,HP.o⟩⟩
  ·obtain rfl:k=b:=by omega
   obtain⟨s,hown,hsl,hd1,hd2,heq,hp⟩:=HC.o
   rw[List.drop_eq_nil_of_le (by rw[List.length_take];omega),List.foldl_nil] at heq
   have HE:=mK (show s=wordL l i k by unfold wordL;rw[<- heq])
   have HO:=mK hown
   have HP:=mK hp
   have HSL:=mK hsl
   have hkb:decide ((k:Int) < (k:Int))=false:=decide_eq_false (by omega)
   clear hown hp heq HC hsl hd1 hd2
   go_wp2
   go_ret
   exact⟨_,rfl,by rw[<- HE.o];exact HO.o,by rw[<- HE.o];exact HSL.o,HP.o⟩
theorem two_up6 {V:World} {X Y:Obj} (h:Pure ((w.alloc X).alloc Y) V):V.heap[w.heap.size]?=some X/\V.heap[w.heap.size+1]?=some Y/\Pure w V:=by
 have hz:(w.alloc X).heap.size=w.heap.size+1:=by simp
 refine⟨?_,?_,(aU.alloc _).tt h⟩
 ·refine(h.block _ (by simp;omega) (fun h=>h)).trans ((Below.heap_alloc _ _ _ (by rw[hz];omega)).trans (heap_alloc_new w X))
 ·have:=heap_alloc_new (w.alloc X) Y
  rw[hz] at this
  exact(h.block _ (by simp) (fun h=>h)).trans this
theorem one_up6 {V:World} {X:Obj} (h:Pure (w.alloc X) V):V.heap[w.heap.size]?=some X/\Pure w V:=
 ⟨(h.block _ (by simp) (fun h=>h)).trans (heap_alloc_new w X),aU.tt h⟩
theorem x5g {k:Nat} {x0 x1 x2 x3:Value} {t:TypeId} (h:w.heap[k]?=some (.cells #[x0,x1,x2,x3] t (0,0))):w.cell? ⟨k,0,none⟩=some x0/\w.cell? ⟨k,1,none⟩=some x1/\w.cell? ⟨k,2,none⟩=some x2/\w.cell? ⟨k,3,none⟩=some x3/\k < w.heap.size:=by
 refine⟨?_,?_,?_,?_,(lB h)⟩
 all_goals (unfold World.cell?;simp only[h];rfl)
theorem cells7_6 {k:Nat} {x0 x1 x2 x3 x4 x5 x6:Value} {t:TypeId} (h:w.heap[k]?=some (.cells #[x0,x1,x2,x3,x4,x5,x6] t (0,0))) :
 (w.cell? ⟨k,0,none⟩=some x0/\w.cell? ⟨k,1,none⟩=some x1/\w.cell? ⟨k,2,none⟩=some x2/\w.cell? ⟨k,3,none⟩=some x3/\w.cell? ⟨k,4,none⟩=some x4/\w.cell? ⟨k,5,none⟩=some x5/\w.cell? ⟨k,6,none⟩=some x6) /\
 (w.frozen? ⟨k,0,none⟩=false/\w.frozen? ⟨k,1,none⟩=false/\w.frozen? ⟨k,2,none⟩=false/\w.frozen? ⟨k,3,none⟩=false/\w.frozen? ⟨k,4,none⟩=false/\w.frozen? ⟨k,5,none⟩=false/\w.frozen? ⟨k,6,none⟩=false)/\k < w.heap.size:=by
 refine⟨⟨?_,?_,?_,?_,?_,?_,?_⟩,⟨?_,?_,?_,?_,?_,?_,?_⟩,(lB h)⟩
 all_goals first | (unfold World.cell?;simp only[h];rfl) | simp[World.frozen?,h]
theorem set7_upd6 (w:World) (rb:Nat) (y0 y1 y2 y3 y4 y5 y6:Value):Upd (fun k=>k=rb) w (((((((w.setCell ⟨rb,0,none⟩ y0).setCell ⟨rb,1,none⟩ y1).setCell ⟨rb,2,none⟩ y2).setCell ⟨rb,3,none⟩ y3).setCell ⟨rb,4,none⟩ y4).setCell ⟨rb,5,none⟩ y5).setCell ⟨rb,6,none⟩ y6):=
 (Upd.refl (fun k=>k=rb) w)|>.setCell (p:=⟨rb,0,none⟩) (fun _=>rfl) _ |>.setCell (p:=⟨rb,1,none⟩) (fun _=>rfl) _ |>.setCell (p:=⟨rb,2,none⟩) (fun _=>rfl) _ |>.setCell (p:=⟨rb,3,none⟩) (fun _=>rfl) _ |>.setCell (p:=⟨rb,4,none⟩) (fun _=>rfl) _ |>.setCell (p:=⟨rb,5,none⟩) (fun _=>rfl) _ |>.setCell (p:=⟨rb,6,none⟩) (fun _=>rfl) _ 
theorem token6_rune_b {s:Spec} {x:Tok} (h:x.k=0):x4i s x=((bits .and .i64 x.m s.marks == x.m) && ((x.n != 10) || s.lines)):=by
 unfold x4i
 rw[if_pos h]
 rw[Bool.eq_iff_iff]
 simp
theorem token6_else_b {s:Spec} {x:Tok} (h:x.k ≠ 0):x4i s x=((x17 x02 x.t).isSome && (decide (((x17 x02 x.t).getD zeroSpec).least<=x.n) && (decide (x.n<=((x17 x02 x.t).getD zeroSpec).most) && (((x17 x02 x.t).getD zeroSpec).leaf == (x.k == 3))))):=by
 unfold x4i
 rw[if_neg h]
 cases x17 x02 x.t with
 | none=>rfl
 | some s=>
   simp only[Option.isSome_some,Option.getD_some,Bool.true_and,Bool.and_assoc]
   rfl
theorem token6_rune_out {l:List Tok} (hr:tokR.row w F A l) {i:Nat} {x:Tok} (hx:l[i]?=some x) (h0:x.k=0) {n:Int} (hn:n < 0):Calls Tryz.prog 131 #[.pointer (some ⟨cb,0,none⟩),.slice A l.length c,.int .i64 i,.int .i64 n] w fun r w'=>r=.returned (.bool (x4i zeroSpec x))/\Pure w w':=by
 rw[token6_rune_b h0]
 obtain⟨bt,ot,rfl,_,hbt,q0,q1,q2,q3⟩:=x0j hr hx
 have hil:(i:Int) < (l.length:Int):=by have:=(List.getElem?_eq_some_iff.1 hx).1;omega
 have t1:decide (n >= 0)=false:=decide_eq_false (by omega)
 have t2:decide (0<=n)=false:=decide_eq_false (by omega)
 have e0:(x.k == 0)=true:=by simp[h0]
 clear hr hx hn h0
 cases b1:(bits .and .i64 x.m 0 == x.m) <;> cases b2:(x.n != 10)
 all_goals
  go_enter Tryz.func131,Tryz.ntmps131
  go_wp2
  go_ret
  exact⟨by simp,aU.alloc _⟩
theorem token6_rune_in {l:List Tok} (h:H6 w cb) (hr:tokR.row w F A l) {i j:Nat} {x y:Tok} (hx:l[i]?=some x) (h0:x.k=0) (hy:l[j]?=some y):Calls Tryz.prog 131 #[.pointer (some ⟨cb,0,none⟩),.slice A l.length c,.int .i64 i,.int .i64 j] w fun r w'=>r=.returned (.bool (x4i ((x17 x02 y.t).getD zeroSpec) x))/\Pure w w':=by
 rw[token6_rune_b h0]
 have HSP:=mK (fun (W:World) (hu:Pure w W)=>Spec6_calls (h.pure hu) y.t)
 generalize (x17 x02 y.t).getD zeroSpec=s at *
 generalize (x17 x02 y.t).isSome=sb at *
 obtain⟨bt,ot,rfl,_,hbt,q0,q1,q2,q3⟩:=x0j hr hx
 obtain⟨bt2,ot2,hA2,_,hbt2,p0,p1,p2,p3⟩:=x0j hr hy
 obtain⟨rfl,rfl⟩:bt=bt2/\ot=ot2:=by simpa using hA2
 have hil:(i:Int) < (l.length:Int):=by have:=(List.getElem?_eq_some_iff.1 hx).1;omega
 have hjl:(j:Int) < (l.length:Int):=by have:=(List.getElem?_eq_some_iff.1 hy).1;omega
 have t1:decide ((j:Int) >= 0)=true:=decide_eq_true (by omega)
 have t2:decide (0<=(j:Int))=true:=decide_eq_true (by omega)
 have e0:(x.k == 0)=true:=by simp[h0]
 clear hr hx hy h0 h hA2 p0 p2 p3
 cases b1:(bits .and .i64 x.m s.marks == x.m) <;> cases b2:(x.n != 10)
 all_goals
  go_enter Tryz.func131,Tryz.ntmps131
  go_wp2_with (go_at_call 75;refine(HSP.o _ (aU.alloc _)).mono ?_;rintro r w1 ⟨rfl,hu⟩;have HU1:=mK hu;clear hu;apply As.o)
  refine⟨?_⟩
  obtain⟨hb1,hb2,hu1⟩:=two_up6 HU1.o
  obtain⟨u0,u1,u2,u3,ul⟩:=x5g hb1
  obtain⟨⟨v0,v1,v2,v3,v4,v5,v6⟩,⟨f0,f1,f2,f3,f4,f5,f6⟩,vl⟩:=cells7_6 hb2
  have HP1:=mK hu1
  clear hb1 hb2 hu1 q0 q1 q2 q3 p1
  go_wp2
  go_ret
  exact⟨by simp,HP1.o.trans (set7_upd6 _ _ _ _ _ _ _ _ _) (fun q hq h=>by omega)⟩
theorem token6_else {l:List Tok} (h:H6 w cb) (hr:tokR.row w F A l) {i:Nat} {x:Tok} (hx:l[i]?=some x) (h0:x.k ≠ 0) {n:Int} {s0:Spec}:Calls Tryz.prog 131 #[.pointer (some ⟨cb,0,none⟩),.slice A l.length c,.int .i64 i,.int .i64 n] w fun r w'=>r=.returned (.bool (x4i s0 x))/\Pure w w':=by
 rw[token6_else_b h0]
 have HSP:=mK (fun (W:World) (hu:Pure w W)=>Spec6_calls (h.pure hu) x.t)
 generalize (x17 x02 x.t).getD zeroSpec=s at *
 generalize (x17 x02 x.t).isSome=sb at *
 obtain⟨bt,ot,rfl,_,hbt,q0,q1,q2,q3⟩:=x0j hr hx
 have hil:(i:Int) < (l.length:Int):=by have:=(List.getElem?_eq_some_iff.1 hx).1;omega
 have e0:(x.k == 0)=false:=by simp[h0]
 clear hr hx h0 h
 cases sb <;> cases b1:decide (s.least<=x.n) <;> cases b2:decide (x.n<=s.most)
 all_goals
  have b3:decide (x.n >= s.least)=decide (s.least<=x.n):=rfl
  rw[b1] at b3
  go_enter Tryz.func131,Tryz.ntmps131
  go_wp2_with (go_at_call 75;refine(HSP.o _ aU).mono ?_;rintro r w1 ⟨rfl,hu⟩;have HU1:=mK hu;clear hu;apply As.o)
  refine⟨?_⟩
  obtain⟨hb1,hu1⟩:=one_up6 HU1.o
  obtain⟨u0,u1,u2,u3,ul⟩:=x5g hb1
  have HP1:=mK hu1
  clear hb1 hu1 q0 q1 q2 q3
  go_wp2
  go_ret
  exact⟨by simp,HP1.o.alloc _⟩
/-- What a place around may be. -/
def InP (l:List Tok) (n:Int):Prop:=n < 0\/∃ (j k:Nat) (y:Tok),n=(j:Int)/\l[j]?=some y/\k < 7/\y.t=((k+1:Nat):Int)
theorem rule6_calls {l:List Tok} (h:H6 w cb) (hr:tokR.row w F A l) {n:Int} (hn:InP l n):Calls Tryz.prog 78 #[.pointer (some ⟨cb,0,none⟩),.slice A l.length c,.int .i64 n] w fun r w'=>(∃ A1 c1,r=.returned ((rule6 l n).2.val A1 c1)/\exR.row w' AnyB A1 (rule6 l n).2.l)/\Pure w w':=by
 unfold rule6
 by_cases h0:n < 0
 ·rw[if_pos h0,show (x0r x02 0).2=x43 from rfl]
  exact rule6_whole h h0
 ·rw[if_neg h0]
  rcases hn with h1 | ⟨j,k,y,rfl,hy,hk,hyt⟩
  ·exact absurd h1 h0
  ·obtain⟨x,e,_,he,hR⟩:=h6_at k hk
   have:(x0r x02 (tyAt l (j:Int))).2=e:=by
    unfold tyAt
    rw[Int.toNat_natCast,hy]
    show (x0r x02 y.t).2=e
    rw[hyt,rule_get hR]
   rw[this]
   exact rule6_in h hr hy hk hyt he
theorem token6_calls {l:List Tok} (h:H6 w cb) (hr:tokR.row w F A l) {i:Nat} {x:Tok} (hx:l[i]?=some x) {n:Int} (hn:InP l n):Calls Tryz.prog 131 #[.pointer (some ⟨cb,0,none⟩),.slice A l.length c,.int .i64 i,.int .i64 n] w fun r w'=>r=.returned (.bool (x4i (specAt l n) x))/\Pure w w':=by
 by_cases hk:x.k=0
 ·unfold specAt
  by_cases h0:n < 0
  ·rw[if_pos h0]
   exact token6_rune_out hr hx hk h0
  ·rw[if_neg h0]
   rcases hn with h1 | ⟨j,k,y,rfl,hy,_,_⟩
   ·exact absurd h1 h0
   ·have:tyAt l (j:Int)=y.t:=by unfold tyAt;rw[Int.toNat_natCast,hy];rfl
    rw[this]
    exact token6_rune_in h hr hx hk hy
 ·exact token6_else h hr hx hk
theorem rule_wt (t:Int):(x0r x02 t).2.wt<=1048576 * 4:=by
 obtain⟨i,hi,h⟩:=x56 t
 rw[h]
 have h:((List.range 9).all fun i=>decide ((x0r x02 (i:Int)).2.wt<=1048576 * 4))=true:=by kernel_rfl
 simpa using List.all_eq_true.1 h i (List.mem_range.2 hi)
theorem rule6_wt (l:List Tok) (n:Int):(rule6 l n).2.wt<=1048576 * 4:=by
 unfold rule6
 split <;> exact rule_wt _
theorem at_in6 {l:List Tok} {k:Nat} (hk:k<=l.length) {top:Lev} {below:List Lev} (h:hRun hTop [] (l.take k)=some (top,below)):InP l (x04 l k)/\∃ a:Nat,x04 l k=(a:Int) - 1/\a<=k:=by
 have HL:=run_lv hk h
 unfold x04
 rcases HL.inv with ⟨h1,_,_⟩ | ⟨j,yt,y,h1,hy,hy1,hyt,hyt1,hR,hj,h3⟩
 ·rw[h1]
  exact⟨.inl (by omega),0,by omega,by omega⟩
 ·rw[h1]
  have h8:yt < 8:=by have:=(List.getElem?_eq_some_iff.1 hR).1;rw[x2w] at this;exact this
  exact⟨.inr ⟨j,yt - 1,y,rfl,hy,by omega,by rw[hyt];congr 1;omega⟩,j+1,by omega,by omega⟩
theorem one6_shut {l:List Tok} (h:H6 w cb) (hr:tokR.row w F A l) (hb:l.length<=2048) (hlc:l.length<=c) {k:Nat} {x:Tok} (hx:l[k]?=some x) (h2:x.k=2) {top:Lev} {below:List Lev} (hrun:hRun hTop [] (l.take k)=some (top,below)) :
 Calls Tryz.prog 69 #[.pointer (some ⟨cb,0,none⟩),.slice A l.length c,.int .i64 k] w fun r w'=>r=.returned (.bool (one6 l k x))/\Pure w w':=by
 have hk:=(List.getElem?_eq_some_iff.1 hx).1
 obtain⟨hin,a,ha,hak⟩:=at_in6 (by omega) hrun
 unfold one6
 rw[if_pos h2]
 have HAR:=mK (x25 (c:=c) (at':=(k:Int)) hr (by omega) hlc)
 have HWD:=mK (fun W (hu:Pure w W)=>word6_calls (c:=c) (a:=a) (b:=k) (i:=x04 l k) (Rp.x01 hr hu) (by omega) (by omega) hak ha)
 have HRU:=mK (fun W (hu:Pure w W)=>rule6_calls (c:=c) (h.pure hu) (Rp.x01 hr hu) hin)
 obtain⟨bt,ot,rfl,_,hbt,q0,q1,q2,q3⟩:=x0j hr hx
 obtain⟨AW,cW,AL,cL,AE,cE,AG,cG,hcb,c0,c1,c2,c3,c4,c5,_,_,_,hg⟩:=h.cells
 have HG:=mK hg
 have HOK:=mK (And.intro x3y.gl x3y.gt)
 have HEW:=mK (rule6_wt l (x04 l k))
 generalize x07=gs at *
 generalize (rule6 l (x04 l k)).2=e at *
 generalize wordL l (x04 l k) k=wd at *
 generalize x04 l k=n at *
 rw[h2] at q0
 have hil:(k:Int) < (l.length:Int):=by omega
 clear hr hx h2 hrun h hg ha hin c0 c1 c2 c3 c4 q1 q2 q3
 go_enter Tryz.func69,Tryz.ntmps69
 go_wp2_with (first | (go_at_call 71;refine(HWD.o _ HU1.o).mono ?_;rintro r w2 ⟨v,rfl,ho,hwl,hu⟩;have HO:=mK ho;have HWL:=mK hwl;have HU2:=mK (HU1.o.tt hu);clear ho hu hwl;apply As.o) | (go_at_call 74;refine HAR.o.mono ?_;rintro r w1 ⟨rfl,hu⟩;have HU1:=mK hu;clear hu))
 refine⟨?_⟩
 obtain⟨Av,cv,rfl,_,hrow⟩:=Rp.x0c HO.o
 have HW:=mK (Rp.row_here hrow)
 clear hrow
 have q0':=(HU2.o.cell hbt (fun h=>h)).trans q0
 have hbt':=Nat.lt_of_lt_of_le hbt HU2.o.size
 have HS:As (∀ v,Pure w v->v.cell? ⟨cb,5,none⟩=some (.slice AG gs.length cG)):=⟨fun v hu=>(hu.cell hcb (fun h=>h)).trans c5⟩
 have HUD:=mK HU2.o.drew
 have HWD2:=mK (Rp.x01 HW.o (Upd.refl (fun _=>False) _).drew)
 clear c5 q0
 go_wp2
 refine x0m (P:=Tryz.prog) (fun v=>v.cell? ⟨cb,5,none⟩=some (.slice AG gs.length cG)) 10 (by kernel_rfl) ?_ (fun hHeld=>?_)
 ·first | exact HS.o _ HU4.o | exact HS.o _ HU3.o | exact HS.o _ HUD.o
 refine zT 0 ?_
 refine zT 1 ?_
 refine zT 2 ?_
 refine zT 4 ?_
 (try simp only[Act.put,sA,sB,sC])
 refine zT 5 ?_
 refine zT 6 ?_
 refine zT 7 ?_
 refine zT 8 ?_
 (try simp only[Act.put,sA,sB,sC])
 refine oT 3 (fun K hK=>?_)
 go_simp
 (go_at_call 78;refine(HRU.o _ HUD.o).mono ?_;rintro r w3 ⟨⟨A1,c1,rfl,hrw⟩,hu⟩;have HX:=mK hrw;have HP3:=mK hu;have HU3:=mK (HUD.o.tt hu);clear hrw hu)
 refine hK.out _ _ (fun _=>by first | exact HS.o _ HU4.o | exact HS.o _ HU3.o | exact HS.o _ HUD.o) (fun hHeld=>?_)
 replace hHeld:=hHeld (by decide)
 clear hK K
 (try simp only[Act.put,sA,sB,sC])
 refine oT 9 (fun K hK=>?_)
 go_simp
 (go_at_call 70;refine(accepts6_calls HX.o (Rp.x01 HG.o HU3.o) (Rp.x01 HWD2.o HP3.o) HEW.o HOK.o.1 HOK.o.2 (by have:=HWL.o;omega)).mono ?_;rintro r w4 ⟨rfl,hu⟩;have HU4:=mK (HU3.o.tt hu);clear hu)
 refine hK.out _ _ (fun _=>by first | exact HS.o _ HU4.o | exact HS.o _ HU3.o | exact HS.o _ HUD.o) (fun hHeld=>?_)
 replace hHeld:=hHeld (by decide)
 clear hK K
 (try simp only[Act.put,sA,sB,sC])
 refine oT 10 (fun K hK=>?_)
 go_simp
 refine hK.out _ _ (fun h=>absurd rfl h) (fun hHeld=>?_)
 clear hK K
 (try simp only[Act.put,sA,sB,sC])
 refine x0l (by kernel_rfl) ?_ _
 go_wp2
 go_ret
 exact⟨rfl,HU4.o⟩
theorem one6_more {l:List Tok} (h:H6 w cb) (hr:tokR.row w F A l) (hb:l.length<=2048) (hlc:l.length<=c) {k:Nat} {x:Tok} (hx:l[k]?=some x) (h2:x.k ≠ 2) {top:Lev} {below:List Lev} (hrun:hRun hTop [] (l.take k)=some (top,below)) :
 Calls Tryz.prog 69 #[.pointer (some ⟨cb,0,none⟩),.slice A l.length c,.int .i64 k] w fun r w'=>r=.returned (.bool (one6 l k x))/\Pure w w':=by
 have hk:=(List.getElem?_eq_some_iff.1 hx).1
 obtain⟨hin,a,ha,hak⟩:=at_in6 (by omega) hrun
 unfold one6
 rw[if_neg h2]
 have HAR:=mK (x25 (c:=c) (at':=(k:Int)) hr (by omega) hlc)
 have HWD:=mK (fun W (hu:Pure w W)=>word6_calls (c:=c) (a:=a) (b:=k) (i:=x04 l k) (Rp.x01 hr hu) (by omega) (by omega) hak ha)
 have HRU:=mK (fun W (hu:Pure w W)=>rule6_calls (c:=c) (h.pure hu) (Rp.x01 hr hu) hin)
 have HTK:=mK (fun W (hu:Pure w W)=>token6_calls (c:=c) (h.pure hu) (Rp.x01 hr hu) hx hin)
 obtain⟨bt,ot,rfl,_,hbt,q0,q1,q2,q3⟩:=x0j hr hx
 obtain⟨AW,cW,AL,cL,AE,cE,AG,cG,hcb,c0,c1,c2,c3,c4,c5,_,_,_,hg⟩:=h.cells
 have HG:=mK hg
 have HOK:=mK (And.intro x3y.gl x3y.gt)
 have HEW:=mK (rule6_wt l (x04 l k))
 generalize x4i (specAt l (x04 l k)) x=tv at *
 generalize x07=gs at *
 generalize (rule6 l (x04 l k)).2=e at *
 generalize wordL l (x04 l k) k=wd at *
 generalize x04 l k=n at *
 have hil:(k:Int) < (l.length:Int):=by omega
 have e2:(x.k == 2)=false:=by simp[h2]
 clear hr hx h2 hrun h hg ha hin c0 c1 c2 c3 c4 q2 q3
 go_enter Tryz.func69,Tryz.ntmps69
 go_wp2_with (first | (go_at_call 71;refine(HWD.o _ HU1.o).mono ?_;rintro r w2 ⟨v,rfl,ho,hwl,hu⟩;have HO:=mK ho;have HWL:=mK hwl;have HU2:=mK (HU1.o.tt hu);clear ho hu hwl;apply As.o) | (go_at_call 74;refine HAR.o.mono ?_;rintro r w1 ⟨rfl,hu⟩;have HU1:=mK hu;clear hu))
 refine⟨?_⟩
 have q0':=(HU2.o.cell hbt (fun h=>h)).trans q0
 have hbt':=Nat.lt_of_lt_of_le hbt HU2.o.size
 have HQ1:=mK q1
 have HC5:=mK c5
 clear q0 q1 c5
 cases tv with
 | false=>
   go_wp2_with (go_at_call 131;refine(HTK.o _ HU2.o).mono ?_;rintro r w3 ⟨rfl,hu⟩;have HU3:=mK (HU2.o.tt hu);clear hu)
   go_ret
   exact⟨rfl,HU3.o⟩
 | true=>
   go_wp2_with (go_at_call 131;refine(HTK.o _ HU2.o).mono ?_;rintro r w3 ⟨rfl,hu⟩;have HU3:=mK (HU2.o.tt hu);have HO3:=mK (Rp.x0w HO.o hu (fun _ _ _ h=>h));clear hu;apply As.o)
   refine⟨?_⟩
   have r1:=(HU3.o.cell hbt (fun h=>h)).trans HQ1.o
   have hbt3:=Nat.lt_of_lt_of_le hbt HU3.o.size
   clear q0'
   go_wp2_with (at_builtin;refine Rp.x0o intRS HO3.o x.t [.int .i64 x.t] rfl (Fp:=fun _=>False) (G:=fun q=>w.heap.size<=q) (fun _ h=>h.elim) (fun _ h _=>by have:=HU1.o.size;omega) (fun q hq=>by have:=HU3.o.size;omega) rfl _ _ 83 _ 8 rfl Tryz.underlying83 x1n rfl (by decide) (by decide) rfl (by simp[Act.eval]) (by have:=HWL.o;omega) ?_;intro v1 w4 ho1 hu1;have HO4:=mK ho1;have HU4:=mK (HU3.o.trans hu1 (fun q hq h=>by have:=(Rp.x03 HO3.o q h).1;have:=HU1.o.size;omega));clear ho1 hu1;apply As.o)
   refine⟨?_⟩
   obtain⟨Av,cv,rfl,_,hrow⟩:=Rp.x0c HO4.o
   have HW:=mK (Rp.x01 (Rp.row_here hrow) (Upd.refl (fun _=>False) _).drew)
   clear hrow
   have HS:As (∀ v,Pure w v->v.cell? ⟨cb,5,none⟩=some (.slice AG gs.length cG)):=⟨fun v hu=>(hu.cell hcb (fun h=>h)).trans HC5.o⟩
   have HUD:=mK HU4.o.drew
   have HLN:As ((wd ++ [x.t]).length<=1048576 * 4):=⟨by have:=HWL.o;rw[List.length_append,List.length_singleton];omega⟩
   have HLE:As ((wd ++ [x.t]).length=wd.length+1):=⟨by simp⟩
   generalize hwe:wd ++ [x.t]=wd2 at *
   have HWE:=mK hwe
   clear hwe
   clear HC5 r1
   go_wp2
   refine x0m (P:=Tryz.prog) (fun v=>v.cell? ⟨cb,5,none⟩=some (.slice AG gs.length cG)) 13 (by kernel_rfl) ?_ (fun hHeld=>?_)
   ·first | exact HS.o _ HU6.o | exact HS.o _ HU5.o | exact HS.o _ HUD.o
   refine zT 0 ?_
   refine zT 1 ?_
   refine zT 2 ?_
   refine zT 4 ?_
   (try simp only[Act.put,sA,sB,sC])
   refine zT 5 ?_
   refine zT 6 ?_
   refine zT 7 ?_
   refine zT 8 ?_
   (try simp only[Act.put,sA,sB,sC])
   refine zT 10 ?_
   refine zT 11 ?_
   refine oT 3 (fun K hK=>?_)
   go_simp
   (go_at_call 78;refine(HRU.o _ HUD.o).mono ?_;rintro r w5 ⟨⟨A1,c1,rfl,hrw⟩,hu⟩;have HX:=mK hrw;have HP5:=mK hu;have HU5:=mK (HUD.o.tt hu);clear hrw hu)
   refine hK.out _ _ (fun _=>by first | exact HS.o _ HU6.o | exact HS.o _ HU5.o | exact HS.o _ HUD.o) (fun hHeld=>?_)
   replace hHeld:=hHeld (by decide)
   clear hK K
   (try simp only[Act.put,sA,sB,sC])
   refine oT 9 (fun K hK=>?_)
   go_simp
   (go_at_call 132;refine(begins6_calls HX.o (Rp.x01 HG.o HU5.o) (Rp.x01 HW.o HP5.o) HEW.o HOK.o.1 HOK.o.2 HLN.o).mono ?_;rintro r w6 ⟨rfl,hu⟩;have HU6:=mK (HU5.o.tt hu);clear hu)
   refine hK.out _ _ (fun _=>by first | exact HS.o _ HU6.o | exact HS.o _ HU5.o | exact HS.o _ HUD.o) (fun hHeld=>?_)
   replace hHeld:=hHeld (by decide)
   clear hK K
   (try simp only[Act.put,sA,sB,sC])
   refine zT 12 ?_
   refine oT 13 (fun K hK=>?_)
   go_simp
   refine hK.out _ _ (fun h=>absurd rfl h) (fun hHeld=>?_)
   clear hK K
   (try simp only[Act.put,sA,sB,sC])
   refine x0l (by kernel_rfl) ?_ _
   go_wp2
   go_ret
   refine⟨?_,HU6.o⟩
   rw[<- HLE.o]
   have hd:((x18 e gs wd2:Int) == (wd2.length:Int))=decide (x18 e gs wd2=wd2.length):=by rw[Bool.eq_iff_iff];simp;omega
   rw[HWE.o,Bool.true_and,<- hd]
   rfl
theorem one6_calls {l:List Tok} (h:H6 w cb) (hr:tokR.row w F A l) (hb:l.length<=2048) (hlc:l.length<=c) {k:Nat} {x:Tok} (hx:l[k]?=some x) {top:Lev} {below:List Lev} (hrun:hRun hTop [] (l.take k)=some (top,below)) :
 Calls Tryz.prog 69 #[.pointer (some ⟨cb,0,none⟩),.slice A l.length c,.int .i64 k] w fun r w'=>r=.returned (.bool (one6 l k x))/\Pure w w':=by
 by_cases h2:x.k=2
 ·exact one6_shut h hr hb hlc hx h2 hrun
 ·exact one6_more h hr hb hlc hx h2 hrun
theorem run_next {l:List Tok} {k:Nat} {x:Tok} {top:Lev} {below:List Lev} (hx:l[k]?=some x) (hrun:hRun hTop [] (l.take k)=some (top,below)) (hf:(fcGo k below.length (l.drop k)).2=0) (hone:one6 l k x=true) :
 ∃ t z,hRun hTop [] (l.take (k+1))=some (t,z)/\(fcGo (k+1) z.length (l.drop (k+1))).2=0:=by
 rw[drop_cons hx] at hf
 generalize l.drop (k+1)=r at *
 have hf':fcGo k below.length (x :: r)=((fcGo k below.length (x :: r)).1,0):=by rw[<- hf]
 rw[one_step hx (fc_right hf') hrun] at hone
 have hrn:∀ (t:Lev) (z:List Lev),hRun top below [x]=some (t,z)->hRun hTop [] (l.take (k+1))=some (t,z):=by
  intro t z e
  rw[List.take_add_one,hx]
  unfold hRun at hrun e ⊢
  rw[x5l,hrun]
  exact e
 by_cases h2:x.k=2
 ·rw[if_pos h2] at hone
  obtain⟨hn,hf2⟩:=fc_close hf' h2
  cases below with
  | nil=>simp at hn
  | cons p q=>
    refine⟨p,q,hrn p q ?_,?_⟩
    ·unfold hRun
     rw[x1f,if_pos h2]
     simp only
     rw[if_pos hone]
     rfl
    ·have:(p :: q).length - 1=q.length:=by simp
     rw[this] at hf2
     rw[hf2]
 ·rw[if_neg h2] at hone
  by_cases h1:x.k=1
  ·obtain⟨_,hf2⟩:=fc_open hf' h1
   refine⟨(x0r x02 x.t,[]),(top.1,top.2 ++ [x.t]) :: below,hrn _ _ ?_,by rw[List.length_cons,hf2]⟩
   unfold hRun
   rw[x1f,if_neg h2,if_pos hone,if_pos h1]
   rfl
  ·have hf2:=fc_else hf' h1 h2
   refine⟨(top.1,top.2 ++ [x.t]),below,hrn _ _ ?_,by rw[hf2]⟩
   unfold hRun
   rw[x1f,if_neg h2,if_pos hone,if_neg h1]
   rfl
/-- What the loop keeps: the run so far. -/
def RunTo (l:List Tok) (k:Nat):Prop:=∃ top below,hRun hTop [] (l.take k)=some (top,below)/\(fcGo k below.length (l.drop k)).2=0
theorem flat_le {l:List Tok} (hf:(x0a l).2=0):l.length<=2048:=by
 apply Nat.le_of_not_lt
 intro h
 unfold x0a at hf
 rw[if_pos (by omega)] at hf
 cases hf
theorem flat_go {l:List Tok} (hf:(x0a l).2=0):(fcGo 0 0 l).2=0:=by
 have:=flat_le hf
 unfold x0a at hf
 rw[if_neg (by omega)] at hf
 exact hf
theorem Check6_flat {l:List Tok} (hr:tokR.row w F A l) (hb:l.length<=1048576 * 4) (hf:(x0a l).2 ≠ 0) :
 Calls Tryz.prog 16 #[.pointer (some ⟨cb,0,none⟩),.slice A l.length c] w fun e w'=>e=.returned (.tuple #[.int .i64 (x0a l).1,.int .i64 (x0a l).2])/\Pure w w':=by
 have HCK:=mK (x4u (c:=c) hr hb)
 have f1:((x0a l).2 != 0)=true:=by simpa using hf
 generalize x0a l=fc at *
 obtain⟨p,q⟩:=fc
 clear hr hf
 go_enter Tryz.func16,Tryz.ntmps16
 go_wp2_with (go_at_call 68;refine HCK.o.mono ?_;rintro r w1 ⟨rfl,hu⟩;have HU1:=mK hu;clear hu)
 exact bodyPost_ret (results_tmp2 rfl _ _ _) rfl ⟨rfl,HU1.o⟩
theorem Check6_main {l:List Tok} (h:H6 w cb) (hr:tokR.row w F A l) (hlc:l.length<=c) (hf:(x0a l).2=0) :
 Calls Tryz.prog 16 #[.pointer (some ⟨cb,0,none⟩),.slice A l.length c] w fun e w'=>e=.returned (.tuple #[.int .i64 (ck6 l 0 l).1,.int .i64 (ck6 l 0 l).2])/\Pure w w':=by
 have hb:=flat_le hf
 have HCK:=mK (x4u (c:=c) hr (by omega))
 have HRT:=mK (show RunTo l 0 from⟨hTop,[],rfl,flat_go hf⟩)
 rw[hf] at HCK
 generalize (x0a l).1=p at *
 have HONE:=mK (fun W (hu:Pure w W) (k:Nat) (x:Tok) (hx:l[k]?=some x) (hrt:RunTo l k)=>show Calls Tryz.prog 69 #[.pointer (some ⟨cb,0,none⟩),.slice A l.length c,.int .i64 k] W _ from by
  obtain⟨top,below,hrun,_⟩:=hrt
  exact one6_calls (c:=c) (h.pure hu) (Rp.x01 hr hu) hb hlc hx hrun)
 have HNX:=mK (fun (k:Nat) (x:Tok) (hx:l[k]?=some x) (hrt:RunTo l k) (ho:one6 l k x=true)=>show RunTo l (k+1) from by
  obtain⟨top,below,hrun,hf⟩:=hrt
  exact run_next hx hrun hf ho)
 have HWD:=mK (fun W (hu:Pure w W)=>word6_calls (c:=c) (a:=0) (b:=l.length) (i:=-1) (Rp.x01 hr hu) (by omega) (Nat.le_refl _) (Nat.zero_le _) (by omega))
 obtain⟨AW,cW,AL,cL,AE,cE,AG,cG,hcb,c0,c1,c2,c3,c4,c5,hw0,_,_,hg⟩:=h.cells
 have HAC:=mK (fun W (hu:Pure w W) (Aw:Option Addr) (cw:Nat) (G:Nat->Prop) (hwl:(wordL l (-1) l.length).length<=1048576 * 4) (hw:intR.row W G Aw (wordL l (-1) l.length))=>accepts6_calls (c:=cW) (d:=cG) (cw:=cw) (Rp.x01 hw0 hu) (Rp.x01 hg hu) hw (by have:=rule6_wt l (-1);exact this) x3y.gl x3y.gt hwl)
 have HE:=mK (show (x0r x02 0).2=x43 from rfl)
 have HS:As (∀ v,Pure w v->v.cell? ⟨cb,0,none⟩=some (.int .i64 x43.k)/\v.cell? ⟨cb,1,none⟩=some (.string x43.name)/\v.cell? ⟨cb,2,none⟩=some (.slice AW x43.l.length cW)/\v.cell? ⟨cb,5,none⟩=some (.slice AG x07.length cG)):=⟨fun v hu=>⟨(hu.cell hcb (fun h=>h)).trans c0,(hu.cell hcb (fun h=>h)).trans c1,(hu.cell hcb (fun h=>h)).trans c2,(hu.cell hcb (fun h=>h)).trans c5⟩⟩
 have HCK6:=mK (show ck6 l 0 (l.drop 0)=ck6 l 0 l from rfl)
 have HC6:=mK (fun k x (hx:l[k]?=some x)=>show ck6 l k (l.drop k)=if one6 l k x=true then ck6 l (k+1) (l.drop (k+1)) else ((k:Int),9) by rw[drop_cons hx,ck6])
 have HEND:=mK (show ck6 l l.length (l.drop l.length)=((l.length:Int),if x0n x43 x07 (wordL l (-1) l.length)=true then (0:Int) else 9) by rw[List.drop_length,ck6,HE.o])
 generalize ck6 l 0 l=res at *
 generalize x07=gs at *
 generalize x43=e0 at *
 generalize wordL l (-1) l.length=wd at *
 obtain⟨k0,nm,l0⟩:=e0
 unfold Ex.val at *
 clear h hr hf hw0 hg c0 c1 c2 c3 c4 c5 HE
 go_enter Tryz.func16,Tryz.ntmps16
 go_wp2_with (go_at_call 68;refine HCK.o.mono ?_;rintro r w1 ⟨rfl,hu⟩;have HU1:=mK hu;clear hu)
 go_loopg [8] l.length (fun gg i wr=>∃ k:Nat,k+gg=l.length/\i=.int .i64 k/\As (Pure w wr)/\As (RunTo l k)/\As (ck6 l k (l.drop k)=res))
 case atStart=>exact⟨0,by omega,rfl,HU1,HRT,HCK6⟩
 case round=>
  clear HRT HCK6 HU1
  obtain⟨k,hk,rfl,HP,HRT,HRES⟩:=hrel
  by_cases hlt:k < l.length
  ·obtain⟨x,hx⟩:=gS hlt
   obtain⟨g1,rfl⟩:=sC1 (by omega:0 < gk)
   have HO:=mK (HONE.o _ HP.o k x hx HRT.o)
   have HN:=mK (HNX.o k x hx HRT.o)
   have HR2:=HRES.o
   rw[HC6.o k x hx] at HR2
   have HK:=mK hk
   clear hx hk HRES
   generalize one6 l k x=ob at *
   cases ob with
   | false=>
     have HR3:=mK HR2
     clear HR2
     go_wp2_with (go_at_call 69;refine HO.o.mono ?_;rintro r w2 ⟨rfl,hu⟩;have HU2:=mK (HP.o.tt hu);clear hu)
     exact bodyPost_ret (results_tmp2 rfl _ _ _) rfl ⟨by rw[<- HR3.o];rfl,HU2.o⟩
   | true=>
     have HR3:=mK (show ck6 l (k+1) (l.drop (k+1))=res from HR2)
     clear HR2
     go_wp2_with (go_at_call 69;refine HO.o.mono ?_;rintro r w2 ⟨rfl,hu⟩;have HU2:=mK (HP.o.tt hu);clear hu)
     go_roundg g1
     case measure=>omega
     case rel=>exact⟨k+1,by have:=HK.o;omega,by go_num,HU2,⟨HN.o trivial⟩,HR3⟩
  ·obtain rfl:k=l.length:=by omega
   have HR3:=mK (HEND.o.symm.trans HRES.o)
   have HUD:=mK HP.o.drew
   clear HRES HRT HC6 HEND HONE HNX
   cases hac:x0n (.mk k0 nm l0) gs wd <;> rw[hac] at HAC HR3
   all_goals
    go_wp2
    refine wp_region_held_drew (S:=(fun v=>v.cell? ⟨cb,0,none⟩=some (.int .i64 (Ex.mk k0 nm l0).k)/\v.cell? ⟨cb,1,none⟩=some (.string (Ex.mk k0 nm l0).name)/\v.cell? ⟨cb,2,none⟩=some (.slice AW (Ex.mk k0 nm l0).l.length cW)/\v.cell? ⟨cb,5,none⟩=some (.slice AG gs.length cG))) (by kernel_rfl) ?_ (fun hHeld=>?_)
    ·first | exact HS.o _ HU4.o | exact HS.o _ HU3.o | exact HS.o _ HUD.o
    refine zH 0 ?_
    refine zH 1 ?_
    refine zH 2 ?_
    refine zH 3 ?_
    (try simp only[Act.put,sA,sB,sC])
    refine zH 4 ?_
    refine zH 5 ?_
    refine zH 6 ?_
    refine zH 7 ?_
    (try simp only[Act.put,sA,sB,sC])
    refine zH 8 ?_
    refine zH 9 ?_
    refine zH 10 ?_
    refine wpAnyH_ready (rs:=[11]) (by kernel_rfl) (by simp) (AllReadyH.cons (by exact opAt rfl) (fun K hK=>?_) AllReadyH.nil)
    go_simp
    first | (go_at_call 70;refine(HAC.o _ HU3.o _ _ _ (by have:=HWL.o;omega) HRW.o).mono ?_;rintro r w4 ⟨rfl,hu⟩;have HU4:=mK (HU3.o.tt hu);clear hu) | (go_at_call 71;refine(HWD.o _ HUD.o).mono ?_;rintro r w3 ⟨v,rfl,ho,hwl,hu⟩;have HU3:=mK (HUD.o.tt hu);obtain⟨Av,cv,rfl,_,hrow⟩:=Rp.x0c ho;have HRW:=mK hrow;have HWL:=mK hwl;clear ho hwl hu hrow)
    refine hK.out _ _ (by first | exact HS.o _ HU4.o | exact HS.o _ HU3.o | exact HS.o _ HUD.o) (fun hHeld=>?_)
    clear hK K
    (try simp only[Act.put,sA,sB,sC])
    refine wpAnyH_ready (rs:=[12]) (by kernel_rfl) (by simp) (AllReadyH.cons (by exact opAt rfl) (fun K hK=>?_) AllReadyH.nil)
    go_simp
    first | (go_at_call 70;refine(HAC.o _ HU3.o _ _ _ (by have:=HWL.o;omega) HRW.o).mono ?_;rintro r w4 ⟨rfl,hu⟩;have HU4:=mK (HU3.o.tt hu);clear hu) | (go_at_call 71;refine(HWD.o _ HUD.o).mono ?_;rintro r w3 ⟨v,rfl,ho,hwl,hu⟩;have HU3:=mK (HUD.o.tt hu);obtain⟨Av,cv,rfl,_,hrow⟩:=Rp.x0c ho;have HRW:=mK hrow;have HWL:=mK hwl;clear ho hwl hu hrow)
    refine hK.out _ _ (by first | exact HS.o _ HU4.o | exact HS.o _ HU3.o | exact HS.o _ HUD.o) (fun hHeld=>?_)
    clear hK K
    (try simp only[Act.put,sA,sB,sC])
    refine zH 13 ?_
    refine wpAnyH_done (by kernel_rfl) ?_ _
    go_wp2
    exact bodyPost_ret (results_tmp2 rfl _ _ _) rfl ⟨by rw[<- HR3.o];rfl,HU4.o⟩
theorem x3v {l:List Tok} (h:H6 w cb) (hr:tokR.row w F A l) (hlc:l.length<=c) (hb:l.length<=1048576 * 4) :
 Calls Tryz.prog 16 #[.pointer (some ⟨cb,0,none⟩),.slice A l.length c] w fun e w'=>e=.returned (.tuple #[.int .i64 (x0d l).1,.int .i64 (x0d l).2])/\Pure w w':=by
 rw[<- check6_eq]
 unfold check6
 by_cases hf:(x0a l).2=0
 ·rw[if_pos hf]
  exact Check6_main h hr hlc hf
 ·rw[if_neg hf]
  exact Check6_flat hr hb hf
/-- What Apply, Do of the reference answer. -/
def DocR9 (w:World) (x:List Tok) (e:Int) (r:Ending) (w':World):Prop:=
 ((e=0/\∃ A c,r=.returned (.tuple #[.slice A x.length c,.int .i64 0])/\x.length<=c/\tokR.row w' (fun k=>w.heap.size<=k) A x)\/(e ≠ 0/\r=.returned (.tuple #[.slice none 0 0,.int .i64 e])))/\Pure w w'
theorem DocR9.no {w':World} {x:List Tok} {e e':Int} {r:Ending} (he:e=e') (h:e' ≠ 0) (hr:r=.returned (.tuple #[.slice none 0 0,.int .i64 e'])) (hp:Pure w w'):DocR9 w x e r w':=by
 subst he
 exact⟨.inr ⟨h,hr⟩,hp⟩
/-- What a step's Check and done of the reference answer. -/
structure Dn (w:World) (A:Option Addr) (c:Nat) (l:List Tok) (B:Option Addr) (cb:Nat) (s:StepD):Prop where
 ck:∀ W,Pure w W->Calls Tryz.prog 176 #[s.val B cb] W fun r w'=>r=.returned (.int .i64 (x0q s))/\Pure W w'
 dn:(x0a l).2=0->x0q s=0->s.tt<=l.length->∀ W,Pure w W->Calls Tryz.prog 177 #[.slice A l.length c,s.val B cb] W (Told9 W (x0t l s))
theorem Dn.pure {l:List Tok} {s:StepD} (h:Dn w A c l B cb s) (hu:Pure w W):Dn W A c l B cb s:=
 ⟨fun V hV=>h.ck V (hu.tt hV),fun h0 h1 h2 V hV=>h.dn h0 h1 h2 V (hu.tt hV)⟩
theorem Apply9_no {l:List Tok} {s:StepD} (hr:tokR.row w F A l) (hb:l.length<=1048576 * 4) (hd:Dn w A c l B cb s) (hno:¬ ((x0a l).2=0/\x0q s=0/\s.tt<=l.length)) :
 Calls Tryz.prog 147 #[.slice A l.length c,s.val B cb] w (DocR9 w (x0t l s) (x15 l s)):=by
 have HF:=mK (fun W (hu:Pure w W)=>x4u (c:=c) (Rp.x01 hr hu) hb)
 have HC:=mK hd.ck
 have HE:=mK (show x15 l s=if (x0a l).2 ≠ 0 then (x0a l).2 else if x0q s ≠ 0 then x0q s else if s.tt > l.length then 1 else if (x0a (x0t l s)).2=3 then 4 else (x0a (x0t l s)).2 from rfl)
 have HBX:=mK (heap_alloc_new w (.cells #[.int .i64 s.k,.int .i64 s.fr,.int .i64 s.tt,.int .i64 s.gf,.int .i64 s.gt,.int .i64 s.ins,.slice B s.sl.length cb,.int .i64 s.mark] 46))
 have HNO:=mK hno
 generalize x15 l s=se at *
 generalize hfx:(x0a (x0t l s)).2=fx at *
 clear hfx
 generalize x0a l=fl at *
 generalize x0q s=sc at *
 generalize x0t l s=sd at *
 clear hr hd hno
 unfold StepD.val at *
 obtain⟨f1,f2⟩:=fl
 cases b0:(f2 == 0)
 ·have c0:(f2 != 0)=true:=by simp[bne,b0]
  have HV:As (f2 ≠ 0):=⟨by simpa using b0⟩
  go_enter Tryz.func147,Tryz.ntmps147
  go_wp2_with (go_at_call 68;refine(HF.o _ aU).mono ?_;rintro r w1 ⟨rfl,hu⟩;have HU1:=mK (aP.tt hu);clear hu)
  refine bodyPost_ret (results_tmp2 rfl _ _ _) rfl ?_
  exact DocR9.no (by rw[HE.o,if_pos HV.o]) HV.o rfl HU1.o
 ·have c0:(f2 != 0)=false:=by simp[bne,b0]
  have HV:As (f2=0):=⟨by simpa using b0⟩
  cases b1:(sc == 0)
  ·have c1:(sc != 0)=true:=by simp[bne,b1]
   have HW:As (sc ≠ 0):=⟨by simpa using b1⟩
   go_enter Tryz.func147,Tryz.ntmps147
   go_wp2_with (go_at_call 68;refine(HF.o _ aU).mono ?_;rintro r w1 ⟨rfl,hu⟩;have HP1:=mK hu;clear hu;apply As.o)
   refine⟨?_⟩
   have hbx:=(HP1.o.block w.heap.size (by simp) (fun h=>h)).trans HBX.o
   obtain⟨k0,k1,k2,k3,k4,k5,k6,k7⟩:=x06 hbx
   have hbl:w.heap.size < w1.heap.size:=lB hbx
   have HU1:=mK (aP.tt HP1.o)
   clear hbx
   go_wp2_with (go_at_call 176;refine(HC.o _ HU1.o).mono ?_;rintro r w2 ⟨rfl,hu⟩;have HU2:=mK (HU1.o.tt hu);clear hu)
   refine bodyPost_ret (results_tmp2 rfl _ _ _) rfl ?_
   exact DocR9.no (by rw[HE.o,if_neg (fun h=>h HV.o),if_pos HW.o]) HW.o rfl HU2.o
  ·have c1:(sc != 0)=false:=by simp[bne,b1]
   have HW:As (sc=0):=⟨by simpa using b1⟩
   have HT:As (s.tt > (l.length:Int)):=⟨by have:=HNO.o;have:=HV.o;have:=HW.o;omega⟩
   have d1:decide (s.tt > (l.length:Int))=true:=decide_eq_true HT.o
   have d2:decide ((l.length:Int) < s.tt)=true:=d1
   go_enter Tryz.func147,Tryz.ntmps147
   go_wp2_with (go_at_call 68;refine(HF.o _ aU).mono ?_;rintro r w1 ⟨rfl,hu⟩;have HP1:=mK hu;clear hu;apply As.o)
   refine⟨?_⟩
   have hbx:=(HP1.o.block w.heap.size (by simp) (fun h=>h)).trans HBX.o
   obtain⟨k0,k1,k2,k3,k4,k5,k6,k7⟩:=x06 hbx
   have hbl:w.heap.size < w1.heap.size:=lB hbx
   have HU1:=mK (aP.tt HP1.o)
   have HB1:=mK hbx
   clear hbx
   go_wp2_with (go_at_call 176;refine(HC.o _ HU1.o).mono ?_;rintro r w2 ⟨rfl,hu⟩;have HP2:=mK hu;clear hu;apply As.o)
   refine⟨?_⟩
   have hbx:=(HP2.o.block w.heap.size hbl (fun h=>h)).trans HB1.o
   clear k0 k1 k2 k3 k4 k5 k6 k7
   obtain⟨k0,k1,k2,k3,k4,k5,k6,k7⟩:=x06 hbx
   have hbl2:w.heap.size < w2.heap.size:=lB hbx
   have HU2:=mK (HU1.o.tt HP2.o)
   clear hbx hbl
   go_wp2
   refine bodyPost_ret (results_tmp2 rfl _ _ _) rfl ?_
   exact DocR9.no (by rw[HE.o,if_neg (fun h=>h HV.o),if_neg (fun h=>h HW.o),if_pos HT.o]) (by decide) rfl HU2.o
theorem Apply9_ok {l:List Tok} {s:StepD} (hr:tokR.row w F A l) (hb:l.length<=1048576 * 4) (hd:Dn w A c l B cb s) (h0:(x0a l).2=0) (h1:x0q s=0) (h2:s.tt<=l.length) :
 Calls Tryz.prog 147 #[.slice A l.length c,s.val B cb] w (DocR9 w (x0t l s) (x15 l s)):=by
 have HF:=mK (fun W (hu:Pure w W)=>x4u (c:=c) (Rp.x01 hr hu) hb)
 rw[h0] at HF
 have HC:=mK hd.ck
 rw[h1] at HC
 have HD:=mK (hd.dn h0 h1 h2)
 have hlen:=x4c h0
 have HFO:=mK (fun (W:World) (Bo:Option Addr) (co:Nat) (G2:Nat->Prop) (hrow:tokR.row W G2 Bo (x0t l s))=>x4u (c:=co) hrow (by have:=stepDo_len h1 h2;have:=(x27.1 h1).1;omega))
 have HE:=mK (show x15 l s=if (x0a (x0t l s)).2=3 then 4 else (x0a (x0t l s)).2 by
  unfold x15
  rw[if_neg (by omega),if_neg (by omega),if_neg (by omega)])
 have HBX:=mK (heap_alloc_new w (.cells #[.int .i64 s.k,.int .i64 s.fr,.int .i64 s.tt,.int .i64 s.gf,.int .i64 s.gt,.int .i64 s.ins,.slice B s.sl.length cb,.int .i64 s.mark] 46))
 have d1:decide (s.tt > (l.length:Int))=false:=decide_eq_false (by omega)
 have d2:decide ((l.length:Int) < s.tt)=false:=d1
 generalize x15 l s=se at *
 generalize (x0a l).1=f1 at *
 generalize x0t l s=sd at *
 generalize hfx:x0a sd=fx at *
 clear hr hd h0 h1 h2 hfx
 unfold StepD.val at *
 obtain⟨x1,x2⟩:=fx
 cases b0:(x2 == 0) <;> cases b3:(x2 == 3)
 all_goals
  have c0:(x2 != 0)=!(x2 == 0):=rfl
  rw[b0] at c0
  simp only[Bool.not_true,Bool.not_false] at c0
  have HB0:=mK b0
  have HB3:=mK b3
  go_enter Tryz.func147,Tryz.ntmps147
  go_wp2_with (go_at_call 68;refine(HF.o _ aU).mono ?_;rintro r w1 ⟨rfl,hu⟩;have HP1:=mK hu;clear hu;apply As.o)
  refine⟨?_⟩
  have hbx:=(HP1.o.block w.heap.size (by simp) (fun h=>h)).trans HBX.o
  obtain⟨k0,k1,k2,k3,k4,k5,k6,k7⟩:=x06 hbx
  have hbl:w.heap.size < w1.heap.size:=lB hbx
  have HU1:=mK (aP.tt HP1.o)
  have HB1:=mK hbx
  clear hbx
  go_wp2_with (go_at_call 176;refine(HC.o _ HU1.o).mono ?_;rintro r w2 ⟨rfl,hu⟩;have HP2:=mK hu;clear hu;apply As.o)
  refine⟨?_⟩
  have hbx:=(HP2.o.block w.heap.size hbl (fun h=>h)).trans HB1.o
  clear k0 k1 k2 k3 k4 k5 k6 k7
  obtain⟨k0,k1,k2,k3,k4,k5,k6,k7⟩:=x06 hbx
  have hbl2:w.heap.size < w2.heap.size:=lB hbx
  have HU2:=mK (HU1.o.tt HP2.o)
  clear hbx hbl
  go_wp2_with (first | (go_at_call 68;refine(HFO.o w3 _ _ _ HR3.o).mono ?_;rintro r w4 ⟨rfl,hu⟩;have HP4:=mK hu;have HU4:=mK (HU3.o.tt hu);clear hu) | (go_at_call 177;refine(HD.o _ HU2.o).mono ?_;intro r w3 ht;obtain⟨⟨A3,c3,rfl,hle,hrow⟩,hu⟩:=ht;have HR3:=mK hrow;have HLE3:=mK hle;have HU3:=mK (HU2.o.tt hu);clear hu hrow hle))
  refine bodyPost_ret (results_tmp2 rfl _ _ _) rfl ?_
  first
   | (have hz:x2=0:=by simpa using HB0.o
      exact⟨.inl ⟨by rw[HE.o];simp[hz],A3,c3,rfl,HLE3.o,Rp.x09 (Rp.x01 HR3.o HP4.o) (fun q hq=>Nat.le_trans HU2.o.size hq)⟩,HU4.o⟩)
   | (have hz:x2=3:=by simpa using HB3.o
      exact DocR9.no (by rw[HE.o];simp[hz]) (by decide) rfl HU4.o)
   | (have hz:x2 ≠ 0:=by simpa using HB0.o
      have hy:x2 ≠ 3:=by simpa using HB3.o
      exact DocR9.no (by rw[HE.o,if_neg hy]) hz rfl HU4.o)
theorem Apply9_calls {l:List Tok} {s:StepD} (hr:tokR.row w F A l) (hb:l.length<=1048576 * 4) (hd:Dn w A c l B cb s) :
 Calls Tryz.prog 147 #[.slice A l.length c,s.val B cb] w (DocR9 w (x0t l s) (x15 l s)):=by
 by_cases h:(x0a l).2=0/\x0q s=0/\s.tt<=l.length
 ·exact Apply9_ok hr hb hd h.1 h.2.1 h.2.2
 ·exact Apply9_no hr hb hd h
theorem DocR9.zero {x:List Tok} {r:Ending} {w':World} (h:DocR9 w x 0 r w'):(∃ A c,r=.returned (.tuple #[.slice A x.length c,.int .i64 0])/\x.length<=c/\tokR.row w' (fun k=>w.heap.size<=k) A x)/\Pure w w':=by
 obtain⟨h | h,hp⟩:=h
 ·exact⟨h.2,hp⟩
 ·exact absurd rfl h.1
theorem DocR9.ne {x:List Tok} {e:Int} {r:Ending} {w':World} (h:DocR9 w x e r w') (he:e ≠ 0):r=.returned (.tuple #[.slice none 0 0,.int .i64 e])/\Pure w w':=by
 obtain⟨h | h,hp⟩:=h
 ·exact absurd h.1 he
 ·exact⟨h.2,hp⟩
theorem Do10_calls {cb0:Nat} {l:List Tok} {s:StepD} (h:H6 w cb0) (hr:tokR.row w F A l) (hb:l.length<=1048576 * 4) (hd:Dn w A c l B cb s) :
 Calls Tryz.prog 100 #[.pointer (some ⟨cb0,0,none⟩),.slice A l.length c,s.val B cb] w (DocR9 w (x0t l s) (x08 l s)):=by
 have HA:=mK (fun W (hu:Pure w W)=>Apply9_calls (c:=c) (Rp.x01 hr hu) hb (hd.pure hu))
 have HRE:=mK (show x08 l s=if x15 l s ≠ 0 then x15 l s else (x0d (x0t l s)).2 from rfl)
 have HLN:=mK (fun (h0:x15 l s=0)=>show (x0t l s).length<=1048576 * 4 from by
  obtain⟨h3,h1,h2,_⟩:=step_err_zero.1 h0
  have:=stepDo_len h1 h2
  have:=(x27.1 h1).1
  have:=x4c h3
  omega)
 have HCK:=mK (fun W (hu:Pure w W) (Ao:Option Addr) (co:Nat) (G:Nat->Prop) (hrow:tokR.row W G Ao (x0t l s)) (hle:(x0t l s).length<=co) (hl:(x0t l s).length<=1048576 * 4)=>x3v (c:=co) (h.pure hu) hrow hle hl)
 have HBX:=mK (heap_alloc_new w (.cells #[.int .i64 s.k,.int .i64 s.fr,.int .i64 s.tt,.int .i64 s.gf,.int .i64 s.gt,.int .i64 s.ins,.slice B s.sl.length cb,.int .i64 s.mark] 46))
 generalize x08 l s=re at *
 generalize x15 l s=se at *
 generalize x0t l s=sd at *
 generalize hfx:x0d sd=fx at *
 clear h hr hd hfx
 unfold StepD.val at *
 obtain⟨x1,x2⟩:=fx
 by_cases h0:se=0
 ·subst h0
  have HL:=mK (HLN.o rfl)
  have HRF:=mK (show re=x2 from HRE.o)
  clear HLN HRE
  cases b0:(x2 == 0)
  all_goals
   have c0:(x2 != 0)=!(x2 == 0):=rfl
   rw[b0] at c0
   simp only[Bool.not_true,Bool.not_false] at c0
   have HB0:=mK b0
   go_enter Tryz.func100,Tryz.ntmps100
   go_wp2_with (first | (go_at_call 16;refine(HCK.o w1 HU1.o _ _ _ HR1.o HLE1.o HL.o).mono ?_;rintro r w2 ⟨rfl,hu⟩;have HP2:=mK hu;have HU2:=mK (HU1.o.tt hu);clear hu) | (go_at_call 147;refine(HA.o _ aU).mono ?_;intro r w1 ht;obtain⟨⟨A1,c1,rfl,hle,hrow⟩,hu⟩:=ht.zero;have HR1:=mK (Rp.x09 hrow (fun q hq=>(by simp at hq;omega:w.heap.size<=q)));have HLE1:=mK hle;have HU1:=mK (aP.tt hu);clear hu hrow hle ht))
   refine bodyPost_ret (results_tmp2 rfl _ _ _) rfl ?_
   first
    | (have hz:x2=0:=by simpa using HB0.o
       exact⟨.inl ⟨by rw[HRF.o,hz],A1,c1,rfl,HLE1.o,Rp.x01 HR1.o HP2.o⟩,HU2.o⟩)
    | (have hz:x2 ≠ 0:=by simpa using HB0.o
       exact DocR9.no HRF.o hz rfl HU2.o)
 ·have HRF:=mK (show re=se by rw[HRE.o,if_pos h0])
  have HN:=mK h0
  have c0:(se == 0)=false:=by simpa using h0
  have c1:(se != 0)=true:=by simpa using h0
  clear HLN HRE h0 HCK
  go_enter Tryz.func100,Tryz.ntmps100
  go_wp2_with (go_at_call 147;refine(HA.o _ aU).mono ?_;intro r w1 ht;obtain⟨rfl,hu⟩:=ht.ne HN.o;have HU1:=mK (aP.tt hu);clear hu ht)
  refine bodyPost_ret (results_tmp2 rfl _ _ _) rfl ?_
  exact DocR9.no HRF.o HN.o rfl HU1.o
open Go.Great
theorem x5n (w:World):Calls Tryz.prog 14 #[] w fun r w'=>∃ cb,r=.returned (.pointer (some ⟨cb,0,none⟩))/\H6 w' cb/\Pure w w':=by
 have HCR:=mK (fun W F=>house_reps W F)
 obtain⟨hc,hhc⟩:∃ hc,hc=x48:=⟨_,rfl⟩
 rw[<- hhc] at HCR
 go_enter Tryz.func14,Tryz.ntmps14
 refine wp_seq (wp_region_list ?_)
 refine wpList_readTo rfl _ rfl (.pointer none) rfl ?_
 refine wpList_nil ?_
 refine wp_seq (wp_region_list ?_)
 refine wpList_buildTo rfl _ _ rfl _ rfl #[.string ⟨#[112,97,114,97]⟩,.string ⟨#[116,101,120,116,42]⟩,.bool false,.int .i64 7,.int .i64 0,.int .i64 0,.bool false] (by kernel_rfl) ?_
 refine wpList_buildTo rfl _ _ rfl _ rfl #[.string ⟨#[104,101,97,100]⟩,.string ⟨#[116,101,120,116,42]⟩,.bool false,.int .i64 7,.int .i64 1,.int .i64 6,.bool false] (by kernel_rfl) ?_
 refine wpList_buildTo rfl _ _ rfl _ rfl #[.string ⟨#[113,117,111,116,101]⟩,.string ⟨#[98,108,111,99,107,43]⟩,.bool false,.int .i64 0,.int .i64 0,.int .i64 0,.bool false] (by kernel_rfl) ?_
 refine wpList_buildTo rfl _ _ rfl _ rfl #[.string ⟨#[99,111,100,101]⟩,.string ⟨#[116,101,120,116,42]⟩,.bool false,.int .i64 0,.int .i64 0,.int .i64 0,.bool true] (by kernel_rfl) ?_
 refine wpList_buildTo rfl _ _ rfl _ rfl #[.string ⟨#[108,105,115,116]⟩,.string ⟨#[105,116,101,109,43]⟩,.bool false,.int .i64 0,.int .i64 0,.int .i64 1,.bool false] (by kernel_rfl) ?_
 refine wpList_buildTo rfl _ _ rfl _ rfl #[.string ⟨#[105,116,101,109]⟩,.string ⟨#[98,108,111,99,107,43]⟩,.bool false,.int .i64 0,.int .i64 0,.int .i64 0,.bool false] (by kernel_rfl) ?_
 refine wpList_buildTo rfl _ _ rfl _ rfl #[.string ⟨#[114,117,108,101]⟩,.string ⟨#[]⟩,.bool true,.int .i64 0,.int .i64 0,.int .i64 0,.bool false] (by kernel_rfl) ?_
 refine wpList_buildSliceTo rfl 82 34 7 _ rfl w.heap.size rfl _ rfl Tryz.underlying82 hc (by rw[hhc];kernel_rfl) ?_
 refine wpList_readTo rfl _ rfl (.slice (some ⟨w.heap.size,0,none⟩) 7 7) (by kernel_rfl) ?_
 refine wpList_nil ?_
 refine wp_seq ?_
 obtain⟨W,hW⟩:∃ W,W=w.alloc (.cells hc 34):=⟨_,rfl⟩
 have HWB:=mK (show W.heap[w.heap.size]?=some (.cells hc 34 (0,0)) from hW ▸ heap_alloc_new w _)
 have HPW:=mK (show Pure w W from hW ▸ Upd.alloc1 _ _ _)
 rw[<- hW]
 clear hW
 have hI:Pure W (((W.alloc (.cells #[.int .i64 1,.int .i64 2,.int .i64 3,.int .i64 4,.int .i64 5,.int .i64 7] 3)).alloc (.cells #[.string x2h,.slice (some ⟨W.heap.size,0,none⟩) 6 6] 85))):=aU.alloc _
 have hz:(W.alloc (.cells #[.int .i64 1,.int .i64 2,.int .i64 3,.int .i64 4,.int .i64 5,.int .i64 7] 3)).heap.size=W.heap.size+1:=by simp
 have hir:=Rp.x01 (Rp.x1k (d:=intR) (F:=fun _=>True) (heap_alloc_new W (.cells #[.int .i64 1,.int .i64 2,.int .i64 3,.int .i64 4,.int .i64 5,.int .i64 7] 3)) trivial (house_ints _ _)) (Upd.alloc1 (fun _=>False) _ (.cells #[.string x2h,.slice (some ⟨W.heap.size,0,none⟩) 6 6] 85))
 have hgb:=heap_alloc_new (W.alloc (.cells #[.int .i64 1,.int .i64 2,.int .i64 3,.int .i64 4,.int .i64 5,.int .i64 7] 3)) (.cells #[.string x2h,.slice (some ⟨W.heap.size,0,none⟩) 6 6] 85)
 rw[hz] at hgb
 have hgr:grpR.row _ (fun _=>True) (some ⟨W.heap.size+1,0,none⟩) x2z:=Rp.x1k hgb trivial (Reps.single (x:=(⟨x2h,[1,2,3,4,5,7]⟩:Grp)) ⟨_,_,rfl,Nat.le_refl 6,hir⟩ rfl)
 have hsr:=Rp.x01 (Rp.x1k (d:=specR) (F:=fun _=>True) HWB.o trivial (HCR.o W _)) hI
 have HNEW:=mK (New6_calls (c:=7) (d:=1) (whole:=x39) (e0:=x43) (es:=houseE7) hsr hgr (by decide) (by decide) house6_small (fun x hx=>(house_gsmall x hx).2) house6_names house6_fits rfl ⟨parse6_block,by kernel_rfl,Nat.le_of_ble_eq_true (by kernel_rfl)⟩ house6_parses)
 have HI:=mK (HPW.o.tt hI)
 clear hI hz hir hgb hgr hsr HCR hhc
 go_wp2_with (go_at_call 62;refine HNEW.o.mono ?_;rintro e w7 ⟨cb,rfl,hsch,hu⟩;have HS:=mK hsch;have HU7:=mK (HI.o.tt hu);clear hsch hu)
 go_ret
 exact⟨_,rfl,HS.o,HU7.o⟩
end Go.Proofs.YtofjodppljnlaaaGreatDoor
