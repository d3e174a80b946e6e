/- My own texts, packed: MarkL, Done9, Chk9, Ed12a. -/
import Derived.Test.YtofjodppljnlaaaGreatDoorP23
set_option maxRecDepth 100000
set_option maxHeartbeats 4000000
set_option linter.unusedVariables false
set_option linter.unusedSimpArgs false
variable {w w1 W:Go.World} {F G:Nat → Prop} {A B:Option Go.Addr} {cb c:Nat}
namespace Go.Proofs.YtofjodppljnlaaaGreatDoor
open Go.RowKit
theorem repl_ok {a b:Int} {l:List Tok}:(repl a b l).ok ↔ 0<=a/\a<=b/\b<=2048/\∀ x ∈ l,x0p x=true:=by
 unfold StepD.ok StepD.kindOk repl
 constructor
 ·rintro ⟨h1,h2,h3,_,h5⟩
  exact⟨h1,h2,h3,h5⟩
 ·rintro ⟨h1,h2,h3,h5⟩
  exact⟨h1,h2,h3,.inr (.inl ⟨rfl,rfl,rfl,rfl,rfl⟩),h5⟩
theorem tokens39 {F0 F1 F2:Nat->Prop} {x0 x1 x2:List Tok} (hb:x0.length+x1.length+x2.length<=1048576) (W:World) (hu:Pure w W) {v0 v1 v2:Value} {blk:Nat} {e:TypeId} {fr:Nat × Nat} (hblk:W.heap[blk]?=some (.cells #[v0,v1,v2] e fr)) (h0:TokS w F0 v0 x0) (h1:TokS w F1 v1 x1) (h2:TokS w F2 v2 x2) :
 Calls Tryz.prog 204 #[.slice (some ⟨blk,0,none⟩) 3 3] W fun r w'=>(∃ A c,r=.returned (.slice A (x0 ++ (x1 ++ x2)).length c)/\(x0 ++ (x1 ++ x2)).length<=c/\tokR.row w' (fun k=>W.heap.size<=k) A (x0 ++ (x1 ++ x2)))/\Pure W w':=by
 have hr:toksR.row W (fun _=>True) (some ⟨blk,0,none⟩) [x0,x1,x2]:=toks_box (vs:=[v0,v1,v2]) hblk trivial rfl (fun j v x hv hx=>by
  match j,hv,hx with
  | 0,hv,hx=>simp at hv hx;subst hv hx;exact(h0.pure hu).fp
  | 1,hv,hx=>simp at hv hx;subst hv hx;exact(h1.pure hu).fp
  | 2,hv,hx=>simp at hv hx;subst hv hx;exact(h2.pure hu).fp
  | j+3,hv,hx=>simp at hv)
 have h:=join9_calls (c:=3) hr (Nat.le_refl _) (by simp) (by simp[sumL];omega)
 have e:([x0,x1,x2]:List (List Tok)).flatten=x0 ++ (x1 ++ x2):=by simp
 rw[e] at h
 exact h
theorem do_repl_some9 {b o:Nat} {A:Option Addr} {l sl:List Tok} {p q:Nat} (hr:tokR.row w F (some ⟨b,o,none⟩) l) (hlc:l.length<=c) (hs:tokR.row w G B sl) (hsc:sl.length<=cb) (hb:l.length+sl.length<=100000) (hp:p<=q) (hq:q<=l.length) :
 Calls Tryz.prog 177 #[.slice (some ⟨b,o,none⟩) l.length c,(repl p q sl).val B cb] w (Told9 w (l.take p ++ (sl ++ l.drop q))):=by
 have hbox:=Upd.alloc1 (fun _=>False) w (.cells #[.int .i64 0,.int .i64 (p:Nat),.int .i64 (q:Nat),.int .i64 0,.int .i64 0,.int .i64 0,.slice B sl.length cb,.int .i64 0] 46)
 have hblk:=heap_alloc_new w (.cells #[.int .i64 0,.int .i64 (p:Nat),.int .i64 (q:Nat),.int .i64 0,.int .i64 0,.int .i64 0,.slice B sl.length cb,.int .i64 0] 46)
 have h1:=TokS.take (m:=p) hr (by omega) hlc rfl
 have h2:=TokS.whole hs hsc rfl
 have h3:=TokS.cut (m:=l.length - q) (c':=c - q) hr hq hlc rfl rfl
 have HT:=mK (fun (W:World) (hu:Pure w W) (blk:Nat) (e:TypeId) (fr:Nat × Nat) hblk=>tokens39 (x0:=l.take p) (x1:=sl) (x2:=l.drop q) (by rw[List.length_take,List.length_drop];omega) W hu (blk:=blk) (e:=e) (fr:=fr) hblk h1 h2 h3)
 have HB:=mK hbox
 have HBK:=mK (fun (cs:Array Value) (T:TypeId)=>(by
  have h:=heap_alloc_new (w.alloc (.cells #[.int .i64 0,.int .i64 (p:Nat),.int .i64 (q:Nat),.int .i64 0,.int .i64 0,.int .i64 0,.slice B sl.length cb,.int .i64 0] 46)) (.cells cs T)
  rw[World.size_alloc] at h
  exact h:(((w.alloc (.cells #[.int .i64 0,.int .i64 (p:Nat),.int .i64 (q:Nat),.int .i64 0,.int .i64 0,.int .i64 0,.slice B sl.length cb,.int .i64 0] 46)).alloc (.cells cs T)).drew).heap[w.heap.size+1]?=some (.cells cs T (0,0))))
 have q0:∀ v,Pure (w.alloc (.cells #[.int .i64 0,.int .i64 (p:Nat),.int .i64 (q:Nat),.int .i64 0,.int .i64 0,.int .i64 0,.slice B sl.length cb,.int .i64 0] 46)) v->v.cell? ⟨w.heap.size,1,none⟩=some (.int .i64 (p:Nat))/\v.cell? ⟨w.heap.size,2,none⟩=some (.int .i64 (q:Nat))/\v.cell? ⟨w.heap.size,6,none⟩=some (.slice B sl.length cb):=fun v hu=>by
  have:=(hu.block w.heap.size (by simp) (fun h=>h)).trans hblk
  refine⟨?_,?_,?_⟩ <;> (unfold World.cell?;simp only[this];rfl)
 have HQ:=mK q0
 have i1:(0:Int)<=((p:Nat):Int):=by omega
 have i2:((p:Nat):Int)<=((c:Nat):Int):=by omega
 have i3:(0:Int)<=((q:Nat):Int):=by omega
 have i4:((q:Nat):Int)<=((l.length:Nat):Int):=by omega
 have i5:((q:Nat):Int)<=((c:Nat):Int):=by omega
 have i6:((l.length:Nat):Int)<=((c:Nat):Int):=by omega
 clear hr hs h1 h2 h3 hbox hblk q0
 unfold StepD.val repl
 go_enter Tryz.func177,Tryz.ntmps177
 go_wp2
 refine x0m (P:=Tryz.prog) (fun v=>v.cell? ⟨w.heap.size,1,none⟩=some (.int .i64 (p:Nat))/\v.cell? ⟨w.heap.size,2,none⟩=some (.int .i64 (q:Nat))/\v.cell? ⟨w.heap.size,6,none⟩=some (.slice B sl.length cb)) 12 (by kernel_rfl) ?_ (fun hHeld=>?_)
 ·first | exact HQ.o _ (rU.drew) | exact HQ.o _ ((rU.alloc _).drew) | exact HQ.o _ (((rU.alloc _).drew).tt hu3)
 refine zT 0 ?_
 refine zT 1 ?_
 refine zT 2 ?_
 refine zT 3 ?_
 (try simp only[Act.put,sA,sB,sC])
 refine zT 4 ?_
 refine zT 5 ?_
 refine zT 6 ?_
 refine zT 7 ?_
 (try simp only[Act.put,sA,sB,sC])
 refine zT 8 ?_
 refine zT 9 ?_
 refine oT 10 (fun K hK=>?_)
 go_simp
 refine hK.out _ _ (fun _=>by first | exact HQ.o _ (rU.drew) | exact HQ.o _ ((rU.alloc _).drew) | exact HQ.o _ (((rU.alloc _).drew).tt hu3)) (fun hHeld=>?_)
 replace hHeld:=hHeld (by decide)
 clear hK K
 (try simp only[Act.put,sA,sB,sC])
 refine oT 11 (fun K hK=>?_)
 go_simp
 (go_at_call 204;with_reducible refine(HT.o _ ((HB.o.alloc _).drew) _ _ _ (HBK.o _ _)).mono ?_;rintro e w3 ⟨⟨B3,c3,rfl,hle3,hrow3⟩,hu3⟩)
 refine hK.out _ _ (fun _=>by first | exact HQ.o _ (rU.drew) | exact HQ.o _ ((rU.alloc _).drew) | exact HQ.o _ (((rU.alloc _).drew).tt hu3)) (fun hHeld=>?_)
 replace hHeld:=hHeld (by decide)
 clear hK K
 (try simp only[Act.put,sA,sB,sC])
 refine oT 12 (fun K hK=>?_)
 go_simp
 refine hK.out _ _ (fun h=>absurd rfl h) (fun hHeld=>?_)
 clear hK K
 (try simp only[Act.put,sA,sB,sC])
 refine x0l (by kernel_rfl) ?_ _
 go_wp2
 all_goals go_ret
 all_goals exact Told9.of ((HB.o.alloc _).drew) rfl (by first | (simp;done) | (simp;omega)) hle3 hrow3 hu3
theorem chk9_repl {sl:List Tok} {a b:Int} (hr:tokR.row w F B sl) (hb:sl.length<=1048576 * 4) :
 Calls Tryz.prog 176 #[(repl a b sl).val B cb] w fun r w'=>r=.returned (.int .i64 (x0q (repl a b sl)))/\Pure w w':=by
 have HS1:=mK (fun hz h2=>sc_one (s:=repl a b sl) hz h2)
 have HS0:=mK (fun hz h2=>sc_zero (s:=repl a b sl) hz h2)
 have HS2:=mK (fun hz=>sc_two (s:=repl a b sl) hz)
 have HIF:=mK (repl_ok (a:=a) (b:=b) (l:=sl))
 have HSL:As ((repl a b sl).sl=sl):=⟨rfl⟩
 rw[HSL.o] at HS1 HS0 HS2
 have HR:=mK hr
 have HBX:=mK (heap_alloc_new w (.cells #[.int .i64 0,.int .i64 a,.int .i64 b,.int .i64 0,.int .i64 0,.int .i64 0,.slice B sl.length cb,.int .i64 0] 46))
 generalize x0q (repl a b sl)=sc at *
 generalize (repl a b sl).ok=okP at *
 have e:(repl a b sl).val B cb=.agg #[.int .i64 0,.int .i64 a,.int .i64 b,.int .i64 0,.int .i64 0,.int .i64 0,.slice B sl.length cb,.int .i64 0]:=rfl
 rw[e]
 clear hr e HSL
 cases g0:decide (sl.length > 2048)
 case true=>
  have HG:=mK (of_decide_eq_true g0)
  have g1:decide ((sl.length:Int) > 2048)=true:=decide_eq_true (by have:=HG.o;omega)
  have g2:decide ((2048:Int) < (sl.length:Int))=true:=g1
  have g3:decide (2048 < sl.length)=true:=g0
  go_enter Tryz.func176,Tryz.ntmps176
  go_wp2
  go_ret
  exact⟨by rw[HS2.o HG.o];rfl,Upd.alloc1 _ _ _⟩
 case false=>
  have HG:=mK (of_decide_eq_false g0)
  have g1:decide ((sl.length:Int) > 2048)=false:=decide_eq_false (by have:=HG.o;omega)
  have g2:decide ((2048:Int) < (sl.length:Int))=false:=g1
  have g3:decide (2048 < sl.length)=false:=g0
  cases h0:decide (a < 0) <;> cases h1:decide (b < a) <;> cases h2:decide (2048 < b)
  case false.false.false=>
   have HA:=mK (And.intro (of_decide_eq_false h0) (And.intro (of_decide_eq_false h1) (of_decide_eq_false h2)))
   have h3:decide (a > b)=false:=h1
   have h4:decide (b > 2048)=false:=h2
   go_enter Tryz.func176,Tryz.ntmps176
   go_wp2
   go_loopg [4,5] sl.length (fun gg fv i wr=>∃ n:Nat,n+gg=sl.length/\fv=.bool (true && (sl.take n).all x0p)/\i=.int .i64 n/\As (wr.heap[w.heap.size]?=some (.cells #[.int .i64 0,.int .i64 a,.int .i64 b,.int .i64 0,.int .i64 0,.int .i64 0,.slice B sl.length cb,.int .i64 0] 46 (0,0))/\Pure w wr))
   case atStart=>exact⟨0,by omega,by simp,rfl,⟨HBX.o,Upd.alloc1 _ _ _⟩⟩
   case round=>
    obtain⟨n,hn,rfl,rfl,HP⟩:=hrel
    have hbx:=HP.o.1
    have z6:wr.cell? ⟨w.heap.size,6,none⟩=some (.slice B sl.length cb):=by unfold World.cell?;simp only[hbx];rfl
    have hbl:w.heap.size < wr.heap.size:=lB hbx
    by_cases hlt:n < sl.length
    ·obtain⟨x,hx⟩:=gS hlt
     obtain⟨g1,rfl⟩:∃ y,gk=y+1:=⟨gk - 1,by omega⟩
     obtain⟨bt,ot,rfl,hFb,hbb,d0,d1,d2,d3⟩:=x0j (Rp.x01 HR.o HP.o.2) hx
     have HT:=mK (show (sl.take (n+1)).all x0p=((sl.take n).all x0p && x0p x) by rw[List.take_add_one,hx];simp)
     have HRX:=mK (x2s x)
     have HN:=mK hn
     have hnl:(n:Int) < (sl.length:Int):=by omega
     have hnd:decide ((n:Int) < (sl.length:Int))=true:=decide_eq_true (by omega)
     have hwn:IntKind.i64.wrap ((n:Int)+1)=(n:Int)+1:=IntWalk.i64_in _ (by omega)
     clear hx hn hbx
     generalize x0p x=rx at *
     cases hbn:(true && (sl.take n).all x0p)
     ·have HBN:=mK hbn
      clear hbn HRX
      go_wp2
      go_roundg g1
      case measure=>omega
      case rel=>exact⟨n+1,by have:=HN.o;omega,by rw[HT.o,<- Bool.and_assoc,HBN.o];rfl,by go_num,HP⟩
     ·have HBN:=mK hbn
      clear hbn
      go_wp2_with (go_at_call 97;refine(HRX.o _).mono ?_;rintro e w2 ⟨rfl,hu⟩;have HB2:=mK ((hu.block _ hbl (fun h=>h)).trans HP.o.1);have HU2:=mK (HP.o.2.tt hu);clear hu)
      go_roundg g1
      case measure=>omega
      case rel=>exact⟨n+1,by have:=HN.o;omega,by rw[HT.o,<- Bool.and_assoc,HBN.o,Bool.true_and],by go_num,⟨HB2.o,HU2.o⟩⟩
    ·obtain rfl:n=sl.length:=by omega
     have hnd:decide ((sl.length:Int) < (sl.length:Int))=false:=decide_eq_false (by omega)
     rw[List.take_length]
     clear hbx
     cases hall:(true && sl.all x0p)
     ·have HAL:=mK hall
      clear hall
      go_wp2
      go_ret
      exact⟨by rw[HS1.o HG.o (fun ho=>by have h9:=all_right.2 (HIF.o.1 ho).2.2.2;rw[h9] at HAL;exact absurd HAL.o (by decide))];rfl,HP.o.2⟩
     ·have HAL:=mK hall
      clear hall
      go_wp2
      go_ret
      exact⟨by rw[HS0.o HG.o (HIF.o.2 ⟨by have:=HA.o;omega,by have:=HA.o;omega,by have:=HA.o;omega,all_right.1 (by simpa using HAL.o)⟩)];rfl,HP.o.2⟩
  all_goals
   have HNO:As (¬ okP):=⟨fun ho=>by
    have ho2:=HIF.o.1 ho
    have q0:=h0;have q1:=h1;have q2:=h2
    simp only[decide_eq_true_eq,decide_eq_false_iff_not] at q0 q1 q2
    first | omega | (rcases ho2 with ho2;omega)⟩
   have h3:decide (a > b)=decide (b < a):=rfl
   have h4:decide (b > 2048)=decide (2048 < b):=rfl
   rw[h1] at h3
   rw[h2] at h4
   go_enter Tryz.func176,Tryz.ntmps176
   go_wp2
   go_ret
   exact⟨by rw[HS1.o HG.o HNO.o];rfl,Upd.alloc1 _ _ _⟩
/-- What is asked of a step that puts tokens. -/
theorem dn_repl {l sl:List Tok} {f t:Int} (hne:l ≠ []) (hr:tokR.row w F A l) (hlc:l.length<=c) (hs:tokR.row w G B sl) (hsc:sl.length<=cb) (hsb:sl.length<=1048576 * 4):Dn w A c l B cb (repl f t sl):=by
 refine⟨fun W hW=>chk9_repl (Rp.x01 hs hW) hsb,fun h0 h1 h2 W hW=>?_⟩
 obtain⟨b,o,rfl⟩:=x35 hr hne
 obtain⟨h3,h4,h5,h6,_⟩:=x27.1 h1
 have hl:=x4c h0
 have h4':0<=f:=h4
 have h5':f<=t:=h5
 have h3':sl.length<=2048:=h3
 have h2':t<=(l.length:Int):=h2
 obtain⟨p,rfl⟩:=Int.eq_ofNat_of_zero_le h4'
 obtain⟨q,rfl⟩:=Int.eq_ofNat_of_zero_le (Int.le_trans h4' h5')
 have:=do_repl_some9 (A:=none) (p:=p) (q:=q) (Rp.x01 hr hW) hlc (Rp.x01 hs hW) hsc (by omega) (by omega) (by omega)
 rw[<- List.append_assoc] at this
 exact this
end Go.Proofs.YtofjodppljnlaaaGreatDoor
