/- My own texts, packed: EdT, EdW, Ed12w, Ed12t, Ed12x, EdTc, EditRanges. -/
import Derived.Test.YtofjodppljnlaaaGreatDoorP32
set_option maxRecDepth 100000
set_option maxHeartbeats 4000000
set_option linter.unusedVariables false
set_option linter.unusedSimpArgs false
variable {w w1 W:Go.World} {F G:Nat → Prop} {A B:Option Go.Addr} {cb c:Nat}
namespace Go.Proofs.YtofjodppljnlaaaGreatDoor
def withN (m:Int) (l:List Tok):Nat:=(l.filter (fun x=>decide (x.k=0) && decide (hasP x.m m))).length
def woutN (m:Int) (l:List Tok):Nat:=(l.filter (fun x=>decide (x.k=0) && !decide (hasP x.m m))).length
def seg (l:List Tok) (f t:Int):List Tok:=(l.take t.toNat).drop f.toNat
def togK (l:List Tok) (f t m:Int):Int:=if woutN m (seg l f t)=0 then 3 else 2
def x1y (l:List Tok) (f t m:Int):Int:=if x0e l f t ≠ 0 then x0e l f t else if ¬ x10 m then 1 else if withN m (seg l f t)+woutN m (seg l f t)=0 then 6 else x08 l (markS (togK l f t m) f t m)
theorem withN_le (m:Int) (l:List Tok):withN m l<=l.length:=List.length_filter_le _ _
theorem woutN_le (m:Int) (l:List Tok):woutN m l<=l.length:=List.length_filter_le _ _
theorem withN_snoc {m:Int} {l:List Tok} {k:Nat} {x:Tok} (hx:l[k]?=some x):withN m (l.take (k+1))=withN m (l.take k)+(if (decide (x.k=0) && decide (hasP x.m m))=true then 1 else 0):=by
 unfold withN
 rw[List.take_add_one,hx,List.filter_append,List.length_append]
 congr 1
 simp only[Option.toList_some,List.filter_cons,List.filter_nil]
 split <;> rfl
theorem woutN_snoc {m:Int} {l:List Tok} {k:Nat} {x:Tok} (hx:l[k]?=some x):woutN m (l.take (k+1))=woutN m (l.take k)+(if (decide (x.k=0) && !decide (hasP x.m m))=true then 1 else 0):=by
 unfold woutN
 rw[List.take_add_one,hx,List.filter_append,List.length_append]
 congr 1
 simp only[Option.toList_some,List.filter_cons,List.filter_nil]
 split <;> rfl
open Go.RowKit
theorem turned_zero (k m:Int) (l:List Tok) (p:Nat):turned k m l p 0=l:=by
 unfold turned
 rw[Nat.add_zero,List.drop_eq_nil_of_le (by rw[List.length_take];omega)]
 simp
theorem turned_len {k m:Int} {l:List Tok} {p j:Nat} (h:p+j<=l.length):(turned k m l p j).length=l.length:=by
 unfold turned
 simp only[List.length_append,List.length_take,List.length_map,List.length_drop]
 omega
theorem turned_at {k m:Int} {l:List Tok} {p j:Nat} {y:Tok} (h:l[p+j]?=some y):(turned k m l p j)[p+j]?=some y:=by
 have hl:=(List.getElem?_eq_some_iff.1 h).1
 have h1:(l.take p ++ ((l.take (p+j)).drop p).map (turnT k m)).length=p+j:=by
  simp only[List.length_append,List.length_take,List.length_map,List.length_drop]
  omega
 unfold turned
 rw[List.getElem?_append_right (by omega),h1,Nat.sub_self,List.getElem?_drop,Nat.add_zero]
 exact h
theorem turned_succ {k m:Int} {l:List Tok} {p j:Nat} {y:Tok} (h:l[p+j]?=some y):turned k m l p (j+1)=(turned k m l p j).set (p+j) (turnT k m y):=by
 have hl:=(List.getElem?_eq_some_iff.1 h).1
 have h1:(l.take p ++ ((l.take (p+j)).drop p).map (turnT k m)).length=p+j:=by
  simp only[List.length_append,List.length_take,List.length_map,List.length_drop]
  omega
 unfold turned
 rw[List.set_append_right _ _ (by omega),h1,Nat.sub_self,drop_cons h,List.set_cons_zero,show p+(j+1)=(p+j)+1 by omega,List.take_add_one,h,List.drop_append_of_le_length (by rw[List.length_take];omega),List.map_append]
 simp
/-- A token's marks are stored. -/
theorem row_mark {b o p i:Nat} {l:List Tok} {z:Tok} (m:Int) (hr:tokR.row w F (some ⟨b,o,none⟩) l) (hz:l[i]?=some z) (hp:p=o+i * 4+3) :
 tokR.row (w.setCell ⟨b,p,none⟩ (.int .i64 m)) F (some ⟨b,o,none⟩) (l.set i ⟨z.k,z.t,z.n,m⟩):=by
 have cell_ne:∀ {w:World} {b i j:Nat} {v:Value},i ≠ j->(w.setCell ⟨b,i,none⟩ v).cell? ⟨b,j,none⟩=w.cell? ⟨b,j,none⟩:=fun h=>
  World.cell?_setCell_other _ _ _ _ (by intro e;injection e with _ e2;exact h e2)
 obtain⟨b1,o1,hA,hF,hb,c0,c1,c2,c3⟩:=x0j hr hz
 cases hA
 subst hp
 have hsz:∀ (W:World) a v,(W.setCell a v).heap.size=W.heap.size:=fun W a v=>by simp[World.setCell]
 have hne:l ≠ []:=by rintro rfl;cases hz
 refine .inr ⟨b,o,rfl,hF,by simp only[hsz];exact hb,fun j x hx=>⟨x.cs,rfl,fun k u hu=>?_⟩⟩
 have hk4:k < 4:=(List.getElem?_eq_some_iff.1 hu).1
 show World.cell? _ ⟨b,o+j * 4+k,none⟩=some u
 by_cases hj:i=j
 ·subst hj
  rw[List.getElem?_set_self (List.getElem?_eq_some_iff.1 hz).1] at hx
  cases hx
  match k,hk4,hu with
  | 0,_,hu=>cases hu;rw[cell_ne (by omega)];exact c0
  | 1,_,hu=>cases hu;rw[cell_ne (by omega)];exact c1
  | 2,_,hu=>cases hu;rw[cell_ne (by omega)];exact c2
  | 3,_,hu=>cases hu;exact World.cell?_setCell_same' _ _ _ (by rw[c3];rfl)
 ·rw[List.getElem?_set_ne hj] at hx
  rw[cell_ne (by omega)]
  obtain⟨b2,o2,hA2,_,_,d0,d1,d2,d3⟩:=x0j hr hx
  cases hA2
  match k,hk4,hu with
  | 0,_,hu=>cases hu;exact d0
  | 1,_,hu=>cases hu;exact d1
  | 2,_,hu=>cases hu;exact d2
  | 3,_,hu=>cases hu;exact d3
theorem tokens1 {F0:Nat->Prop} {x0:List Tok} (hb:x0.length<=1048576) (W:World) (hu:Pure w W) {v0:Value} {blk:Nat} {e:TypeId} {fr:Nat × Nat} (hblk:W.heap[blk]?=some (.cells #[v0] e fr)) (h0:TokS w F0 v0 x0) :
 Calls Tryz.prog 153 #[.slice (some ⟨blk,0,none⟩) 1 1] W fun r w'=>(∃ b,r=.returned (.slice (some ⟨b,0,none⟩) x0.length x0.length)/\tokR.row w' (fun k=>W.heap.size<=k) (some ⟨b,0,none⟩) x0/\∀ i,w'.frozen? ⟨b,i,none⟩=false)/\Pure W w':=by
 have hr:toksR.row W (fun _=>True) (some ⟨blk,0,none⟩) [x0]:=toks_box (vs:=[v0]) hblk trivial rfl (fun j v x hv hx=>by
  match j,hv,hx with
  | 0,hv,hx=>simp at hv hx;subst hv hx;exact(h0.pure hu).fp
  | j+1,hv,hx=>simp at hv)
 have h:=tokens_own (c:=1) hr (Nat.le_refl _) (by simp) (by simp[sumL];omega)
 have e:([x0]:List (List Tok)).flatten=x0:=by simp
 rw[e] at h
 exact h
theorem do_mark {b o:Nat} {l:List Tok} {k m:Int} {p q:Nat} (hk:k=2\/k=3) (hm:x10 m) (hR:∀ x ∈ l,x0p x=true) (hr:tokR.row w F (some ⟨b,o,none⟩) l) (hlc:l.length<=c) (hb:l.length<=100000) (hp:p < q) (hq:q<=l.length) :
 Calls Tryz.prog 116 #[.slice (some ⟨b,o,none⟩) l.length c,(markS k p q m).val B cb] w (Fresh w (turned k m l p (q - p))):=by
 have hne:l ≠ []:=by rintro rfl;simp at hq;omega
 have HT:=mK (fun (W:World) (hu:Pure w W) (blk:Nat) (e:TypeId) (fr:Nat × Nat) hblk=>tokens1 (x0:=l) (by omega) W hu (blk:=blk) (e:=e) (fr:=fr) hblk (TokS.whole hr hlc rfl))
 have HAD:=mK (fun (s:Int) W=>Add_calls s m W)
 have HTK:=mK (fun (s:Int) W=>Take_calls s m W)
 have HLB:=mK (fun (k:Nat) (y:Tok) (hy:l[k]?=some y) (h0:y.k=0)=>(x5i.2 ⟨hm,right_mark (hR y (List.mem_of_getElem? hy)) h0⟩:mayV y.m m=0))
 have HNE:=mK hne
 clear hr hne hR
 unfold StepD.val markS
 rcases hk with rfl | rfl
 ·go_enter Tryz.func116,Tryz.ntmps116
  go_wp2_with (go_at_call 153;with_reducible refine(HT.o _ (((Upd.alloc1 (fun _=>False) w _).alloc _)) _ _ _ (heap_alloc2_new w _ _)).mono ?_;rintro e w3 ⟨⟨b3,rfl,hrow3,hfz⟩,hu3⟩;have HFZ:=mK hfz;obtain⟨hb1,_,hu2⟩:=x0s hu3;have HB3:=mK hb1;have HU3:=mK hu2;have HR3:=mK (Rp.x09 (G:=fun q=>w.heap.size < q) hrow3 (fun k hk=>by simp at hk;omega));obtain⟨k0,k1,k2,k3,k4,k5,k6,k7⟩:=x06 hb1;clear hb1 hu2 hu3 hrow3 hfz)
  clear k0 k1 k2 k3 k4 k5 k6 k7
  go_loopg [7] (q - p) (fun g i wr=>∃ n:Nat,p<=n/\n+g=q/\i=.int .i64 (n:Nat)/\As (tokR.row wr (fun k=>w.heap.size < k) (some ⟨b3,0,none⟩) (turned 2 m l p (n - p)))/\As (wr.heap[w.heap.size]?=w3.heap[w.heap.size]?/\Pure w wr)/\As (∀ i,wr.frozen? ⟨b3,i,none⟩=false))
  case atStart=>exact⟨p,by omega,by omega,rfl,⟨by rw[Nat.sub_self,turned_zero];exact HR3.o⟩,⟨rfl,HU3.o⟩,HFZ⟩
  case round=>
   obtain⟨n,hpn,hnq,rfl,HRW,HPW,HFW⟩:=hrel
   have hcfw:∀ i,wr.frozen? ⟨b3,i,none⟩=false:=HFW.o
   have HBW:=mK (HPW.o.1.trans HB3.o)
   obtain⟨k0,k1,k2,k3,k4,k5,k6,k7⟩:=x06 HBW.o
   by_cases hlt:n < q
   ·obtain⟨g1,rfl⟩:=sC1 (by omega:0 < gk)
    obtain⟨y,hy⟩:∃ y,l[n]?=some y:=⟨_,List.getElem?_eq_getElem (by omega)⟩
    have hy':l[p+(n - p)]?=some y:=by rw[show p+(n - p)=n by omega];exact hy
    have hyt:=turned_at (k:=2) (m:=m) hy'
    have hys:=turned_succ (k:=2) (m:=m) hy'
    rw[show p+(n - p)=n by omega] at hyt hys
    rw[show n - p+1=n+1 - p by omega] at hys
    have hnl:n < l.length:=(List.getElem?_eq_some_iff.1 hy).1
    obtain⟨b9,o9,hA9,hF9,hb9,c0,c1,c2,c3⟩:=x0j HRW.o hyt
    cases hA9
    simp only[Nat.zero_add] at c0 c1 c2 c3
    have hbw9:b3 < wr.heap.size:=hb9
    have HYT:=mK hyt
    have HYS:=mK hys
    have HF9:=mK hF9
    have HPN:=mK (And.intro hpn hnq)
    by_cases h0:y.k=0
    ·have HMY:=mK (HAD.o y.m)
     rw[HLB.o n y hy h0,if_pos rfl] at HMY
     have hyt:turnT 2 m y=⟨y.k,y.t,y.n,turnM 2 m y.m⟩:=by unfold turnT;rw[if_pos h0]
     rw[hyt] at HYS
     rw[h0] at c0
     generalize turnM 2 m y.m=tm at *
     clear hy hy' hys hyt hF9 hpn hnq h0
     go_wp2
     have HK8:=mK (show (fun v=>v.cell? ⟨b3,n * 4+3,none⟩=some (.int .i64 y.m)/\v.cell? ⟨w.heap.size,7,none⟩=some (.int .i64 m)) wr.drew from⟨c3,k7⟩)
     refine wp_region_V (P:=Tryz.prog) (fun v=>v.cell? ⟨b3,n * 4+3,none⟩=some (.int .i64 y.m)/\v.cell? ⟨w.heap.size,7,none⟩=some (.int .i64 m)) 16 (by kernel_rfl) ?_ (fun hHeld=>?_)
     ·with_reducible exact HK8.o
     refine yV 0 ?_
     refine yV 1 ?_
     refine yV 2 ?_
     refine yV 3 ?_
     (try simp only[Act.put,sA,sB,sC])
     refine yV 4 ?_
     refine yV 5 ?_
     refine yV 6 ?_
     refine zV 7 ?_
     (try simp only[Act.put,sA,sB,sC])
     refine yV 8 ?_
     refine zV 9 ?_
     refine x4b (i:=10) (by kernel_rfl) (by exact opAt rfl) (fun K hK=>?_)
     go_simp
     (go_at_call 89;refine(HMY.o _).mono ?_;rintro e w' ⟨rfl,rfl⟩)
     refine hK.out _ _ (fun _ _=>by with_reducible exact HK8.o) (fun hHeld2=>?_)
     replace hHeld:=hHeld2 (by decide) hHeld
     clear hHeld2
     clear hK K
     (try simp only[Act.put,sA,sB,sC])
     refine yV 11 ?_
     refine yV 12 ?_
     refine yV 13 ?_
     refine yV 14 ?_
     refine yV 15 ?_
     (try simp only[Act.put,sA,sB,sC])
     refine x4b (i:=16) (by kernel_rfl) (by exact opAt rfl) (fun K hK=>?_)
     go_simp
     refine hK.out _ _ (fun h=>absurd rfl h) (fun hHeld=>?_)
     clear hK K
     (try simp only[Act.put,sA,sB,sC])
     refine x6a (by kernel_rfl) ?_ _
     go_wp2
     go_roundg g1
     case measure=>omega
     case rel=>exact⟨n+1,by have:=HPN.o;omega,by have:=HPN.o;omega,by go_num,⟨by rw[HYS.o];exact Rp.x01 (row_mark tm HRW.o HYT.o (by simp)) rU.drew⟩,⟨((Upd.setCell (S:=fun k=>k=b3) (Upd.refl _ wr) (p:=⟨b3,n * 4+3,none⟩) (fun _=>rfl) _).block w.heap.size (lt_of_block HBW.o) (by have h9:=HF9.o;omega)).trans HPW.o.1,(HPW.o.2.setCell (p:=⟨b3,n * 4+3,none⟩) (fun h=>absurd h (by show ¬ b3 < w.heap.size;have h9:=HF9.o;omega)) _).drew⟩,⟨fun i=>(World.frozen?_setCell wr ⟨b3,n * 4+3,none⟩ ⟨b3,i,none⟩ _).trans (HFW.o i)⟩⟩
    ·have e0:(y.k == 0)=false:=by simpa using h0
     have hyt2:turnT 2 m y=y:=by unfold turnT;rw[if_neg h0]
     have hset:(turned 2 m l p (n - p)).set n y=turned 2 m l p (n - p):=by
      obtain⟨hl9,he9⟩:=List.getElem?_eq_some_iff.1 hyt
      rw[<- he9,List.set_getElem_self]
     rw[hyt2,hset] at HYS
     clear hy hy' hys hyt hyt2 hset hF9 hpn hnq h0
     go_wp2
     go_roundg g1
     case measure=>omega
     case rel=>exact⟨n+1,by have:=HPN.o;omega,by have:=HPN.o;omega,by go_num,⟨by rw[HYS.o];exact HRW.o⟩,HPW,HFW⟩
   ·obtain rfl:n=q:=by omega
    have hle:=turned_len (k:=2) (m:=m) (l:=l) (p:=p) (j:=n - p) (by omega)
    have HLE:=mK hle
    clear hle hpn
    go_wp2
    go_ret
    exact⟨⟨_,by rw[HLE.o];rfl,Rp.x09 HRW.o (fun k hk=>Nat.le_of_lt hk)⟩,HPW.o.2⟩
 ·go_enter Tryz.func116,Tryz.ntmps116
  go_wp2_with (go_at_call 153;with_reducible refine(HT.o _ (((Upd.alloc1 (fun _=>False) w _).alloc _)) _ _ _ (heap_alloc2_new w _ _)).mono ?_;rintro e w3 ⟨⟨b3,rfl,hrow3,hfz⟩,hu3⟩;have HFZ:=mK hfz;obtain⟨hb1,_,hu2⟩:=x0s hu3;have HB3:=mK hb1;have HU3:=mK hu2;have HR3:=mK (Rp.x09 (G:=fun q=>w.heap.size < q) hrow3 (fun k hk=>by simp at hk;omega));obtain⟨k0,k1,k2,k3,k4,k5,k6,k7⟩:=x06 hb1;clear hb1 hu2 hu3 hrow3 hfz)
  clear k0 k1 k2 k3 k4 k5 k6 k7
  go_loopg [7] (q - p) (fun g i wr=>∃ n:Nat,p<=n/\n+g=q/\i=.int .i64 (n:Nat)/\As (tokR.row wr (fun k=>w.heap.size < k) (some ⟨b3,0,none⟩) (turned 3 m l p (n - p)))/\As (wr.heap[w.heap.size]?=w3.heap[w.heap.size]?/\Pure w wr)/\As (∀ i,wr.frozen? ⟨b3,i,none⟩=false))
  case atStart=>exact⟨p,by omega,by omega,rfl,⟨by rw[Nat.sub_self,turned_zero];exact HR3.o⟩,⟨rfl,HU3.o⟩,HFZ⟩
  case round=>
   obtain⟨n,hpn,hnq,rfl,HRW,HPW,HFW⟩:=hrel
   have hcfw:∀ i,wr.frozen? ⟨b3,i,none⟩=false:=HFW.o
   have HBW:=mK (HPW.o.1.trans HB3.o)
   obtain⟨k0,k1,k2,k3,k4,k5,k6,k7⟩:=x06 HBW.o
   by_cases hlt:n < q
   ·obtain⟨g1,rfl⟩:=sC1 (by omega:0 < gk)
    obtain⟨y,hy⟩:∃ y,l[n]?=some y:=⟨_,List.getElem?_eq_getElem (by omega)⟩
    have hy':l[p+(n - p)]?=some y:=by rw[show p+(n - p)=n by omega];exact hy
    have hyt:=turned_at (k:=3) (m:=m) hy'
    have hys:=turned_succ (k:=3) (m:=m) hy'
    rw[show p+(n - p)=n by omega] at hyt hys
    rw[show n - p+1=n+1 - p by omega] at hys
    have hnl:n < l.length:=(List.getElem?_eq_some_iff.1 hy).1
    obtain⟨b9,o9,hA9,hF9,hb9,c0,c1,c2,c3⟩:=x0j HRW.o hyt
    cases hA9
    simp only[Nat.zero_add] at c0 c1 c2 c3
    have hbw9:b3 < wr.heap.size:=hb9
    have HYT:=mK hyt
    have HYS:=mK hys
    have HF9:=mK hF9
    have HPN:=mK (And.intro hpn hnq)
    by_cases h0:y.k=0
    ·have HMY:=mK (HTK.o y.m)
     rw[HLB.o n y hy h0,if_pos rfl] at HMY
     have hyt:turnT 3 m y=⟨y.k,y.t,y.n,turnM 3 m y.m⟩:=by unfold turnT;rw[if_pos h0]
     rw[hyt] at HYS
     rw[h0] at c0
     generalize turnM 3 m y.m=tm at *
     clear hy hy' hys hyt hF9 hpn hnq h0
     go_wp2
     have HK8:=mK (show (fun v=>v.cell? ⟨b3,n * 4+3,none⟩=some (.int .i64 y.m)/\v.cell? ⟨w.heap.size,7,none⟩=some (.int .i64 m)) wr.drew from⟨c3,k7⟩)
     refine wp_region_V (P:=Tryz.prog) (fun v=>v.cell? ⟨b3,n * 4+3,none⟩=some (.int .i64 y.m)/\v.cell? ⟨w.heap.size,7,none⟩=some (.int .i64 m)) 16 (by kernel_rfl) ?_ (fun hHeld=>?_)
     ·with_reducible exact HK8.o
     refine yV 0 ?_
     refine yV 1 ?_
     refine yV 2 ?_
     refine yV 3 ?_
     refine yV 4 ?_
     refine yV 5 ?_
     refine yV 6 ?_
     (try simp only[Act.put,sA,sB,sC])
     refine zV 7 ?_
     refine yV 8 ?_
     refine zV 9 ?_
     refine x4b (i:=10) (by kernel_rfl) (by exact opAt rfl) (fun K hK=>?_)
     go_simp
     (go_at_call 154;refine(HMY.o _).mono ?_;rintro e w' ⟨rfl,rfl⟩)
     refine hK.out _ _ (fun _ _=>by with_reducible exact HK8.o) (fun hHeld2=>?_)
     replace hHeld:=hHeld2 (by decide) hHeld
     clear hHeld2
     clear hK K
     (try simp only[Act.put,sA,sB,sC])
     refine yV 11 ?_
     refine yV 12 ?_
     refine yV 13 ?_
     refine yV 14 ?_
     (try simp only[Act.put,sA,sB,sC])
     refine yV 15 ?_
     refine x4b (i:=16) (by kernel_rfl) (by exact opAt rfl) (fun K hK=>?_)
     go_simp
     refine hK.out _ _ (fun h=>absurd rfl h) (fun hHeld=>?_)
     clear hK K
     (try simp only[Act.put,sA,sB,sC])
     refine x6a (by kernel_rfl) ?_ _
     go_wp2
     go_roundg g1
     case measure=>omega
     case rel=>exact⟨n+1,by have:=HPN.o;omega,by have:=HPN.o;omega,by go_num,⟨by rw[HYS.o];exact Rp.x01 (row_mark tm HRW.o HYT.o (by simp)) rU.drew⟩,⟨((Upd.setCell (S:=fun k=>k=b3) (Upd.refl _ wr) (p:=⟨b3,n * 4+3,none⟩) (fun _=>rfl) _).block w.heap.size (lt_of_block HBW.o) (by have h9:=HF9.o;omega)).trans HPW.o.1,(HPW.o.2.setCell (p:=⟨b3,n * 4+3,none⟩) (fun h=>absurd h (by show ¬ b3 < w.heap.size;have h9:=HF9.o;omega)) _).drew⟩,⟨fun i=>(World.frozen?_setCell wr ⟨b3,n * 4+3,none⟩ ⟨b3,i,none⟩ _).trans (HFW.o i)⟩⟩
    ·have e0:(y.k == 0)=false:=by simpa using h0
     have hyt2:turnT 3 m y=y:=by unfold turnT;rw[if_neg h0]
     have hset:(turned 3 m l p (n - p)).set n y=turned 3 m l p (n - p):=by
      obtain⟨hl9,he9⟩:=List.getElem?_eq_some_iff.1 hyt
      rw[<- he9,List.set_getElem_self]
     rw[hyt2,hset] at HYS
     clear hy hy' hys hyt hyt2 hset hF9 hpn hnq h0
     go_wp2
     go_roundg g1
     case measure=>omega
     case rel=>exact⟨n+1,by have:=HPN.o;omega,by have:=HPN.o;omega,by go_num,⟨by rw[HYS.o];exact HRW.o⟩,HPW,HFW⟩
   ·obtain rfl:n=q:=by omega
    have hle:=turned_len (k:=3) (m:=m) (l:=l) (p:=p) (j:=n - p) (by omega)
    have HLE:=mK hle
    clear hle hpn
    go_wp2
    go_ret
    exact⟨⟨_,by rw[HLE.o];rfl,Rp.x09 HRW.o (fun k hk=>Nat.le_of_lt hk)⟩,HPW.o.2⟩
theorem doc_mark {l:List Tok} {k f t m:Int} (hk:k=2\/k=3) (hne:l ≠ []) (hr:tokR.row w F A l) (hlc:l.length<=c)
 (h0:(x0a l).2=0) (h1:x0q (markS k f t m)=0) (h2:t<=l.length):DoC w A c l B cb (markS k f t m):=by
 obtain⟨bA,oA,rfl⟩:=x35 hr hne
 obtain⟨_,hok⟩:=x27.1 h1
 obtain⟨o1,o2,o3,o4⟩:=(markS_ok hk).1 hok
 have hl:=x4c h0
 have hR:=x65 h0
 intro W hW
 obtain⟨f,rfl⟩:=Int.eq_ofNat_of_zero_le o1
 obtain⟨t,rfl⟩:=Int.eq_ofNat_of_zero_le (Int.le_trans o1 (Int.le_of_lt o2))
 have:=do_mark (B:=B) (cb:=cb) hk o4 hR (Rp.x01 hr hW) hlc (by omega) (p:=f) (q:=t) (by omega) (by omega)
 have he:x0t l (markS k f t m)=turned k m l f (t - f):=by
  unfold x0t markS turned
  simp only[Int.toNat_natCast]
  rw[if_neg (by omega),if_neg (by omega),show f+(t - f)=t by omega]
 rw[he]
 exact this
theorem Toggle_no {n:Nat} {f t m e pe:Int} {s':StepD}
 (hp:∀ W,Pure w W->Calls Tryz.prog 83 #[deskV cb A n c,.int .i64 f,.int .i64 t] W (fun r w'=>r=.returned (.int .i64 pe)/\Pure W w'))
 (hn:(pe ≠ 0/\e=pe)\/(pe=0/\¬ x10 m/\e=1)) (hs:s'=repl 0 0 []) :
 Calls Tryz.prog 34 #[.pointer (some ⟨cb,0,none⟩),.slice A n c,.int .i64 f,.int .i64 t,.int .i64 m] w (Told s' none 0 e w):=by
 subst hs
 have HP:=mK hp
 clear hp
 unfold Told StepD.val at *
 rcases hn with ⟨p0,rfl⟩ | ⟨rfl,hm,rfl⟩
 ·have f0:(e != 0)=true:=by simpa using p0
  clear p0
  go_enter Tryz.func34,Tryz.ntmps34
  go_wp2_with (first | (go_at_call 84;refine(x0x _).mono ?_;rintro r w2 ⟨rfl,hu⟩;have HB2:=mK (kP hu HB1.o);have HU2:=mK (HU1.o.tt hu);clear hu;apply As.o) | (go_at_call 83;refine(HP.o _ (aP.alloc _)).mono ?_;rintro r w1 ⟨rfl,hu⟩;obtain⟨hb1,hb2,hu2⟩:=x0s hu;obtain⟨q0,q1⟩:=cells2 hb2;have HB1:=mK hb1;have HQ1:=mK hb2;have HU1:=mK hu2;clear hu hb1 hb2 hu2))
  refine⟨?_⟩
  have hbl:w.heap.size < w2.heap.size:=lB HB2.o
  have hcf:=fZ HB2.o
  obtain⟨k0,k1,k2,k3,k4,k5,k6,k7⟩:=x06 HB2.o
  go_wp2
  exact bodyPost_ret (step_end (rb:=w.heap.size) rfl _ rfl (set8 (rb:=w.heap.size) HB2.o _ _ _ _ _ _ _ _)) rfl ⟨rfl,x05 HU2.o (Nat.le_refl _) _ _ _ _ _ _ _ _⟩
 ·have hmv:mayV 0 m=1:=by unfold mayV;rw[if_pos hm]
  have HAD:=mK (fun W=>Add_calls 0 m W)
  rw[hmv,if_neg (by decide)] at HAD
  clear hm hmv
  go_enter Tryz.func34,Tryz.ntmps34
  go_wp2_with (first | (go_at_call 84;refine(x0x _).mono ?_;rintro r w2 ⟨rfl,hu⟩;have HB2:=mK (kP hu HB1.o);have HU2:=mK (HU1.o.tt hu);clear hu;apply As.o) | (go_at_call 89;refine(HAD.o _).mono ?_;rintro r wx ⟨rfl,hwx⟩;have hwy:=hwx.symm;clear hwx;subst hwy) | (go_at_call 83;refine(HP.o _ (aP.alloc _)).mono ?_;rintro r w1 ⟨rfl,hu⟩;obtain⟨hb1,hb2,hu2⟩:=x0s hu;obtain⟨q0,q1⟩:=cells2 hb2;have HB1:=mK hb1;have HQ1:=mK hb2;have HU1:=mK hu2;clear hu hb1 hb2 hu2))
  refine⟨?_⟩
  have hbl:w.heap.size < w2.heap.size:=lB HB2.o
  have hcf:=fZ HB2.o
  obtain⟨k0,k1,k2,k3,k4,k5,k6,k7⟩:=x06 HB2.o
  go_wp2
  exact bodyPost_ret (step_end (rb:=w.heap.size) rfl _ rfl (set8 (rb:=w.heap.size) HB2.o _ _ _ _ _ _ _ _)) rfl ⟨rfl,x05 HU2.o (Nat.le_refl _) _ _ _ _ _ _ _ _⟩
theorem Toggle_none {F:Nat->Prop} {b o:Nat} {A:Option Addr} {l:List Tok} {m e:Int} {s':StepD} {f:Nat} (hm:x10 m) (hfl:f<=l.length) (hlc:l.length<=c) (hb:l.length<=1048576 * 4)
 (hp:∀ W,Pure w W->Calls Tryz.prog 83 #[deskV cb (some ⟨b,o,none⟩) l.length c,.int .i64 (f:Nat),.int .i64 (f:Nat)] W (fun r w'=>r=.returned (.int .i64 0)/\Pure W w'))
 (hs:s'=repl 0 0 []) (he:e=6) :
 Calls Tryz.prog 34 #[.pointer (some ⟨cb,0,none⟩),.slice (some ⟨b,o,none⟩) l.length c,.int .i64 (f:Nat),.int .i64 (f:Nat),.int .i64 m] w (Told s' none 0 e w):=by
 subst hs he
 have HP:=mK hp
 have HAD:=mK (fun W=>Add_calls 0 m W)
 rw[x5i.2 ⟨hm,by decide,by decide⟩,if_pos rfl] at HAD
 generalize turnM 2 m 0=ad at *
 have i1:(0:Int)<=((f:Nat):Int):=by omega
 have i4:((f:Nat):Int)<=((c:Nat):Int):=by omega
 have i5:((l.length:Nat):Int)<=((c:Nat):Int):=by omega
 clear hp hm
 unfold Told StepD.val at *
 by_cases hcf:c=f
 ·subst hcf
  go_enter Tryz.func34,Tryz.ntmps34
  go_wp2_with (first | (go_at_call 89;refine(HAD.o _).mono ?_;rintro r wx ⟨rfl,hwx⟩;have hwy:=hwx.symm;clear hwx;subst hwy) | (go_at_call 83;refine(HP.o _ (aP.alloc _)).mono ?_;rintro r w1 ⟨rfl,hu⟩;obtain⟨hb1,hb2,hu2⟩:=x0s hu;obtain⟨q0,q1⟩:=cells2 hb2;have HB1:=mK hb1;have HQ1:=mK hb2;have HU1:=mK hu2;clear hu hb1 hb2 hu2))
  refine wp_loop_rounds 1 ?_
  rw[rounds_succ]
  go_wp2_with (go_at_call 84;refine(x0x _).mono ?_;rintro r w2 ⟨rfl,hu⟩;have HB2:=mK (kP hu HB1.o);have HU2:=mK (HU1.o.tt hu);clear hu;apply As.o)
  refine⟨?_⟩
  have hbl:w.heap.size < w2.heap.size:=lB HB2.o
  have hcf:=fZ HB2.o
  obtain⟨k0,k1,k2,k3,k4,k5,k6,k7⟩:=x06 HB2.o
  go_wp2
  exact bodyPost_ret (step_end (rb:=w.heap.size) rfl _ rfl (set8 (rb:=w.heap.size) HB2.o _ _ _ _ _ _ _ _)) rfl ⟨rfl,x05 HU2.o (Nat.le_refl _) _ _ _ _ _ _ _ _⟩
 ·go_enter Tryz.func34,Tryz.ntmps34
  go_wp2_with (first | (go_at_call 89;refine(HAD.o _).mono ?_;rintro r wx ⟨rfl,hwx⟩;have hwy:=hwx.symm;clear hwx;subst hwy) | (go_at_call 83;refine(HP.o _ (aP.alloc _)).mono ?_;rintro r w1 ⟨rfl,hu⟩;obtain⟨hb1,hb2,hu2⟩:=x0s hu;obtain⟨q0,q1⟩:=cells2 hb2;have HB1:=mK hb1;have HQ1:=mK hb2;have HU1:=mK hu2;clear hu hb1 hb2 hu2))
  refine wp_loop_rounds 1 ?_
  rw[rounds_succ]
  go_wp2_with (go_at_call 84;refine(x0x _).mono ?_;rintro r w2 ⟨rfl,hu⟩;have HB2:=mK (kP hu HB1.o);have HU2:=mK (HU1.o.tt hu);clear hu;apply As.o)
  refine⟨?_⟩
  have hbl:w.heap.size < w2.heap.size:=lB HB2.o
  have hcf:=fZ HB2.o
  obtain⟨k0,k1,k2,k3,k4,k5,k6,k7⟩:=x06 HB2.o
  go_wp2
  exact bodyPost_ret (step_end (rb:=w.heap.size) rfl _ rfl (set8 (rb:=w.heap.size) HB2.o _ _ _ _ _ _ _ _)) rfl ⟨rfl,x05 HU2.o (Nat.le_refl _) _ _ _ _ _ _ _ _⟩
theorem Toggle_some {b o:Nat} {A:Option Addr} {l:List Tok} {m e:Int} {s':StepD} {f t:Nat} (hm:x10 m) (hrow:tokR.row w F (some ⟨b,o,none⟩) l) (hlc:l.length<=c) (hb:l.length<=1048576 * 4) (hft:f < t) (htl:t<=l.length)
 (hp:∀ W,Pure w W->Calls Tryz.prog 83 #[deskV cb (some ⟨b,o,none⟩) l.length c,.int .i64 (f:Nat),.int .i64 (t:Nat)] W (fun r w'=>r=.returned (.int .i64 0)/\Pure W w'))
 (hr:0 < withN m (seg l f t)+woutN m (seg l f t)->∀ W,Pure w W->Calls Tryz.prog 91 #[deskV cb (some ⟨b,o,none⟩) l.length c,(markS (togK l f t m) f t m).val none 0] W (Told s' none 0 e W))
 (hn:withN m (seg l f t)+woutN m (seg l f t)=0->s'=repl 0 0 []/\e=6) :
 Calls Tryz.prog 34 #[.pointer (some ⟨cb,0,none⟩),.slice (some ⟨b,o,none⟩) l.length c,.int .i64 (f:Nat),.int .i64 (t:Nat),.int .i64 m] w (Told s' none 0 e w):=by
 have HP:=mK hp
 have HAD:=mK (fun W=>Add_calls 0 m W)
 rw[x5i.2 ⟨hm,by decide,by decide⟩,if_pos rfl] at HAD
 generalize turnM 2 m 0=ad at *
 have i1:(0:Int)<=((f:Nat):Int):=by omega
 have i2:((f:Nat):Int)<=((t:Nat):Int):=by omega
 have i3:(0:Int)<=((t:Nat):Int):=by omega
 have i4:((t:Nat):Int)<=((c:Nat):Int):=by omega
 have i5:((l.length:Nat):Int)<=((c:Nat):Int):=by omega
 have j2:¬ c=f:=by omega
 have HX:=mK (row_drop (row_take hrow t) f)
 have hseg:seg l f t=(l.take t).drop f:=by unfold seg;simp only[Int.toNat_natCast]
 have HSL:=mK (show ((l.take t).drop f).length=t - f by rw[List.length_drop,List.length_take];omega)
 unfold togK at hr
 rw[hseg] at hr hn
 clear hp hm hrow hseg
 generalize (l.take t).drop f=sg at *
 by_cases hz:withN m sg+woutN m sg=0
 ·obtain⟨rfl,rfl⟩:=hn hz
  have hz1:withN m sg=0:=by omega
  have hz2:woutN m sg=0:=by omega
  have HZ:=mK (And.intro hz1 hz2)
  clear hr hn hz hz1 hz2
  unfold Told StepD.val at *
  go_enter Tryz.func34,Tryz.ntmps34
  go_wp2_with (first | (go_at_call 89;refine(HAD.o _).mono ?_;rintro r wx ⟨rfl,hwx⟩;have hwy:=hwx.symm;clear hwx;subst hwy) | (go_at_call 83;refine(HP.o _ (aP.alloc _)).mono ?_;rintro r w1 ⟨rfl,hu⟩;obtain⟨hb1,hb2,hu2⟩:=x0s hu;obtain⟨q0,q1⟩:=cells2 hb2;have HB1:=mK hb1;have HQ1:=mK hb2;have HU1:=mK hu2;clear hu hb1 hb2 hu2))
  go_loopg [16,17,49] (t - f) (fun g wv ov i wr=>∃ k:Nat,k+g=t - f/\i=.int .i64 k/\wv=.int .i64 (withN m (sg.take k):Nat)/\ov=.int .i64 (woutN m (sg.take k):Nat)/\As (Pure w1 wr))
  case atStart=>exact⟨0,by omega,rfl,by simp[withN],by simp[woutN],⟨Upd.refl _ _⟩⟩
  case round=>
   obtain⟨k,hk,rfl,rfl,rfl,HW⟩:=hrel
   by_cases hlt:k < t - f
   ·obtain⟨g1,rfl⟩:=sC1 (by omega:0 < gk)
    obtain⟨x,hx⟩:∃ x,sg[k]?=some x:=⟨_,List.getElem?_eq_getElem (by have:=HSL.o;omega)⟩
    have hws:=withN_snoc (m:=m) hx
    have hos:=woutN_snoc (m:=m) hx
    have hwl:=withN_le m (sg.take k)
    have hol:=woutN_le m (sg.take k)
    rw[List.length_take] at hwl hol
    obtain⟨b9,o9,hA9,_,hb9,c0,c1,c2,c3⟩:=x0j (Rp.x01 HX.o (HU1.o.tt HW.o)) hx
    cases hA9
    have HWS:=mK hws
    have HOS:=mK hos
    have HKK:=mK hk
    clear hws hos hx hk
    generalize withN m (sg.take k)=wn at *
    generalize woutN m (sg.take k)=on at *
    have hw1:IntKind.i64.wrap ((wn:Int)+1)=(wn:Int)+1:=IntWalk.i64_in _ (by omega)
    have hw2:IntKind.i64.wrap ((on:Int)+1)=(on:Int)+1:=IntWalk.i64_in _ (by omega)
    by_cases h0:x.k=0
    ·rw[h0] at c0
     have HHX:=mK (fun W=>Has_calls x.m m W)
     cases hb:decide (hasP x.m m)
     ·rw[hb] at HHX HWS HOS
      rw[h0] at HWS HOS
      have HWS2:=mK (show withN m (sg.take (k+1))=wn from HWS.o.trans (by simp))
      have HOS2:=mK (show woutN m (sg.take (k+1))=on+1 from HOS.o.trans (by simp))
      clear hb h0 HWS HOS
      go_wp2_with (go_at_call 90;refine(HHX.o _).mono ?_;rintro e w' ⟨rfl,rfl⟩)
      go_roundg g1
      case measure=>omega
      case rel=>exact⟨k+1,by have:=HKK.o;omega,by go_num,by rw[HWS2.o],by rw[HOS2.o];go_num,⟨HW.o.alloc _⟩⟩
     ·rw[hb] at HHX HWS HOS
      rw[h0] at HWS HOS
      have HWS2:=mK (show withN m (sg.take (k+1))=wn+1 from HWS.o.trans (by simp))
      have HOS2:=mK (show woutN m (sg.take (k+1))=on from HOS.o.trans (by simp))
      clear hb h0 HWS HOS
      go_wp2_with (go_at_call 90;refine(HHX.o _).mono ?_;rintro e w' ⟨rfl,rfl⟩)
      go_roundg g1
      case measure=>omega
      case rel=>exact⟨k+1,by have:=HKK.o;omega,by go_num,by rw[HWS2.o];go_num,by rw[HOS2.o],⟨HW.o.alloc _⟩⟩
    ·have e0:(x.k != 0)=true:=by simpa using h0
     have hd:decide (x.k=0)=false:=by simpa using h0
     rw[hd] at HWS HOS
     have HWS2:=mK (show withN m (sg.take (k+1))=wn from HWS.o.trans (by simp))
     have HOS2:=mK (show woutN m (sg.take (k+1))=on from HOS.o.trans (by simp))
     clear h0 hd HWS HOS
     go_wp2
     go_roundg g1
     case measure=>omega
     case rel=>exact⟨k+1,by have:=HKK.o;omega,by go_num,by rw[HWS2.o],by rw[HOS2.o],⟨HW.o.alloc _⟩⟩
   ·obtain rfl:k=t - f:=by omega
    have htk:sg.take (t - f)=sg:=List.take_of_length_le (by have:=HSL.o;omega)
    have hwl:=withN_le m sg
    have hol:=woutN_le m sg
    have hsl:=HSL.o
    rw[htk]
    have HUR:=mK (HU1.o.tt HW.o)
    have HBR:=mK (kP HW.o HB1.o)
    obtain⟨z0,z1⟩:=cells2 (kP HW.o HQ1.o)
    rw[HZ.o.1,HZ.o.2]
    clear hwl hol hsl
    go_wp2_with (go_at_call 84;refine(x0x _).mono ?_;rintro r w2 ⟨rfl,hu⟩;have HB2:=mK (kP hu HBR.o);have HU2:=mK (HUR.o.tt hu);clear hu;apply As.o)
    refine⟨?_⟩
    have hbl:w.heap.size < w2.heap.size:=lB HB2.o
    have hcf:=fZ HB2.o
    obtain⟨k0,k1,k2,k3,k4,k5,k6,k7⟩:=x06 HB2.o
    go_wp2
    exact bodyPost_ret (step_end (rb:=w.heap.size) rfl _ rfl (set8 (rb:=w.heap.size) HB2.o _ _ _ _ _ _ _ _)) rfl ⟨rfl,x05 HU2.o (Nat.le_refl _) _ _ _ _ _ _ _ _⟩
 ·by_cases ho:woutN m sg=0
  ·rw[if_pos ho] at hr
   have HR:=mK (hr (by omega))
   have HO:=mK ho
   clear hr hn ho
   unfold Told StepD.val markS at *
   go_enter Tryz.func34,Tryz.ntmps34
   go_wp2_with (first | (go_at_call 89;refine(HAD.o _).mono ?_;rintro r wx ⟨rfl,hwx⟩;have hwy:=hwx.symm;clear hwx;subst hwy) | (go_at_call 83;refine(HP.o _ (aP.alloc _)).mono ?_;rintro r w1 ⟨rfl,hu⟩;obtain⟨hb1,hb2,hu2⟩:=x0s hu;obtain⟨q0,q1⟩:=cells2 hb2;have HB1:=mK hb1;have HQ1:=mK hb2;have HU1:=mK hu2;clear hu hb1 hb2 hu2))
   go_loopg [16,17,49] (t - f) (fun g wv ov i wr=>∃ k:Nat,k+g=t - f/\i=.int .i64 k/\wv=.int .i64 (withN m (sg.take k):Nat)/\ov=.int .i64 (woutN m (sg.take k):Nat)/\As (Pure w1 wr))
   case atStart=>exact⟨0,by omega,rfl,by simp[withN],by simp[woutN],⟨Upd.refl _ _⟩⟩
   case round=>
    obtain⟨k,hk,rfl,rfl,rfl,HW⟩:=hrel
    by_cases hlt:k < t - f
    ·obtain⟨g1,rfl⟩:=sC1 (by omega:0 < gk)
     obtain⟨x,hx⟩:∃ x,sg[k]?=some x:=⟨_,List.getElem?_eq_getElem (by have:=HSL.o;omega)⟩
     have hws:=withN_snoc (m:=m) hx
     have hos:=woutN_snoc (m:=m) hx
     have hwl:=withN_le m (sg.take k)
     have hol:=woutN_le m (sg.take k)
     rw[List.length_take] at hwl hol
     obtain⟨b9,o9,hA9,_,hb9,c0,c1,c2,c3⟩:=x0j (Rp.x01 HX.o (HU1.o.tt HW.o)) hx
     cases hA9
     have HWS:=mK hws
     have HOS:=mK hos
     have HKK:=mK hk
     clear hws hos hx hk
     generalize withN m (sg.take k)=wn at *
     generalize woutN m (sg.take k)=on at *
     have hw1:IntKind.i64.wrap ((wn:Int)+1)=(wn:Int)+1:=IntWalk.i64_in _ (by omega)
     have hw2:IntKind.i64.wrap ((on:Int)+1)=(on:Int)+1:=IntWalk.i64_in _ (by omega)
     by_cases h0:x.k=0
     ·rw[h0] at c0
      have HHX:=mK (fun W=>Has_calls x.m m W)
      cases hb:decide (hasP x.m m)
      ·rw[hb] at HHX HWS HOS
       rw[h0] at HWS HOS
       have HWS2:=mK (show withN m (sg.take (k+1))=wn from HWS.o.trans (by simp))
       have HOS2:=mK (show woutN m (sg.take (k+1))=on+1 from HOS.o.trans (by simp))
       clear hb h0 HWS HOS
       go_wp2_with (go_at_call 90;refine(HHX.o _).mono ?_;rintro e w' ⟨rfl,rfl⟩)
       go_roundg g1
       case measure=>omega
       case rel=>exact⟨k+1,by have:=HKK.o;omega,by go_num,by rw[HWS2.o],by rw[HOS2.o];go_num,⟨HW.o.alloc _⟩⟩
      ·rw[hb] at HHX HWS HOS
       rw[h0] at HWS HOS
       have HWS2:=mK (show withN m (sg.take (k+1))=wn+1 from HWS.o.trans (by simp))
       have HOS2:=mK (show woutN m (sg.take (k+1))=on from HOS.o.trans (by simp))
       clear hb h0 HWS HOS
       go_wp2_with (go_at_call 90;refine(HHX.o _).mono ?_;rintro e w' ⟨rfl,rfl⟩)
       go_roundg g1
       case measure=>omega
       case rel=>exact⟨k+1,by have:=HKK.o;omega,by go_num,by rw[HWS2.o];go_num,by rw[HOS2.o],⟨HW.o.alloc _⟩⟩
     ·have e0:(x.k != 0)=true:=by simpa using h0
      have hd:decide (x.k=0)=false:=by simpa using h0
      rw[hd] at HWS HOS
      have HWS2:=mK (show withN m (sg.take (k+1))=wn from HWS.o.trans (by simp))
      have HOS2:=mK (show woutN m (sg.take (k+1))=on from HOS.o.trans (by simp))
      clear h0 hd HWS HOS
      go_wp2
      go_roundg g1
      case measure=>omega
      case rel=>exact⟨k+1,by have:=HKK.o;omega,by go_num,by rw[HWS2.o],by rw[HOS2.o],⟨HW.o.alloc _⟩⟩
    ·obtain rfl:k=t - f:=by omega
     have htk:sg.take (t - f)=sg:=List.take_of_length_le (by have:=HSL.o;omega)
     have hwl:=withN_le m sg
     have hol:=woutN_le m sg
     have hsl:=HSL.o
     rw[htk]
     have HUR:=mK (HU1.o.tt HW.o)
     have HBR:=mK (kP HW.o HB1.o)
     obtain⟨z0,z1⟩:=cells2 (kP HW.o HQ1.o)
     rw[HO.o] at hol ⊢
     have hz9:0 < withN m sg:=by have:=HO.o;omega
     generalize withN m sg=wn at *
     have hw1:IntKind.i64.wrap ((wn:Int)+((0:Nat):Int))=(wn:Int):=by rw[IntWalk.i64_in _ (by omega)];omega
     have hw2:IntKind.i64.wrap (wn:Int)=(wn:Int):=IntWalk.i64_in _ (by omega)
     have hw3:((wn:Int) == 0)=false:=by simp;omega
     have hw4:(wn == 0)=false:=by simp;omega
     clear hwl hol hsl
     go_wp2_with (go_at_call 91;refine(HR.o _ HUR.o).mono ?_;rintro r w2 ⟨rfl,hu⟩;have HB2:=mK (kP hu HBR.o);have HU2:=mK (HUR.o.tt hu);clear hu;apply As.o)
     refine⟨?_⟩
     have hbl:w.heap.size < w2.heap.size:=lB HB2.o
     have hcf:=fZ HB2.o
     obtain⟨k0,k1,k2,k3,k4,k5,k6,k7⟩:=x06 HB2.o
     go_wp2
     exact bodyPost_ret (step_end (rb:=w.heap.size) rfl _ rfl (set8 (rb:=w.heap.size) HB2.o _ _ _ _ _ _ _ _)) rfl ⟨rfl,x05 HU2.o (Nat.le_refl _) _ _ _ _ _ _ _ _⟩
  ·rw[if_neg ho] at hr
   have HR:=mK (hr (by omega))
   have HO:=mK ho
   clear hr hn ho
   unfold Told StepD.val markS at *
   go_enter Tryz.func34,Tryz.ntmps34
   go_wp2_with (first | (go_at_call 89;refine(HAD.o _).mono ?_;rintro r wx ⟨rfl,hwx⟩;have hwy:=hwx.symm;clear hwx;subst hwy) | (go_at_call 83;refine(HP.o _ (aP.alloc _)).mono ?_;rintro r w1 ⟨rfl,hu⟩;obtain⟨hb1,hb2,hu2⟩:=x0s hu;obtain⟨q0,q1⟩:=cells2 hb2;have HB1:=mK hb1;have HQ1:=mK hb2;have HU1:=mK hu2;clear hu hb1 hb2 hu2))
   go_loopg [16,17,49] (t - f) (fun g wv ov i wr=>∃ k:Nat,k+g=t - f/\i=.int .i64 k/\wv=.int .i64 (withN m (sg.take k):Nat)/\ov=.int .i64 (woutN m (sg.take k):Nat)/\As (Pure w1 wr))
   case atStart=>exact⟨0,by omega,rfl,by simp[withN],by simp[woutN],⟨Upd.refl _ _⟩⟩
   case round=>
    obtain⟨k,hk,rfl,rfl,rfl,HW⟩:=hrel
    by_cases hlt:k < t - f
    ·obtain⟨g1,rfl⟩:=sC1 (by omega:0 < gk)
     obtain⟨x,hx⟩:∃ x,sg[k]?=some x:=⟨_,List.getElem?_eq_getElem (by have:=HSL.o;omega)⟩
     have hws:=withN_snoc (m:=m) hx
     have hos:=woutN_snoc (m:=m) hx
     have hwl:=withN_le m (sg.take k)
     have hol:=woutN_le m (sg.take k)
     rw[List.length_take] at hwl hol
     obtain⟨b9,o9,hA9,_,hb9,c0,c1,c2,c3⟩:=x0j (Rp.x01 HX.o (HU1.o.tt HW.o)) hx
     cases hA9
     have HWS:=mK hws
     have HOS:=mK hos
     have HKK:=mK hk
     clear hws hos hx hk
     generalize withN m (sg.take k)=wn at *
     generalize woutN m (sg.take k)=on at *
     have hw1:IntKind.i64.wrap ((wn:Int)+1)=(wn:Int)+1:=IntWalk.i64_in _ (by omega)
     have hw2:IntKind.i64.wrap ((on:Int)+1)=(on:Int)+1:=IntWalk.i64_in _ (by omega)
     by_cases h0:x.k=0
     ·rw[h0] at c0
      have HHX:=mK (fun W=>Has_calls x.m m W)
      cases hb:decide (hasP x.m m)
      ·rw[hb] at HHX HWS HOS
       rw[h0] at HWS HOS
       have HWS2:=mK (show withN m (sg.take (k+1))=wn from HWS.o.trans (by simp))
       have HOS2:=mK (show woutN m (sg.take (k+1))=on+1 from HOS.o.trans (by simp))
       clear hb h0 HWS HOS
       go_wp2_with (go_at_call 90;refine(HHX.o _).mono ?_;rintro e w' ⟨rfl,rfl⟩)
       go_roundg g1
       case measure=>omega
       case rel=>exact⟨k+1,by have:=HKK.o;omega,by go_num,by rw[HWS2.o],by rw[HOS2.o];go_num,⟨HW.o.alloc _⟩⟩
      ·rw[hb] at HHX HWS HOS
       rw[h0] at HWS HOS
       have HWS2:=mK (show withN m (sg.take (k+1))=wn+1 from HWS.o.trans (by simp))
       have HOS2:=mK (show woutN m (sg.take (k+1))=on from HOS.o.trans (by simp))
       clear hb h0 HWS HOS
       go_wp2_with (go_at_call 90;refine(HHX.o _).mono ?_;rintro e w' ⟨rfl,rfl⟩)
       go_roundg g1
       case measure=>omega
       case rel=>exact⟨k+1,by have:=HKK.o;omega,by go_num,by rw[HWS2.o];go_num,by rw[HOS2.o],⟨HW.o.alloc _⟩⟩
     ·have e0:(x.k != 0)=true:=by simpa using h0
      have hd:decide (x.k=0)=false:=by simpa using h0
      rw[hd] at HWS HOS
      have HWS2:=mK (show withN m (sg.take (k+1))=wn from HWS.o.trans (by simp))
      have HOS2:=mK (show woutN m (sg.take (k+1))=on from HOS.o.trans (by simp))
      clear h0 hd HWS HOS
      go_wp2
      go_roundg g1
      case measure=>omega
      case rel=>exact⟨k+1,by have:=HKK.o;omega,by go_num,by rw[HWS2.o],by rw[HOS2.o],⟨HW.o.alloc _⟩⟩
    ·obtain rfl:k=t - f:=by omega
     have htk:sg.take (t - f)=sg:=List.take_of_length_le (by have:=HSL.o;omega)
     have hwl:=withN_le m sg
     have hol:=woutN_le m sg
     have hsl:=HSL.o
     rw[htk]
     have HUR:=mK (HU1.o.tt HW.o)
     have HBR:=mK (kP HW.o HB1.o)
     obtain⟨z0,z1⟩:=cells2 (kP HW.o HQ1.o)
     have hz9:0 < woutN m sg:=by have:=HO.o;omega
     generalize withN m sg=wn at *
     generalize woutN m sg=on at *
     have hw1:IntKind.i64.wrap ((wn:Int)+(on:Int))=(wn:Int)+(on:Int):=IntWalk.i64_in _ (by omega)
     have hw3:((wn:Int)+(on:Int) == 0)=false:=by simp;omega
     have hw4:((on:Int) == 0)=false:=by simp;omega
     have hw5:(on == 0)=false:=by simp;omega
     clear hwl hol hsl
     go_wp2_with (go_at_call 91;refine(HR.o _ HUR.o).mono ?_;rintro r w2 ⟨rfl,hu⟩;have HB2:=mK (kP hu HBR.o);have HU2:=mK (HUR.o.tt hu);clear hu;apply As.o)
     refine⟨?_⟩
     have hbl:w.heap.size < w2.heap.size:=lB HB2.o
     have hcf:=fZ HB2.o
     obtain⟨k0,k1,k2,k3,k4,k5,k6,k7⟩:=x06 HB2.o
     go_wp2
     exact bodyPost_ret (step_end (rb:=w.heap.size) rfl _ rfl (set8 (rb:=w.heap.size) HB2.o _ _ _ _ _ _ _ _)) rfl ⟨rfl,x05 HU2.o (Nat.le_refl _) _ _ _ _ _ _ _ _⟩
theorem Wrap_new {T:Option Addr} {ct:Nat} {l us:List Tok} {f t:Int} (h:SchR w cb x02 x07) (hr:tokR.row w F A l) (hlc:l.length<=c) (hb:l.length<=1048576 * 4) (hx:tokR.row w G T us) (hub:us.length<=1048576) (hus:∀ x ∈ us,x.k=1) (hun:us ≠ []) :
 Calls Tryz.prog 36 #[.pointer (some ⟨cb,0,none⟩),.slice A l.length c,.int .i64 f,.int .i64 t,.slice T us.length ct] w (fun r w'=>∃ B' c',Told (toldS (arnd f t f t us.length (x1x us)) (x2n l f t us)) B' c' (x2n l f t us) w r w'/\(tokR.row w' (fun k=>w.heap.size<=k) B' (toldS (arnd f t f t us.length (x1x us)) (x2n l f t us)).sl/\(toldS (arnd f t f t us.length (x1x us)) (x2n l f t us)).sl.length<=c')/\(x2n l f t us ≠ 0->B'=none/\c'=0)):=by
 have hwl:=wrapSl_len us
 have hpos:=List.length_pos_iff.2 hun
 refine Wrap_at (pe:=x0e l f t) hx hub hus hun (fun W hW=>x34 (h.pure hW) (Rp.x01 hr hW) hb) (fun p0 ft V A1 c1 hV hrow hc1=>?_) (fun hp=>?_) (fun p0 ft=>?_) (fun he ft=>by rw[he];rfl) (fun he=>by rw[x0g he];rfl)
 ·have he:x2n l f t us=x08 l (arnd f t f t us.length (x1x us)):=by unfold x2n;rw[if_neg (by omega),if_neg ft]
  rw[he]
  exact tell_doc (s:=arnd f t f t us.length (x1x us)) (h.pure hV) (Rp.x01 hr hV) hb hrow (by show (x1x us).length<=_;omega) (fun q0 q1 q2=>doc_arnd (x3b (x16.1 p0).1) (Rp.x01 hr hV) hlc hrow hc1 (fun hz=>by rw[hz] at hwl;simp at hwl;omega) q0 q1 q2)
 ·have he:x2n l f t us=x0e l f t:=by unfold x2n;rw[if_pos hp]
  rw[he]
  exact⟨x0g hp,rfl⟩
 ·have he:x2n l f t us=6:=by unfold x2n;rw[if_neg (by omega),if_pos ft]
  rw[he]
  exact⟨x0g (by decide),rfl⟩
theorem Wrap_calls {T:Option Addr} {ct:Nat} {l us:List Tok} {f t:Int} (h:SchR w cb x02 x07) (hr:tokR.row w F A l) (hlc:l.length<=c) (hb:l.length<=1048576 * 4) (hx:tokR.row w G T us) (hub:us.length<=1048576) (hus:∀ x ∈ us,x.k=1) (hun:us ≠ []) :
 Calls Tryz.prog 36 #[.pointer (some ⟨cb,0,none⟩),.slice A l.length c,.int .i64 f,.int .i64 t,.slice T us.length ct] w (fun r w'=>∃ B' c',Told (toldS (arnd f t f t us.length (x1x us)) (x2n l f t us)) B' c' (x2n l f t us) w r w'/\(tokR.row w' (fun _=>True) B' (toldS (arnd f t f t us.length (x1x us)) (x2n l f t us)).sl/\(toldS (arnd f t f t us.length (x1x us)) (x2n l f t us)).sl.length<=c')/\(x2n l f t us ≠ 0->B'=none/\c'=0)):=
 (Wrap_new h hr hlc hb hx hub hus hun).mono fun r w' ⟨B',c',h1,⟨h2,h3⟩,h4⟩=>⟨B',c',h1,⟨Rp.x09 h2 (fun _ _=>trivial),h3⟩,h4⟩
theorem Wrap12_no {T:Option Addr} {ct n m:Nat} {f t e:Int} {s':StepD}
 (hp:∀ W,Pure w W->Calls Tryz.prog 86 #[.pointer (some ⟨cb,0,none⟩),.slice A n c,.int .i64 f,.int .i64 t] W (fun r w'=>r=.returned (.int .i64 e)/\Pure W w'))
 (he:e ≠ 0) (hs:s'=repl 0 0 []) :
 Calls Tryz.prog 37 #[.pointer (some ⟨cb,0,none⟩),.slice A n c,.int .i64 f,.int .i64 t,.slice T m ct] w (fun r w'=>∃ B' c',Told s' B' c' e w r w'/\tokR.row w' (fun _=>True) B' s'.sl):=by
 subst hs
 have HP:=mK hp
 have f0:(e != 0)=true:=by simpa using he
 clear hp he
 unfold Told StepD.val repl at *
 go_enter Tryz.func37,Tryz.ntmps37
 go_wp2_with (go_at_call 86;refine(HP.o _ aU).mono ?_;rintro r w1 ⟨rfl,hu⟩;obtain⟨hb1,hu1⟩:=x0i hu;have HB1:=mK hb1;have HU1:=mK hu1;clear hu hb1 hu1;apply As.o)
 refine⟨?_⟩
 have hbl:w.heap.size < w1.heap.size:=lB HB1.o
 have hcf:=fZ HB1.o
 obtain⟨k0,k1,k2,k3,k4,k5,k6,k7⟩:=x06 HB1.o
 go_wp2
 exact bodyPost_ret (step_end (rb:=w.heap.size) rfl _ rfl (set8 (rb:=w.heap.size) HB1.o _ _ _ _ _ _ _ _)) rfl ⟨none,0,⟨rfl,x05 HU1.o (Nat.le_refl _) _ _ _ _ _ _ _ _⟩,.inl rfl⟩
/-- What a wrap of any row is refused with. -/
def x2j (l:List Tok) (f t:Int) (us:List Tok):Int:=if x0e l f t ≠ 0 then x0e l f t else if ¬ goodW us then 1 else if f=t then 6 else x08 l (arnd f t f t us.length (x1x us))
theorem Wrap12_calls {T:Option Addr} {ct:Nat} {l us:List Tok} {f t:Int} (h:H6 w cb) (hr:tokR.row w F A l) (hlc:l.length<=c) (hb:l.length<=1048576 * 4) (hx:tokR.row w G T us) (hub:us.length<=1048576) :
 Calls Tryz.prog 37 #[.pointer (some ⟨cb,0,none⟩),.slice A l.length c,.int .i64 f,.int .i64 t,.slice T us.length ct] w (fun r w'=>∃ B' c',Told (toldS (arnd f t f t us.length (x1x us)) (x2j l f t us)) B' c' (x2j l f t us) w r w'/\tokR.row w' (fun _=>True) B' (toldS (arnd f t f t us.length (x1x us)) (x2j l f t us)).sl):=by
 have hwl:=wrapSl_len us
 by_cases p0:x0e l f t=0
 ·refine Wrap12_go hx hub (fun W hW=>(x2o (h.pure hW) (Rp.x01 hr hW) hb hlc).mono (fun _ _ h=>⟨by rw[h.1,p0],h.2⟩)) (fun hg ft V A1 c1 hV hrow hc1=>?_) (fun hg=>?_) (fun hg ft=>?_) (fun he hg ft=>by rw[he];rfl) (fun he=>by rw[x0g he];rfl)
  ·have he:x2j l f t us=x08 l (arnd f t f t us.length (x1x us)):=by unfold x2j;rw[if_neg (fun h=>h p0),if_neg (fun h=>h hg),if_neg ft]
   have hpos:=List.length_pos_iff.2 hg.1
   rw[he]
   exact x59 (h.pure hV) (Rp.x01 hr hV) hb (dn_arnd (doc_ne (x16.1 p0).1) (Rp.x01 hr hV) hlc hrow hc1 (by omega) (fun hz=>by rw[hz] at hwl;simp at hwl;omega))
  ·have he:x2j l f t us=1:=by unfold x2j;rw[if_neg (fun h=>h p0),if_pos hg]
   rw[he]
   exact⟨x0g (by decide),rfl⟩
  ·have he:x2j l f t us=6:=by unfold x2j;rw[if_neg (fun h=>h p0),if_neg (fun h=>h hg),if_pos ft]
   rw[he]
   exact⟨x0g (by decide),rfl⟩
 ·have he:x2j l f t us=x0e l f t:=by unfold x2j;rw[if_pos p0]
  rw[he]
  exact Wrap12_no (fun W hW=>x2o (h.pure hW) (Rp.x01 hr hW) hb hlc) p0 (x0g p0)
theorem Has3_calls {s m:Int} (hm:x10 m) (hs:0<=s/\s<=4) (w:World):Calls Tryz.prog 92 #[.int .i64 s,.int .i64 m] w fun r w'=>r=.returned (.bool (decide (hasP s m)))/\w=w':=by
 have HI:=mK (show isB m=true from decide_eq_true hm)
 have HR:=mK (show markB s=true from decide_eq_true hs)
 obtain⟨h1,h2⟩:=mark15 hm hs
 clear hm hs
 rcases h1 with rfl | rfl | rfl <;> rcases h2 with rfl | rfl | rfl | rfl | rfl
 all_goals
  go_enter Tryz.func92,Tryz.ntmps92
  go_wp2_with (first | (go_at_call 142;refine(is3_calls _ _).mono ?_;rintro e w1 ⟨rfl,rfl⟩;rw[HI.o]) | (go_at_call 141;refine(x3c _ _).mono ?_;rintro e w1 ⟨rfl,rfl⟩;rw[HR.o]))
  go_ret
  exact⟨rfl,rfl⟩
theorem dn_mark {l:List Tok} {k f t m:Int} (hk:k=2\/k=3) (hr:tokR.row w F A l):Dn w A c l B cb (markS k f t m):=by
 refine⟨fun W hW=>chk9_mark hk,fun h0 h1 h2 W hW=>?_⟩
 obtain⟨_,hok⟩:=x27.1 h1
 obtain⟨o1,o2,o3,o4⟩:=(markS_ok hk).1 hok
 have hl:=x4c h0
 have hR:=x65 h0
 have h2':t<=(l.length:Int):=h2
 obtain⟨f,rfl⟩:=Int.eq_ofNat_of_zero_le o1
 obtain⟨t,rfl⟩:=Int.eq_ofNat_of_zero_le (Int.le_trans o1 (Int.le_of_lt o2))
 exact done9_mark (B:=B) (cb:=cb) hk o4 (Rp.x01 hr hW) hR (by omega) (by omega) (by omega)
/-- Text was seen; all of it has the mark. -/
def fndB (m:Int) (sg:List Tok):Bool:=decide (0 < withN m sg+woutN m sg)
def allB (m:Int) (sg:List Tok):Bool:=decide (woutN m sg=0)
theorem withN_app (m:Int) (sg:List Tok) (x:Tok):withN m (sg ++ [x])=withN m sg+(if (decide (x.k=0) && decide (hasP x.m m))=true then 1 else 0):=by
 unfold withN
 rw[List.filter_append,List.length_append]
 congr 1
 simp only[List.filter_cons,List.filter_nil]
 split <;> rfl
theorem woutN_app (m:Int) (sg:List Tok) (x:Tok):woutN m (sg ++ [x])=woutN m sg+(if (decide (x.k=0) && !decide (hasP x.m m))=true then 1 else 0):=by
 unfold woutN
 rw[List.filter_append,List.length_append]
 congr 1
 simp only[List.filter_cons,List.filter_nil]
 split <;> rfl
theorem fnd_rune {m:Int} {sg:List Tok} {x:Tok} (h:x.k=0):fndB m (sg ++ [x])=true:=by
 unfold fndB
 rw[withN_app,woutN_app,h]
 refine decide_eq_true ?_
 cases decide (hasP x.m m) <;> simp <;> omega
theorem all_rune {m:Int} {sg:List Tok} {x:Tok} (h:x.k=0):allB m (sg ++ [x])=(allB m sg && decide (hasP x.m m)):=by
 unfold allB
 rw[woutN_app,h]
 cases decide (hasP x.m m) <;> simp
theorem fnd_other {m:Int} {sg:List Tok} {x:Tok} (h:x.k ≠ 0):fndB m (sg ++ [x])=fndB m sg:=by
 unfold fndB
 rw[withN_app,woutN_app,decide_eq_false h]
 simp
theorem all_other {m:Int} {sg:List Tok} {x:Tok} (h:x.k ≠ 0):allB m (sg ++ [x])=allB m sg:=by
 unfold allB
 rw[woutN_app,decide_eq_false h]
 simp
def sgN (l:List Tok) (f p:Nat):List Tok:=(l.take p).drop f
theorem sgN_snoc {l:List Tok} {f p:Nat} {x:Tok} (hx:l[p]?=some x) (h:f<=p):sgN l f (p+1)=sgN l f p ++ [x]:=by
 have:=(List.getElem?_eq_some_iff.1 hx).1
 unfold sgN
 rw[List.take_add_one,hx,List.drop_append_of_le_length (by rw[List.length_take];omega)]
 rfl
theorem sgN_nil (l:List Tok) (f:Nat):sgN l f f=[]:=List.drop_eq_nil_of_le (by rw[List.length_take];omega)
theorem Toggle12_no {n:Nat} {f t m e pe:Int} {s':StepD}
 (hp:∀ W,Pure w W->Calls Tryz.prog 86 #[.pointer (some ⟨cb,0,none⟩),.slice A n c,.int .i64 f,.int .i64 t] W (fun r w'=>r=.returned (.int .i64 pe)/\Pure W w'))
 (hn:(pe ≠ 0/\e=pe)\/(pe=0/\¬ x10 m/\e=1)) (hs:s'=repl 0 0 []) :
 Calls Tryz.prog 35 #[.pointer (some ⟨cb,0,none⟩),.slice A n c,.int .i64 f,.int .i64 t,.int .i64 m] w (Told s' none 0 e w):=by
 subst hs
 have HP:=mK hp
 clear hp
 unfold Told StepD.val repl at *
 rcases hn with ⟨p0,rfl⟩ | ⟨rfl,hm,rfl⟩
 ·have f0:(e != 0)=true:=by simpa using p0
  clear p0
  go_enter Tryz.func35,Tryz.ntmps35
  go_wp2_with (go_at_call 86;refine(HP.o _ aU).mono ?_;rintro r w1 ⟨rfl,hu⟩;obtain⟨hb1,hu1⟩:=x0i hu;have HB1:=mK hb1;have HU1:=mK hu1;clear hu hb1 hu1;apply As.o)
  refine⟨?_⟩
  have hbl:w.heap.size < w1.heap.size:=lB HB1.o
  have hcf:=fZ HB1.o
  obtain⟨k0,k1,k2,k3,k4,k5,k6,k7⟩:=x06 HB1.o
  go_wp2
  exact bodyPost_ret (step_end (rb:=w.heap.size) rfl _ rfl (set8 (rb:=w.heap.size) HB1.o _ _ _ _ _ _ _ _)) rfl ⟨rfl,x05 HU1.o (Nat.le_refl _) _ _ _ _ _ _ _ _⟩
 ·have hm:¬ (m=1\/m=2\/m=4):=hm
  have m1:(m != 1)=true:=by simp;omega
  have m2:(m != 2)=true:=by simp;omega
  have m4:(m != 4)=true:=by simp;omega
  clear hm
  go_enter Tryz.func35,Tryz.ntmps35
  go_wp2_with (go_at_call 86;refine(HP.o _ aU).mono ?_;rintro r w1 ⟨rfl,hu⟩;obtain⟨hb1,hu1⟩:=x0i hu;have HB1:=mK hb1;have HU1:=mK hu1;clear hu hb1 hu1;apply As.o)
  refine⟨?_⟩
  have hbl:w.heap.size < w1.heap.size:=lB HB1.o
  have hcf:=fZ HB1.o
  obtain⟨k0,k1,k2,k3,k4,k5,k6,k7⟩:=x06 HB1.o
  go_wp2
  exact bodyPost_ret (step_end (rb:=w.heap.size) rfl _ rfl (set8 (rb:=w.heap.size) HB1.o _ _ _ _ _ _ _ _)) rfl ⟨rfl,x05 HU1.o (Nat.le_refl _) _ _ _ _ _ _ _ _⟩
theorem Toggle12_go {b o:Nat} {l:List Tok} {m e:Int} {s':StepD} {f t:Nat} (hm:x10 m) (hrow:tokR.row w F (some ⟨b,o,none⟩) l) (hR:∀ x ∈ l,x0p x=true) (hb:l.length<=1048576 * 4) (hft:f<=t) (htl:t<=l.length)
 (hp:∀ W,Pure w W->Calls Tryz.prog 86 #[.pointer (some ⟨cb,0,none⟩),.slice (some ⟨b,o,none⟩) l.length c,.int .i64 (f:Nat),.int .i64 (t:Nat)] W (fun r w'=>r=.returned (.int .i64 0)/\Pure W w'))
 (hr:fndB m (sgN l f t)=true->∀ W,Pure w W->Calls Tryz.prog 87 #[.pointer (some ⟨cb,0,none⟩),.slice (some ⟨b,o,none⟩) l.length c,(markS (if allB m (sgN l f t)=true then 3 else 2) f t m).val none 0] W (Told s' none 0 e W))
 (hn:fndB m (sgN l f t)=false->s'=repl 0 0 []/\e=6) :
 Calls Tryz.prog 35 #[.pointer (some ⟨cb,0,none⟩),.slice (some ⟨b,o,none⟩) l.length c,.int .i64 (f:Nat),.int .i64 (t:Nat),.int .i64 m] w (Told s' none 0 e w):=by
 have HP:=mK hp
 have HX:=mK hrow
 have HRB:=mK hR
 have HT:=mK hr
 have HN:=mK hn
 have HH:=mK (fun s (hs:0<=s/\s<=4) W=>Has3_calls hm hs W)
 clear hp hrow hR hr hn
 have hm:m=1\/m=2\/m=4:=hm
 have hm':(m != 1)=false\/((m != 1)=true/\(m != 2)=false)\/((m != 1)=true/\(m != 2)=true/\(m != 4)=false):=by
  rcases hm with rfl | rfl | rfl <;> simp
 clear hm
 have HMM:=mK hm'
 clear hm'
 unfold Told StepD.val at *
 go_enter Tryz.func35,Tryz.ntmps35
 go_wp2_with (go_at_call 86;refine(HP.o _ aU).mono ?_;rintro r w1 ⟨rfl,hu⟩;obtain⟨hb1,hu1⟩:=x0i hu;have HB1:=mK hb1;have HU1:=mK hu1;clear hu hb1 hu1;apply As.o)
 have hmm:=HMM.o
 clear HMM
 rcases hmm with m1 | ⟨m1,m2⟩ | ⟨m1,m2,m4⟩
 all_goals
  refine⟨?_⟩
  go_wp2
  go_loopg [13,14,15] (t - f) (fun gg fv av i wr=>∃ p:Nat,f<=p/\p+gg=t/\i=.int .i64 p/\fv=.bool (fndB m (sgN l f p))/\av=.bool (allB m (sgN l f p))/\wr=w1)
  case atStart=>exact⟨f,Nat.le_refl _,by omega,rfl,by rw[sgN_nil];rfl,by rw[sgN_nil];rfl,rfl⟩
  case round=>
   obtain⟨p,hfp,hk,rfl,rfl,rfl,hw⟩:=hrel
   subst hw
   by_cases hlt:p < t
   ·obtain⟨x,hx⟩:∃ x,l[p]?=some x:=⟨_,List.getElem?_eq_getElem (by omega)⟩
    obtain⟨g1,rfl⟩:=sC1 (by omega:0 < gk)
    obtain⟨bt,ot,hA,_,_,d0,_,_,d3⟩:=x0j (Rp.x01 HX.o HU1.o) hx
    cases hA
    have HS:=mK (sgN_snoc hx hfp)
    have HK:=mK (And.intro hfp hk)
    have HXR:=mK (HRB.o x (List.mem_of_getElem? hx))
    have hkd:decide ((p:Int) < (t:Int))=true:=decide_eq_true (by omega)
    have i3:p < l.length:=by omega
    have hwk:IntKind.i64.wrap ((p:Int)+1)=(p:Int)+1:=IntWalk.i64_in _ (by omega)
    clear hx hk hfp
    generalize sgN l f p=sg at *
    by_cases hx0:x.k=0
    ·have HF:=mK (fnd_rune (m:=m) (sg:=sg) hx0)
     have HA:=mK (all_rune (m:=m) (sg:=sg) hx0)
     have HHX:=mK (HH.o x.m (mark_set HXR.o hx0))
     rw[hx0] at d0
     clear hx0
     generalize decide (hasP x.m m)=hv at *
     cases hav:allB m sg
     ·rw[hav] at HA
      clear hav
      go_wp2
      go_roundg g1
      case measure=>omega
      case rel=>exact⟨p+1,by have:=HK.o;omega,by have:=HK.o;omega,by go_num,by rw[HS.o,HF.o],by rw[HS.o,HA.o];rfl,rfl⟩
     ·rw[hav] at HA
      clear hav
      go_wp2_with (go_at_call 92;refine(HHX.o _).mono ?_;rintro e wx ⟨rfl,hwx⟩;have hwy:=hwx.symm;clear hwx;subst hwy)
      go_roundg g1
      case measure=>omega
      case rel=>exact⟨p+1,by have:=HK.o;omega,by have:=HK.o;omega,by go_num,by rw[HS.o,HF.o],by rw[HS.o,HA.o];rfl,rfl⟩
    ·have HF:=mK (fnd_other (m:=m) (sg:=sg) hx0)
     have HA:=mK (all_other (m:=m) (sg:=sg) hx0)
     have e0:(x.k == 0)=false:=by simpa using hx0
     clear hx0
     go_wp2
     go_roundg g1
     case measure=>omega
     case rel=>exact⟨p+1,by have:=HK.o;omega,by have:=HK.o;omega,by go_num,by rw[HS.o,HF.o],by rw[HS.o,HA.o],rfl⟩
   ·obtain rfl:p=t:=by omega
    have hkd:decide ((p:Int) < (p:Int))=false:=decide_eq_false (by omega)
    have hfx:=fun h=>HN.o h
    have hfy:=fun h=>HT.o h
    generalize allB m (sgN l f p)=av at *
    generalize fndB m (sgN l f p)=fv at *
    clear HN HT
    cases fv
    ·obtain⟨rfl,rfl⟩:=hfx rfl
     clear hfx hfy
     have hbl:w.heap.size < wr.heap.size:=lB HB1.o
     have hcf:=fZ HB1.o
     obtain⟨k0,k1,k2,k3,k4,k5,k6,k7⟩:=x06 HB1.o
     go_wp2
     exact bodyPost_ret (step_end (rb:=w.heap.size) rfl _ rfl (set8 (rb:=w.heap.size) HB1.o _ _ _ _ _ _ _ _)) rfl ⟨rfl,x05 HU1.o (Nat.le_refl _) _ _ _ _ _ _ _ _⟩
    ·have HT:=mK (hfy rfl)
     clear hfx hfy
     unfold markS at HT
     cases av
     ·rw[if_neg (by decide)] at HT
      go_wp2_with (go_at_call 87;apply As.o)
      refine⟨?_⟩
      have hp8:∀ x,Pure wr (wr.alloc x):=fun x=>Upd.alloc1 (fun _=>False) wr x
      refine(HT.o _ (HU1.o.trans (hp8 _) (fun _ _ h=>h))).mono ?_
      rintro r w9 ⟨rfl,hu⟩
      have hp9:=(hp8 _).tt hu
      have HB9:=mK (kP hp9 HB1.o)
      have HU9:=mK (HU1.o.tt hp9)
      clear hu hp8 hp9
      have hbl:w.heap.size < w9.heap.size:=lB HB9.o
      have hcf:=fZ HB9.o
      obtain⟨k0,k1,k2,k3,k4,k5,k6,k7⟩:=x06 HB9.o
      go_wp2
      exact bodyPost_ret (step_end (rb:=w.heap.size) rfl _ rfl (set8 (rb:=w.heap.size) HB9.o _ _ _ _ _ _ _ _)) rfl ⟨rfl,x05 HU9.o (Nat.le_refl _) _ _ _ _ _ _ _ _⟩
     ·rw[if_pos rfl] at HT
      go_wp2_with (go_at_call 87;apply As.o)
      refine⟨?_⟩
      have hp8:∀ x,Pure wr (wr.alloc x):=fun x=>Upd.alloc1 (fun _=>False) wr x
      refine(HT.o _ (HU1.o.trans (hp8 _) (fun _ _ h=>h))).mono ?_
      rintro r w9 ⟨rfl,hu⟩
      have hp9:=(hp8 _).tt hu
      have HB9:=mK (kP hp9 HB1.o)
      have HU9:=mK (HU1.o.tt hp9)
      clear hu hp8 hp9
      have hbl:w.heap.size < w9.heap.size:=lB HB9.o
      have hcf:=fZ HB9.o
      obtain⟨k0,k1,k2,k3,k4,k5,k6,k7⟩:=x06 HB9.o
      go_wp2
      exact bodyPost_ret (step_end (rb:=w.heap.size) rfl _ rfl (set8 (rb:=w.heap.size) HB9.o _ _ _ _ _ _ _ _)) rfl ⟨rfl,x05 HU9.o (Nat.le_refl _) _ _ _ _ _ _ _ _⟩
theorem Toggle12_calls {l:List Tok} {f t m:Int} (h:H6 w cb) (hne:l ≠ []) (hr:tokR.row w F A l) (hlc:l.length<=c) (hb:l.length<=1048576 * 4) :
 Calls Tryz.prog 35 #[.pointer (some ⟨cb,0,none⟩),.slice A l.length c,.int .i64 f,.int .i64 t,.int .i64 m] w (Told (toldS (markS (togK l f t m) f t m) (x1y l f t m)) none 0 (x1y l f t m) w):=by
 by_cases p0:x0e l f t=0
 ·by_cases hm:x10 m
  ·obtain⟨b,o,rfl⟩:=x35 hr hne
   obtain⟨q0,q1,q2,q3⟩:=x16.1 p0
   have hfc:(x0a l).2=0:=flat_of_house q0
   obtain⟨f,rfl⟩:=Int.eq_ofNat_of_zero_le q1
   obtain⟨t,rfl⟩:=Int.eq_ofNat_of_zero_le (Int.le_trans q1 q2)
   have hsg:seg l (f:Int) (t:Int)=sgN l f t:=rfl
   refine Toggle12_go hm hr (x65 hfc) hb (by omega) (by omega) (fun W hW=>(x2o (h.pure hW) (Rp.x01 hr hW) hb hlc).mono (fun _ _ h=>⟨by rw[h.1,p0],h.2⟩)) (fun hf W hW=>?_) (fun hf=>?_)
   ·have hz:0 < withN m (sgN l f t)+woutN m (sgN l f t):=of_decide_eq_true hf
    have he:x1y l f t m=x08 l (markS (togK l f t m) f t m):=by unfold x1y;rw[if_neg (fun h=>h p0),if_neg (fun h=>h hm),if_neg (by rw[hsg];omega)]
    have hk:(if allB m (sgN l f t)=true then (3:Int) else 2)=togK l f t m:=by
     unfold togK allB
     rw[hsg]
     by_cases h0:woutN m (sgN l f t)=0 <;> simp[h0]
    rw[he,hk]
    have hk2:togK l f t m=2\/togK l f t m=3:=by unfold togK;split <;> simp
    refine(x59 (B:=none) (cs:=0) (h.pure hW) (Rp.x01 hr hW) hb (dn_mark hk2 (Rp.x01 hr hW))).mono (fun r w' hh=>?_)
    have h1:toldB (none:Option Addr) (x08 l (markS (togK l f t m) f t m))=none:=by unfold toldB;split <;> rfl
    have h2:toldC 0 (x08 l (markS (togK l f t m) f t m))=0:=by unfold toldC;split <;> rfl
    rw[h1,h2] at hh
    exact hh
   ·have hz:=of_decide_eq_false hf
    have he:x1y l f t m=6:=by unfold x1y;rw[if_neg (fun h=>h p0),if_neg (fun h=>h hm),if_pos (by rw[hsg];omega)]
    rw[he]
    exact⟨x0g (by decide),rfl⟩
  ·have he:x1y l f t m=1:=by unfold x1y;rw[if_neg (fun h=>h p0),if_pos hm]
   rw[he]
   exact Toggle12_no (fun W hW=>x2o (h.pure hW) (Rp.x01 hr hW) hb hlc) (.inr ⟨p0,hm,rfl⟩) (x0g (by decide))
 ·have he:x1y l f t m=x0e l f t:=by unfold x1y;rw[if_pos p0]
  rw[he]
  exact Toggle12_no (fun W hW=>x2o (h.pure hW) (Rp.x01 hr hW) hb hlc) (.inl ⟨p0,rfl⟩) (x0g p0)
theorem Wrap_any {T:Option Addr} {ct:Nat} {l us:List Tok} {f t:Int} (h:SchR w cb x02 x07) (hr:tokR.row w F A l) (hlc:l.length<=c) (hb:l.length<=1048576 * 4) (hx:tokR.row w G T us) (hub:us.length<=1048576) :
 Calls Tryz.prog 36 #[.pointer (some ⟨cb,0,none⟩),.slice A l.length c,.int .i64 f,.int .i64 t,.slice T us.length ct] w (fun r w'=>∃ B' c',Told (toldS (arnd f t f t us.length (x1x us)) (x2j l f t us)) B' c' (x2j l f t us) w r w'/\tokR.row w' (fun _=>True) B' (toldS (arnd f t f t us.length (x1x us)) (x2j l f t us)).sl):=by
 by_cases hg:goodW us
 ·have he:x2j l f t us=x2n l f t us:=by unfold x2j x2n;rw[if_neg (fun h=>h hg:¬ ¬ goodW us)]
  rw[he]
  exact(Wrap_calls h hr hlc hb hx hub hg.2 hg.1).mono fun r w' ⟨B',c',h1,⟨h2,_⟩,_⟩=>⟨B',c',h1,h2⟩
 ·by_cases p0:x0e l f t=0
  ·have he:x2j l f t us=1:=by unfold x2j;rw[if_neg (fun h=>h p0),if_pos hg]
   rw[he,x0g (by decide)]
   exact(Wrap_bad (pe:=x0e l f t) (e:=1) hx hub (fun W hW=>x34 (h.pure hW) (Rp.x01 hr hW) hb) (.inr ⟨p0,hg,rfl⟩)).mono fun r w' h1=>⟨none,0,h1,.inl rfl⟩
  ·have he:x2j l f t us=x0e l f t:=by unfold x2j;rw[if_pos p0]
   rw[he,x0g p0]
   exact(Wrap_bad (pe:=x0e l f t) (e:=x0e l f t) hx hub (fun W hW=>x34 (h.pure hW) (Rp.x01 hr hW) hb) (.inl ⟨p0,rfl⟩)).mono fun r w' h1=>⟨none,0,h1,.inl rfl⟩
theorem togK_two (l:List Tok) (f t m:Int):togK l f t m=2\/togK l f t m=3:=by unfold togK;split <;> simp
theorem Toggle_calls {l:List Tok} {f t m:Int} (h:SchR w cb x02 x07) (hr:tokR.row w F A l) (hlc:l.length<=c) (hb:l.length<=1048576 * 4) :
 Calls Tryz.prog 34 #[.pointer (some ⟨cb,0,none⟩),.slice A l.length c,.int .i64 f,.int .i64 t,.int .i64 m] w (Told (toldS (markS (togK l f t m) f t m) (x1y l f t m)) none 0 (x1y l f t m) w):=by
 have hpl:=fun W (hW:Pure w W)=>x34 (f:=f) (t:=t) (c:=c) (h.pure hW) (Rp.x01 hr hW) hb
 by_cases p0:x0e l f t=0
 ·by_cases hm:x10 m
  ·obtain⟨hc,q0,q1,q2⟩:=x16.1 p0
   obtain⟨f,rfl⟩:=Int.eq_ofNat_of_zero_le q0
   obtain⟨t,rfl⟩:=Int.eq_ofNat_of_zero_le (Int.le_trans q0 q1)
   have hne:=x3b hc
   obtain⟨bA,oA,rfl⟩:=x35 hr hne
   rw[p0] at hpl
   by_cases hft:f=t
   ·subst hft
    have hseg:seg l (f:Int) (f:Int)=[]:=by
     unfold seg
     rw[Int.toNat_natCast]
     exact List.drop_eq_nil_of_le (by rw[List.length_take];omega)
    have he:x1y l f f m=6:=by
     unfold x1y
     rw[if_neg (by omega),if_neg (fun h=>h hm),if_pos (by rw[hseg];rfl)]
    rw[he]
    exact Toggle_none (F:=fun _=>True) (A:=none) hm (by omega) hlc hb hpl (x0g (by decide)) rfl
   ·by_cases hz:withN m (seg l f t)+woutN m (seg l f t)=0
    ·have he:x1y l f t m=6:=by
      unfold x1y
      rw[if_neg (by omega),if_neg (fun h=>h hm),if_pos hz]
     rw[he]
     exact Toggle_some (A:=none) hm hr hlc hb (by omega) (by omega) hpl (fun h9=>by omega) (fun _=>⟨x0g (by decide),rfl⟩)
    ·have he:x1y l f t m=x08 l (markS (togK l f t m) f t m):=by
      unfold x1y
      rw[if_neg (by omega),if_neg (fun h=>h hm),if_neg hz]
     rw[he]
     refine Toggle_some (A:=none) hm hr hlc hb (by omega) (by omega) hpl (fun _ W hW=>?_) (fun h9=>absurd h9 hz)
     have:=tell_doc (s:=markS (togK l f t m) f t m) (B:=none) (cs:=0) (G:=fun _=>True) (h.pure hW) (Rp.x01 hr hW) hb (.inl rfl) (by simp[markS]) (fun q0 q1 q2=>doc_mark (togK_two _ _ _ _) hne (Rp.x01 hr hW) hlc q0 q1 q2)
     have hB:toldB none (x08 l (markS (togK l f t m) f t m))=none:=by unfold toldB;split <;> rfl
     have hC:toldC 0 (x08 l (markS (togK l f t m) f t m))=0:=by unfold toldC;split <;> rfl
     rw[hB,hC] at this
     exact this
  ·have he:x1y l f t m=1:=by unfold x1y;rw[if_neg (by omega),if_pos hm]
   rw[he]
   exact Toggle_no hpl (.inr ⟨p0,hm,rfl⟩) (x0g (by decide))
 ·have he:x1y l f t m=x0e l f t:=by unfold x1y;rw[if_pos p0]
  rw[he]
  exact Toggle_no hpl (.inl ⟨p0,rfl⟩) (x0g p0)
theorem told_slR {s:StepD} {e:Int}:(toldS s e).sl=if e=0 then s.sl else []:=by unfold toldS;split <;> rfl
theorem Toggle12_any {l:List Tok} {f t m:Int} (h:H6 w cb) (hr:tokR.row w F A l) (hlc:l.length<=c) (hb:l.length<=1048576 * 4) :
 Calls Tryz.prog 35 #[.pointer (some ⟨cb,0,none⟩),.slice A l.length c,.int .i64 f,.int .i64 t,.int .i64 m] w (Told (toldS (markS (togK l f t m) f t m) (x1y l f t m)) none 0 (x1y l f t m) w):=by
 by_cases p0:x0e l f t=0
 ·exact Toggle12_calls h (doc_ne (x16.1 p0).1) hr hlc hb
 ·have he:x1y l f t m=x0e l f t:=by unfold x1y;rw[if_pos p0]
  rw[he]
  exact Toggle12_no (fun W hW=>x2o (h.pure hW) (Rp.x01 hr hW) hb hlc) (.inl ⟨p0,rfl⟩) (x0g p0)
theorem ERanges_long {T:Option Addr} {ct:Nat} {l us:List Tok} {f t m:Int} (h1:200 < l.length\/40 < us.length) :
 Calls Tryz.prog 6 #[.slice A l.length c,.int .i64 f,.int .i64 t,.int .i64 m,.slice T us.length ct] w fun r w'=>r=.returned (.bool true)/\Pure w w':=by
 cases b1:decide ((200:Int) < (l.length:Int)) <;> cases b2:decide ((40:Int) < (us.length:Int))
 all_goals first
  | (exfalso;have q1:=of_decide_eq_false b1;have q2:=of_decide_eq_false b2;omega)
  | skip
 all_goals
  have b3:decide (200 < l.length)=decide ((200:Int) < (l.length:Int)):=by simp;omega
  have b4:decide (40 < us.length)=decide ((40:Int) < (us.length:Int)):=by simp;omega
  rw[b1] at b3
  rw[b2] at b4
  clear h1
  go_enter Tryz.func6,Tryz.ntmps6
  go_wp2_with (go_at_call 28;refine(x5d _).mono ?_;rintro r w9 ⟨rfl,hu9⟩;have HU9:=mK hu9;clear hu9)
  go_ret
  exact⟨rfl,HU9.o⟩
theorem ERanges_main {T:Option Addr} {ct:Nat} {l us:List Tok} {f t m:Int} (hr:tokR.row w F A l) (hlc:l.length<=c) (hl:l.length<=200) (hx:tokR.row w G T us) (hxl:us.length<=40) :
 Calls Tryz.prog 6 #[.slice A l.length c,.int .i64 f,.int .i64 t,.int .i64 m,.slice T us.length ct] w fun r w'=>r=.returned (.bool true)/\Pure w w':=by
 have HTG:=mK (fun (W:World) (hu:Pure w W) (q:Nat) (hs:SchR W q x02 x07)=>Toggle_calls (f:=f) (t:=t) (m:=m) hs (Rp.x01 hr hu) hlc (by omega))
 have HT6:=mK (fun (W:World) (hu:Pure w W) (q:Nat) (hs:H6 W q)=>Toggle12_any (f:=f) (t:=t) (m:=m) hs (Rp.x01 hr hu) hlc (by omega))
 have HWR:=mK (fun (W:World) (hu:Pure w W) (q:Nat) (hs:SchR W q x02 x07)=>Wrap_any (ct:=ct) (f:=f) (t:=t) hs (Rp.x01 hr hu) hlc (by omega) (Rp.x01 hx hu) (by omega))
 have HW6:=mK (fun (W:World) (hu:Pure w W) (q:Nat) (hs:H6 W q)=>Wrap12_calls (ct:=ct) (f:=f) (t:=t) hs (Rp.x01 hr hu) hlc (by omega) (Rp.x01 hx hu) (by omega))
 have HSL:=mK (show (toldS (arnd f t f t us.length (x1x us)) (x2j l f t us)).sl.length<=1048576 * 4 by rw[told_slR];have:=wrapSl_len us;split <;> simp[arnd] <;> omega)
 have HSE:=mK (show (toldS (markS (togK l f t m) f t m) (x1y l f t m)).sl=[] by rw[told_slR];split <;> rfl)
 have t2:decide ((200:Int) < (l.length:Int))=false:=decide_eq_false (by omega)
 have t3:decide (200 < l.length)=false:=decide_eq_false (by omega)
 have t4:decide ((40:Int) < (us.length:Int))=false:=decide_eq_false (by omega)
 have t5:decide (40 < us.length)=false:=decide_eq_false (by omega)
 clear hr hx
 generalize toldS (markS (togK l f t m) f t m) (x1y l f t m)=s1 at *
 generalize toldS (arnd f t f t us.length (x1x us)) (x2j l f t us)=s2 at *
 generalize x1y l f t m=te at *
 generalize x2j l f t us=we at *
 have HSM2:=mK (fun W (e:Int) (A1 A2:Option Addr) (c1 c2:Nat) (F1 F2:Nat->Prop) (h1:tokR.row W F1 A1 s2.sl) (h2:tokR.row W F2 A2 s2.sl)=>x5m (c:=c1) (c':=c2) (e:=e) h1 h2 HSL.o)
 have HSM1:=mK (fun W (e:Int)=>x5m (w:=W) (F:=fun _=>True) (G:=fun _=>True) (A:=none) (B:=none) (c:=0) (c':=0) (s:=s1) (e:=e) (.inl HSE.o) (.inl HSE.o) (by rw[HSE.o];exact Nat.zero_le _))
 unfold Told StepD.val at *
 go_enter Tryz.func6,Tryz.ntmps6
 go_wp2_with (first | (go_at_call 14;refine(x5n w1).mono ?_;rintro r w2 ⟨cb6,rfl,hs,hu⟩;have HK2:=mK hs;have HS2:=mK (HS.o.pure hu);have HU2:=mK (HU1.o.tt hu);clear hu hs;apply As.o) | (go_at_call 13;refine(x4r w).mono ?_;rintro r w1 ⟨cb,rfl,hs,hu⟩;have HS:=mK hs;have HU1:=mK hu;clear hu hs))
 refine⟨?_⟩
 go_wp2_with (go_at_call 34;refine(HTG.o _ HU2.o _ HS2.o).mono ?_;rintro r w5 ⟨rfl,hu⟩;have HU5:=mK (HU2.o.tt hu);have HS5:=mK (HS2.o.pure hu);have HK5:=mK (HK2.o.pure hu);clear hu;apply As.o)
 refine⟨?_⟩
 go_wp2_with (go_at_call 35;refine(HT6.o _ (HU5.o.alloc _) _ (HK5.o.pure aU)).mono ?_;rintro r w6 ⟨rfl,hu⟩;have HP6:=mK hu;clear hu;apply As.o)
 refine⟨?_⟩
 obtain⟨hb5,hp6⟩:=x0i HP6.o
 have HB5:=mK hb5
 have HU6:=mK (HU5.o.tt hp6)
 have HS6:=mK (HS5.o.pure hp6)
 have HK6:=mK (HK5.o.pure hp6)
 clear hb5 hp6
 go_wp2_with (go_at_call 36;refine(HWR.o _ (HU6.o.alloc _) _ (HS6.o.pure aU)).mono ?_;rintro r w7 ⟨B7,c7,⟨rfl,hu⟩,hrow⟩;have HP7:=mK hu;have HR7:=mK hrow;clear hu hrow;apply As.o)
 refine⟨?_⟩
 obtain⟨hb6,hp7⟩:=x0i HP7.o
 have HB6:=mK hb6
 have HB57:=mK (kP hp7 HB5.o)
 have HU7:=mK (HU6.o.tt hp7)
 have HK7:=mK (HK6.o.pure hp7)
 clear hb6 hp7
 go_wp2_with (go_at_call 37;refine(HW6.o _ (HU7.o.alloc _) _ (HK7.o.pure aU)).mono ?_;rintro r w8 ⟨B8,c8,⟨rfl,hu⟩,hrow⟩;have HP8:=mK hu;have HR8:=mK hrow;clear hu hrow;apply As.o)
 refine⟨?_⟩
 obtain⟨hb7,hp8⟩:=x0i HP8.o
 have HB7:=mK hb7
 have HB58:=mK (kP hp8 HB57.o)
 have HB68:=mK (kP hp8 HB6.o)
 have HU8:=mK (HU7.o.tt hp8)
 have HR78:=mK (Rp.x01 HR7.o hp8)
 clear hb7 hp8
 obtain⟨a0,a1,a2,a3,a4,a5,a6,a7⟩:=x06 HB58.o
 obtain⟨d0,d1,d2,d3,d4,d5,d6,d7⟩:=x06 HB68.o
 have l5:=lt_of_block HB58.o
 have l6:=lt_of_block HB68.o
 have l7:=lt_of_block HB7.o
 go_wp2_with (go_at_call 33;refine(HSM1.o _ _).mono ?_;rintro r w9 ⟨rfl,hu⟩;have HP9:=mK hu;clear hu;apply As.o)
 refine⟨?_⟩
 obtain⟨hb8,hp9⟩:=x0i HP9.o
 have HB89:=mK hb8
 have HB79:=mK (kP hp9 HB7.o)
 have HU9:=mK (HU8.o.tt hp9)
 have HR79:=mK (Rp.x01 HR78.o hp9)
 have HR89:=mK (Rp.x01 HR8.o hp9)
 clear hb8 hp9 a0 a1 a2 a3 a4 a5 a6 a7 d0 d1 d2 d3 d4 d5 d6 d7
 obtain⟨e0,e1,e2,e3,e4,e5,e6,e7⟩:=x06 HB79.o
 obtain⟨d0,d1,d2,d3,d4,d5,d6,d7⟩:=x06 HB89.o
 have l8:=lt_of_block HB79.o
 have l9:=lt_of_block HB89.o
 go_wp2_with (first | (go_at_call 28;refine(x5d _).mono ?_;rintro r wb ⟨rfl,hu9⟩;have HUB:=mK (HUA.o.tt hu9);clear hu9) | (go_at_call 33;refine(HSM2.o _ _ _ _ _ _ _ _ HR79.o HR89.o).mono ?_;rintro r wa ⟨rfl,hu⟩;have HUA:=mK (HU9.o.tt hu);clear hu))
 go_ret
 exact⟨rfl,HUB.o⟩
theorem EditRanges_walk {T:Option Addr} {ct:Nat} {l us:List Tok} {f t m:Int} (hr:tokR.row w F A l) (hlc:l.length<=c) (hx:tokR.row w G T us) :
 Calls Tryz.prog 6 #[.slice A l.length c,.int .i64 f,.int .i64 t,.int .i64 m,.slice T us.length ct] w fun r w'=>r=.returned (.bool true)/\Pure w w':=by
 by_cases h:200 < l.length\/40 < us.length
 ·exact ERanges_long h
 ·exact ERanges_main hr hlc (by omega) hx (by omega)
end Go.Proofs.YtofjodppljnlaaaGreatDoor
