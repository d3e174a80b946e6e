/- My own texts, packed: Nest, NestI, Nest6. -/
import Derived.Test.YtofjodppljnlaaaGreatDoorP39
set_option maxRecDepth 100000
set_option maxHeartbeats 4000000
set_option linter.unusedVariables false
set_option linter.unusedSimpArgs false
variable {w w1 W:Go.World} {F G:Nat → Prop} {A B:Option Go.Addr} {cb c:Nat}
namespace Go.Proofs.YtofjodppljnlaaaGreatDoor
open Go.RowKit
theorem ntell_calls {T:Option Addr} {ct n:Nat} {s:StepD} {x:List Tok} {e:Int} (hne:s.sl ≠ []) (hx:tokR.row w G T s.sl) (hb:s.sl.length<=100000)
 (hd:∀ W B cs,Pure w W->tokR.row W (fun _=>True) B s.sl->s.sl.length<=cs->Calls Tryz.prog 96 #[.pointer (some ⟨cb,0,none⟩),.slice A n c,s.val B cs] W (DocR W x e)) :
 Calls Tryz.prog 108 #[deskV cb A n c,s.bare,.slice T s.sl.length ct] w (NTold s e w):=by
 have HX:=mK hx
 have HD:=mK hd
 have HNE:=mK hne
 clear hx hd hne
 have HW3:=mK (show Pure w (((w.alloc (.cells #[.pointer (some ⟨cb,0,none⟩),.slice A n c] 148)).alloc (.cells #[.int .i64 s.k,.int .i64 s.fr,.int .i64 s.tt,.int .i64 s.gf,.int .i64 s.gt,.int .i64 s.ins,.slice none 0 0,.int .i64 s.mark] 46)).alloc (.cells #[.int .i64 0,.int .i64 0,.int .i64 0,.int .i64 0,.int .i64 0,.int .i64 0,.slice none 0 0,.int .i64 0] 46)) from(aU.alloc _).alloc _)
 obtain⟨sk,sfr,stt,sgf,sgt,sins,ssl,smark⟩:=s
 unfold StepD.val at HD
 unfold StepD.bare
 simp only at *
 go_enter Tryz.func108,Tryz.ntmps108
 go_wp2_with (at_builtin;refine Rp.x1i tokR (c:=ct) (Rp.x0v tokR 71 _ (fun _=>False)) (Rp.x1q (Rp.x01 HX.o HW3.o) (fun _ _ h=>h)) (Fz:=fun _=>False) (fun _ h=>h.elim) rfl _ _ 22 _ 32 rfl Tryz.underlying22 x0y rfl (by decide) (by decide) rfl rfl (by simp;omega) ?_;intro v1 w2 ho1 hu2 hat;obtain⟨A1,c1,rfl,hc1,hrow1⟩:=Rp.x0c ho1;simp only[List.nil_append] at hc1 hrow1 hat;have hp2:Pure _ w2:=Upd.mono hu2 (fun k _ h=>by simp[Value.ownBlock] at h);obtain⟨hb0,hb1,hb2,hp3⟩:=three_up hp2;have HB0:=mK hb0;have HB1:=mK hb1;have HB2:=mK hb2;have HP2:=mK hp3;have HG1:=mK (Rp.x09 (G:=fun k=>w.heap.size+2 < k) hrow1 (fun k hk=>by rcases hk with hk | hk | hk;exact hk.1.elim;exact hk.elim;rcases hat with hat | ⟨b,hb,hle⟩;(rw[hat] at hk;simp[Value.ownBlock] at hk);(rw[hb] at hk;cases hk;simp at hle;omega)));have HC1:=mK hc1;clear ho1 hu2 hat hc1 hrow1 hb0 hb1 hb2 hp2 hp3;apply As.o)
 refine⟨?_⟩
 have hbl1:w.heap.size+1 < w2.heap.size:=lt_of_block HB1.o
 have hbl2:w.heap.size+2 < w2.heap.size:=lt_of_block HB2.o
 have hcf1:=fZ HB1.o
 obtain⟨q0,q1⟩:=cells2 HB0.o
 obtain⟨k0,k1,k2,k3,k4,k5,k6,k7⟩:=x06 HB1.o
 have HU9:=mK (HP2.o.setCell (p:=⟨w.heap.size+1,6,none⟩) (fun h=>absurd h (by simp)) (.slice A1 ssl.length c1))
 have HUq:=mK ((Upd.refl (fun k=>k=w.heap.size+1) w2).setCell (p:=⟨w.heap.size+1,6,none⟩) (fun _=>rfl) (.slice A1 ssl.length c1))
 have HR9:=mK (Rp.x0f HG1.o HUq.o (fun k _ h e=>by omega))
 have HB9:=mK ((HUq.o.block (w.heap.size+2) hbl2 (by omega)).trans HB2.o)
 by_cases h0:e=0
 ·subst h0
  go_wp2_with (go_at_call 96;refine(HD.o (w2.setCell ⟨w.heap.size+1,6,none⟩ (.slice A1 ssl.length c1)) A1 c1 HU9.o (Rp.x09 HR9.o (fun _ _=>trivial)) HC1.o).mono ?_;rintro r w4 hd;obtain⟨⟨B4,rfl,hrow⟩,hu⟩:=DocR.zero hd;have HB4:=mK (kP hu HB9.o);have HU4:=mK (HU9.o.tt hu);have HR4:=mK (Rp.x01 HR9.o hu);have hb5:=(hu.block (w.heap.size+1) (by simp[World.setCell];omega) (fun h=>h)).trans (show (w2.setCell ⟨w.heap.size+1,6,none⟩ (.slice A1 ssl.length c1)).heap[w.heap.size+1]?=some (.cells #[.int .i64 sk,.int .i64 sfr,.int .i64 stt,.int .i64 sgf,.int .i64 sgt,.int .i64 sins,.slice A1 ssl.length c1,.int .i64 smark] 46 (0,0)) by simp[World.setCell,Array.getElem?_modify,HB1.o]);obtain⟨m0,m1,m2,m3,m4,m5,m6,m7⟩:=x06 hb5;clear hd hu hb5 hrow;apply As.o)
  refine⟨?_⟩
  have hbl:w.heap.size+2 < w4.heap.size:=lt_of_block HB4.o
  have hcf:=fZ HB4.o
  obtain⟨z0,z1,z2,z3,z4,z5,z6,z7⟩:=x06 HB4.o
  go_wp2
  exact bodyPost_ret (step_end (rb:=w.heap.size+2) rfl _ rfl (set8 (rb:=w.heap.size+2) HB4.o _ _ _ _ _ _ _ _)) rfl ⟨A1,c1,⟨rfl,x05 HU4.o (by omega) _ _ _ _ _ _ _ _⟩,⟨Rp.x09 (Rp.x0f HR4.o (x0b rU _ _ _ _ _ _ _ _) (fun k _ h e=>by omega)) (fun k h=>by omega),HC1.o,fun h=>absurd h HNE.o⟩,fun h=>absurd rfl h⟩
 ·have HN:=mK h0
  have f0:(e != 0)=true:=by simpa using h0
  clear h0
  go_wp2_with (go_at_call 96;refine(HD.o (w2.setCell ⟨w.heap.size+1,6,none⟩ (.slice A1 ssl.length c1)) A1 c1 HU9.o (Rp.x09 HR9.o (fun _ _=>trivial)) HC1.o).mono ?_;rintro r w4 hd;obtain⟨rfl,hu⟩:=DocR.ne hd HN.o;have HB4:=mK (kP hu HB9.o);have HU4:=mK (HU9.o.tt hu);clear hd hu;apply As.o)
  refine⟨?_⟩
  have hbl:w.heap.size+2 < w4.heap.size:=lt_of_block HB4.o
  have hcf:=fZ HB4.o
  obtain⟨z0,z1,z2,z3,z4,z5,z6,z7⟩:=x06 HB4.o
  go_wp2
  exact bodyPost_ret (step_end (rb:=w.heap.size+2) rfl _ rfl (set8 (rb:=w.heap.size+2) HB4.o _ _ _ _ _ _ _ _)) rfl ⟨none,0,⟨by rw[x0g HN.o];rfl,x05 HU4.o (by omega) _ _ _ _ _ _ _ _⟩,⟨by rw[x0g HN.o];exact .inl rfl,by rw[x0g HN.o];exact Nat.zero_le _,fun _=>⟨rfl,rfl⟩⟩,fun _=>⟨rfl,rfl⟩⟩
theorem items_calls {l:List Tok} {p:Int} {cv:Value} (hr:tokR.row w F A l) (hb:l.length<=1048576 * 4) (hlc:l.length<=c) :
 Calls Tryz.prog 150 #[.agg #[cv,.slice A l.length c],.int .i64 p] w (fun r w'=>∃ v,r=.returned v/\intRS.own 3 w' (fun k=>w.heap.size<=k) v (x28 l p)/\Pure w w'):=by
 have HR:=mK hr
 have HA:=mK (fun W (hu:Pure w W) (q:Int)=>x2g (c:=c) (at':=q) (Rp.x01 hr hu) hb hlc)
 have HLT:=mK (fun q:Int=>nar_lt l q)
 have HOP:=mK (fun (q:Int) (h:x04 l q ≠ -1)=>x20 h)
 have HI0:=mK (show x28 l p=x2f l (l.length+1) (x04 l p) from rfl)
 clear hr
 go_enter Tryz.func150,Tryz.ntmps150
 go_wp2_with (go_at_call 72;refine(HA.o _ aU p).mono ?_;rintro r w1 ⟨rfl,hu⟩;obtain⟨hb1,hu1⟩:=x0i hu;have HB1:=mK hb1;have HU1:=mK hu1;clear hu hb1 hu1)
 go_loopg [5,6] (l.length+1) (fun g v i wr=>∃ (f:Nat) (q:Int),g=f/\i=.int .i64 q/\q < l.length/\q < (f:Int)/\-1<=q/\As (wr.heap[w.heap.size]?=some (.cells #[cv,.slice A l.length c] 148))/\As (ItRel w wr l p q f v))
 case atStart=>exact⟨l.length+1,x04 l p,rfl,rfl,HLT.o p,by have:=HLT.o p;omega,(by by_cases h:x04 l p=-1;omega;obtain⟨i,y,h1,_⟩:=HOP.o p h;omega),HB1,⟨[],Rp.x0v _ _ _ _,by rw[HI0.o];rfl,by simp,HU1.o⟩⟩
 case round=>
  obtain⟨f,q,hgf,rfl,hql,hqf,hq1,HB,HS⟩:=hrel
  obtain rfl:f=gk:=hgf.symm
  obtain⟨q0,q1⟩:=cells2 HB.o
  by_cases hq:q < 0
  ·have h9:¬ (0<=q):=by omega
   go_wp2
   go_ret
   obtain⟨s,ho,he,_,hp⟩:=HS.o
   refine⟨_,rfl,?_,hp⟩
   have:x2f l f q=[]:=by
    cases f with
    | zero=>rfl
    | succ f=>rw[x2f,if_pos hq]
   rw[<- he,this,List.append_nil]
   obtain⟨inner,o1,o2,o3⟩:=ho
   exact⟨inner,o1,fun k hk=>Nat.le_of_lt (o2 k hk),o3⟩
  ·obtain⟨i,rfl⟩:=Int.eq_ofNat_of_zero_le (show 0<=q by omega)
   obtain⟨f',rfl⟩:∃ f',f=f'+1:=⟨f - 1,by omega⟩
   obtain⟨x,hx⟩:∃ x,l[i]?=some x:=⟨_,List.getElem?_eq_getElem (by omega)⟩
   obtain⟨s,ho,he,hsf,hp⟩:=HS.o
   obtain⟨bA,oA,rfl,hF,hbA,c0,c1,c2,c3⟩:=x0j (Rp.x01 HR.o hp) hx
   have hst:=items_step (f:=f') hx
   have hilt:i < l.length:=by omega
   have hnx:x04 l i < (i:Int)/\-1<=x04 l i:=by
    by_cases h:x04 l i=-1
    ·omega
    ·obtain⟨j,y,h1,_,_,h2⟩:=HOP.o i h
     omega
   have HNX:=mK hnx
   have HO:=mK ho
   have HP:=mK hp
   have HE:=mK he
   clear hx ho hp he HS hF hbA c0 c2 c3 hnx
   by_cases h6:x.t=6
   ·rw[if_pos h6] at hst
    have HST:=mK hst
    have e6:(x.t == 6)=true:=by simpa using h6
    clear hst h6
    go_wp2_with (first | (go_at_call 72;refine(HA.o _ HU5.o (i:Int)).mono ?_;rintro r w6 ⟨rfl,hu⟩;have HO6:=mK (Rp.x0w HO5.o hu (fun _ _ _ h=>h));have HB6:=mK (kP hu HB5.o);have HU6:=mK (HU5.o.tt hu);clear hu) | (at_builtin;refine Rp.x0o intRS HO.o (i:Int) [.int .i64 i] rfl (Fp:=fun _=>False) (G:=fun q=>w.heap.size < q) (fun _ h=>h.elim) (fun _ h _=>h) (fun q hq=>by have h7:=HP.o.size;have h8:=lt_of_block HB.o;omega) rfl _ _ 83 _ 8 rfl Tryz.underlying83 x1n rfl (by decide) (by decide) rfl (by simp[Act.eval]) (by omega) ?_;intro v1 w5 ho1 hu1;have HO5:=mK ho1;have HU5:=mK (Upd.trans HP.o hu1 (fun q hq h=>by have:=Rp.x03 HO.o q h;omega));have HB5:=mK ((hu1.block w.heap.size (lt_of_block HB.o) (fun h=>by have:=Rp.x03 HO.o _ h;omega)).trans HB.o);obtain⟨q0',q1'⟩:=cells2 HB5.o;clear ho1 hu1))
    go_roundg f'
    case measure=>omega
    case rel=>exact⟨f',x04 l i,rfl,rfl,HLT.o _,by have:=HNX.o;omega,HNX.o.2,HB6,⟨s ++ [(i:Int)],HO6.o,by rw[<- HE.o,HST.o,List.append_assoc],by simp;omega,HU6.o⟩⟩
   ·rw[if_neg h6,List.nil_append] at hst
    have HST:=mK hst
    have e6:(x.t == 6)=false:=by simpa using h6
    clear hst h6
    go_wp2_with (go_at_call 72;refine(HA.o _ HP.o (i:Int)).mono ?_;rintro r w6 ⟨rfl,hu⟩;have HO6:=mK (Rp.x0w HO.o hu (fun _ _ _ h=>h));have HB6:=mK (kP hu HB.o);have HU6:=mK (HP.o.tt hu);clear hu)
    go_roundg f'
    case measure=>omega
    case rel=>exact⟨f',x04 l i,rfl,rfl,HLT.o _,by have:=HNX.o;omega,HNX.o.2,HB6,⟨s,HO6.o,by rw[<- HE.o,HST.o],by omega,HU6.o⟩⟩
theorem item_calls {l:List Tok} {p:Int} (hr:tokR.row w F A l) (hb:l.length<=2048) (hlc:l.length<=c) :
 Calls Tryz.prog 106 #[deskV cb A l.length c,.int .i64 p] w (fun r w'=>r=.returned (.tuple #[.int .i64 (itemV l p).1,.int .i64 (itemV l p).2.1,.int .i64 (itemV l p).2.2.1,.bool (itemV l p).2.2.2])/\Pure w w'):=by
 have HI:=mK (fun W (hu:Pure w W)=>items_calls (p:=p) (cv:=.pointer (some ⟨cb,0,none⟩)) (Rp.x01 hr hu) (by omega) hlc)
 unfold itemV
 cases hs:x28 l p with
 | nil=>
   rw[hs] at HI
   simp only
   clear hr hs
   go_enter Tryz.func106,Tryz.ntmps106
   go_wp2_with (go_at_call 150;refine(HI.o _ aU).mono ?_;rintro r w1 ⟨v,rfl,ho,hu⟩;obtain⟨A1,c1,rfl,hc1,hrow1⟩:=Rp.x0c ho;obtain⟨hb1,hu1⟩:=x0i hu;have HU1:=mK hu1;clear ho hu hc1 hrow1 hb1 hu1)
   go_simp
   refine bodyPost_ret (results_tmp4 rfl _ _ _) rfl ?_
   exact⟨rfl,HU1.o⟩
 | cons x r=>
   rw[hs] at HI
   obtain⟨i,y,rfl,hy,hy1,_,_⟩:=items_open (l:=l) (l.length+1) p x (by
    have:x28 l p=x2f l (l.length+1) (x04 l p):=rfl
    rw[<- this,hs];simp)
   have HA:=mK (fun W (hu:Pure w W)=>x2g (c:=c) (at':=(i:Int)) (Rp.x01 hr hu) (by omega) hlc)
   have HP:=mK (fun W (hu:Pure w W)=>x5s (c:=c) (Rp.x01 hr hu) (by omega) hlc hy hy1)
   have hbd:=x3i (i:=i) hb
   have hw1:IntKind.i64.wrap (partL l i+1)=partL l i+1:=IntWalk.i64_in _ (by omega)
   simp only[Int.toNat_natCast]
   have hge:decide (x04 l (i:Int) >= 0)=decide (0<=x04 l (i:Int)):=rfl
   clear hr hs hy hy1
   generalize x04 l (i:Int)=ar at *
   generalize partL l i=pt at *
   go_enter Tryz.func106,Tryz.ntmps106
   go_wp2_with (go_at_call 150;refine(HI.o _ aU).mono ?_;rintro r1 w1 ⟨v,rfl,ho,hu⟩;obtain⟨hb1,hu1⟩:=x0i hu;have HB1:=mK hb1;obtain⟨q0,q1⟩:=cells2 hb1;have HU1:=mK hu1;have HO1:=mK ho;clear ho hu hb1 hu1;apply As.o)
   refine⟨?_⟩
   obtain⟨a,cc,rfl⟩:=Rp.own_val HO1.o (by simp)
   obtain⟨b,rfl,hbb,hc⟩:=int_own_at HO1.o (j:=0) rfl
   rw[List.length_cons]
   go_wp2_with (first | (go_at_call 103;refine(HP.o _ HU2.o).mono ?_;rintro r2 w3 ⟨rfl,hu⟩;have HU3:=mK (HU2.o.tt hu);clear hu) | (go_at_call 72;refine(HA.o _ HU1.o).mono ?_;rintro r2 w2 ⟨rfl,hu⟩;have hb2:=kP hu HB1.o;obtain⟨q0',q1'⟩:=cells2 hb2;have HU2:=mK (HU1.o.tt hu);clear hu hb2))
   go_simp
   refine bodyPost_ret (results_tmp4 rfl _ _ _) rfl ?_
   exact⟨rfl,HU3.o⟩
theorem x4m {s:StepD} {e pe:Int} {w':World} (he:e=pe) (hn:pe ≠ 0) (hp:Pure w w'):NTold s e w (.returned (.tuple #[step0,.int .i64 pe])) w':=by
 subst he
 refine⟨none,0,⟨by rw[x0g hn];rfl,hp⟩,⟨by rw[x0g hn];exact .inl rfl,by rw[x0g hn];exact Nat.zero_le _,fun _=>⟨rfl,rfl⟩⟩,fun _=>⟨rfl,rfl⟩⟩
theorem Partner_shut {l:List Tok} {i:Nat} {y:Tok} (hr:tokR.row w F A l) (hb:l.length<=1048576 * 4) (hlc:l.length<=c) (hy:l[i]?=some y) (h2:y.k=2) :
 Calls Tryz.prog 103 #[.slice A l.length c,.int .i64 i] w fun e w'=>e=.returned (.int .i64 (x04 l i))/\Pure w w':=by
 have hil:i < l.length:=(List.getElem?_eq_some_iff.1 hy).1
 have HA:=mK (x2g (c:=c) (at':=(i:Int)) hr hb hlc)
 obtain⟨by',oy',rfl,_,hby,f0,f1,f2,f3⟩:=x0j hr hy
 rw[h2] at f0
 have t1:decide ((i:Int) < 0)=false:=by simp
 have t2:decide ((i:Int) >= (l.length:Int))=false:=by simp;omega
 have t6:decide (l.length<=i)=false:=by simp;omega
 clear hr hy h2
 go_enter Tryz.func103,Tryz.ntmps103
 go_wp2_with (go_at_call 72;refine HA.o.mono ?_;rintro r w1 ⟨rfl,hu⟩;have HU1:=mK hu;clear hu)
 go_ret
 exact⟨rfl,HU1.o⟩
theorem x5r {l:List Tok} {p pe x en li out pl po e:Int} {ok:Bool} {s':StepD} (hrow:tokR.row w F A l) (hb:l.length<=2048) (hen:-1<=en/\en<=3000)
 (hp:∀ W,Pure w W->Calls Tryz.prog 105 #[deskV cb A l.length c,.int .i64 p] W (fun r w'=>r=.returned (.int .i64 pe)/\Pure W w'))
 (hi:∀ W,Pure w W->Calls Tryz.prog 106 #[deskV cb A l.length c,.int .i64 p] W (fun r w'=>r=.returned (.tuple #[.int .i64 x,.int .i64 en,.int .i64 li,.bool ok])/\Pure W w'))
 (ha:pe=0->ok=true->∀ W,Pure w W->Calls Tryz.prog 72 #[.slice A l.length c,.int .i64 li] W (fun r w'=>r=.returned (.int .i64 out)/\Pure W w'))
 (h1:pe=0->ok=true->0<=out->∀ W,Pure w W->Calls Tryz.prog 103 #[.slice A l.length c,.int .i64 li] W (fun r w'=>r=.returned (.int .i64 pl)/\Pure W w'))
 (h2:pe=0->ok=true->0<=out->∀ W,Pure w W->Calls Tryz.prog 103 #[.slice A l.length c,.int .i64 out] W (fun r w'=>r=.returned (.int .i64 po)/\Pure W w'))
 (hn:(pe ≠ 0/\e=pe)\/(pe=0/\e=6/\ok=false)\/(pe=0/\e=6/\ok=true/\out < 0)\/(pe=0/\e=6/\ok=true/\∃ (q:Nat) (y:Tok),out=q/\l[q]?=some y/\(y.t ≠ 6\/(y.t=6/\pl ≠ en)\/(y.t=6/\pl=en/\po ≠ en+1)))) :
 Calls Tryz.prog 53 #[.pointer (some ⟨cb,0,none⟩),.slice A l.length c,.int .i64 p] w (NTold s' e w):=by
 have HP:=mK hp
 have HI:=mK hi
 have HR:=mK hrow
 have hw1:IntKind.i64.wrap (en+1)=en+1:=IntWalk.i64_in _ (by omega)
 clear hp hi hrow hen
 rcases hn with ⟨p0,he⟩ | ⟨rfl,he,rfl⟩ | ⟨rfl,he,rfl,o0⟩ | ⟨rfl,he,rfl,q,y,rfl,hy,hc⟩
 ·have HE:=mK he
  have HN:=mK (show (pe:Int) ≠ 0 by assumption)
  have f0:(pe != 0)=true:=by simpa using p0
  clear p0 ha h1 h2
  clear he
  go_enter Tryz.func53,Tryz.ntmps53
  go_wp2_with (go_at_call 105;refine(HP.o _ (aP.alloc _)).mono ?_;rintro r w1 ⟨rfl,hu⟩;obtain⟨hb1,hb2,hu2⟩:=x0s hu;obtain⟨q0,q1⟩:=cells2 hb2;have HB1:=mK hb1;have HQ1:=mK hb2;have HU1:=mK hu2;clear hu hb1 hb2 hu2;apply As.o)
  refine⟨?_⟩
  have hbl:w.heap.size < w1.heap.size:=lt_of_block HB1.o
  have hcf:=fZ HB1.o
  obtain⟨k0,k1,k2,k3,k4,k5,k6,k7⟩:=x06 HB1.o
  go_wp2
  exact bodyPost_ret (step_end (rb:=w.heap.size) rfl _ rfl (set8 (rb:=w.heap.size) HB1.o _ _ _ _ _ _ _ _)) rfl (x4m HE.o HN.o (x05 HU1.o (Nat.le_refl _) _ _ _ _ _ _ _ _))
 ·have HE:=mK he
  have HN:=mK (show (6:Int) ≠ 0 by decide)
  clear ha h1 h2
  clear he
  go_enter Tryz.func53,Tryz.ntmps53
  go_wp2_with (first | (go_at_call 106;with_reducible refine(HI.o w1 HU1.o).mono ?_;rintro r w2 ⟨rfl,hu⟩;have HB2:=mK (kP hu HB1.o);have HQ2:=mK (kP hu HQ1.o);have q2:=cells2 HQ2.o;have HU2:=mK (HU1.o.tt hu);clear hu;apply As.o) | (go_at_call 105;refine(HP.o _ (aP.alloc _)).mono ?_;rintro r w1 ⟨rfl,hu⟩;obtain⟨hb1,hb2,hu2⟩:=x0s hu;obtain⟨q0,q1⟩:=cells2 hb2;have HB1:=mK hb1;have HQ1:=mK hb2;have HU1:=mK hu2;clear hu hb1 hb2 hu2))
  refine⟨?_⟩
  have hbl:w.heap.size < w2.heap.size:=lt_of_block HB2.o
  have hcf:=fZ HB2.o
  obtain⟨k0,k1,k2,k3,k4,k5,k6,k7⟩:=x06 HB2.o
  go_wp2
  exact bodyPost_ret (step_end (rb:=w.heap.size) rfl _ rfl (set8 (rb:=w.heap.size) HB2.o _ _ _ _ _ _ _ _)) rfl (x4m HE.o HN.o (x05 HU2.o (Nat.le_refl _) _ _ _ _ _ _ _ _))
 ·have HE:=mK he
  have HN:=mK (show (6:Int) ≠ 0 by decide)
  have HA:=mK (ha rfl rfl)
  have g0:decide (out < 0)=true:=by simpa using o0
  clear o0 ha h1 h2
  clear he
  go_enter Tryz.func53,Tryz.ntmps53
  go_wp2_with (first | (go_at_call 72;with_reducible refine(HA.o w2 HU2.o).mono ?_;rintro r w3 ⟨rfl,hu⟩;have HB3:=mK (kP hu HB2.o);have HQ3:=mK (kP hu HQ2.o);have q3:=cells2 HQ3.o;have HU3:=mK (HU2.o.tt hu);clear hu;apply As.o) | (go_at_call 106;with_reducible refine(HI.o w1 HU1.o).mono ?_;rintro r w2 ⟨rfl,hu⟩;have HB2:=mK (kP hu HB1.o);have HQ2:=mK (kP hu HQ1.o);have q2:=cells2 HQ2.o;have HU2:=mK (HU1.o.tt hu);clear hu) | (go_at_call 105;refine(HP.o _ (aP.alloc _)).mono ?_;rintro r w1 ⟨rfl,hu⟩;obtain⟨hb1,hb2,hu2⟩:=x0s hu;obtain⟨q0,q1⟩:=cells2 hb2;have HB1:=mK hb1;have HQ1:=mK hb2;have HU1:=mK hu2;clear hu hb1 hb2 hu2))
  refine⟨?_⟩
  have hbl:w.heap.size < w3.heap.size:=lt_of_block HB3.o
  have hcf:=fZ HB3.o
  obtain⟨k0,k1,k2,k3,k4,k5,k6,k7⟩:=x06 HB3.o
  go_wp2
  exact bodyPost_ret (step_end (rb:=w.heap.size) rfl _ rfl (set8 (rb:=w.heap.size) HB3.o _ _ _ _ _ _ _ _)) rfl (x4m HE.o HN.o (x05 HU3.o (Nat.le_refl _) _ _ _ _ _ _ _ _))
 ·have HE:=mK he
  have HA:=mK (ha rfl rfl)
  have H1:=mK (h1 rfl rfl (by omega))
  have H2:=mK (h2 rfl rfl (by omega))
  have HN:=mK (show (6:Int) ≠ 0 by decide)
  have ql:q < l.length:=(List.getElem?_eq_some_iff.1 hy).1
  obtain⟨bA,oA,rfl,hF,hbA,c0,c1,c2,c3⟩:=x0j HR.o hy
  have HBA:=mK hbA
  have HC1:=mK c1
  have g0:decide ((q:Int) < 0)=false:=by simp
  clear he hy hF hbA c0 c1 c2 c3 ha h1 h2
  have X3:=fun (v:World) (hu:Pure w v)=>(hu.cell HBA.o (fun h=>h)).trans HC1.o
  have HX3:=mK X3
  clear X3
  rcases hc with hc | ⟨hc,h9⟩ | ⟨hc,h9,h8⟩
  ·have f1:(y.t != 6)=true:=by simpa using hc
   clear hc
   go_enter Tryz.func53,Tryz.ntmps53
   go_wp2_with (first | (go_at_call 72;with_reducible refine(HA.o w2 HU2.o).mono ?_;rintro r w3 ⟨rfl,hu⟩;have HB3:=mK (kP hu HB2.o);have HQ3:=mK (kP hu HQ2.o);have q3:=cells2 HQ3.o;have HU3:=mK (HU2.o.tt hu);clear hu;have c9:=HX3.o _ HU3.o;apply As.o) | (go_at_call 106;with_reducible refine(HI.o w1 HU1.o).mono ?_;rintro r w2 ⟨rfl,hu⟩;have HB2:=mK (kP hu HB1.o);have HQ2:=mK (kP hu HQ1.o);have q2:=cells2 HQ2.o;have HU2:=mK (HU1.o.tt hu);clear hu) | (go_at_call 105;refine(HP.o _ (aP.alloc _)).mono ?_;rintro r w1 ⟨rfl,hu⟩;obtain⟨hb1,hb2,hu2⟩:=x0s hu;obtain⟨q0,q1⟩:=cells2 hb2;have HB1:=mK hb1;have HQ1:=mK hb2;have HU1:=mK hu2;clear hu hb1 hb2 hu2))
   refine⟨?_⟩
   have hbl:w.heap.size < w3.heap.size:=lt_of_block HB3.o
   have hcf:=fZ HB3.o
   obtain⟨k0,k1,k2,k3,k4,k5,k6,k7⟩:=x06 HB3.o
   go_wp2
   exact bodyPost_ret (step_end (rb:=w.heap.size) rfl _ rfl (set8 (rb:=w.heap.size) HB3.o _ _ _ _ _ _ _ _)) rfl (x4m HE.o HN.o (x05 HU3.o (Nat.le_refl _) _ _ _ _ _ _ _ _))
  ·have f1:(y.t != 6)=false:=by simp[hc]
   have f2:(pl != en)=true:=by simpa using h9
   clear hc h9
   go_enter Tryz.func53,Tryz.ntmps53
   go_wp2_with (first | (go_at_call 103;with_reducible refine(H1.o w3 HU3.o).mono ?_;rintro r w4 ⟨rfl,hu⟩;have HB4:=mK (kP hu HB3.o);have HQ4:=mK (kP hu HQ3.o);have q4:=cells2 HQ4.o;have HU4:=mK (HU3.o.tt hu);clear hu;apply As.o) | (go_at_call 72;with_reducible refine(HA.o w2 HU2.o).mono ?_;rintro r w3 ⟨rfl,hu⟩;have HB3:=mK (kP hu HB2.o);have HQ3:=mK (kP hu HQ2.o);have q3:=cells2 HQ3.o;have HU3:=mK (HU2.o.tt hu);clear hu;have c9:=HX3.o _ HU3.o) | (go_at_call 106;with_reducible refine(HI.o w1 HU1.o).mono ?_;rintro r w2 ⟨rfl,hu⟩;have HB2:=mK (kP hu HB1.o);have HQ2:=mK (kP hu HQ1.o);have q2:=cells2 HQ2.o;have HU2:=mK (HU1.o.tt hu);clear hu) | (go_at_call 105;refine(HP.o _ (aP.alloc _)).mono ?_;rintro r w1 ⟨rfl,hu⟩;obtain⟨hb1,hb2,hu2⟩:=x0s hu;obtain⟨q0,q1⟩:=cells2 hb2;have HB1:=mK hb1;have HQ1:=mK hb2;have HU1:=mK hu2;clear hu hb1 hb2 hu2))
   refine⟨?_⟩
   have hbl:w.heap.size < w4.heap.size:=lt_of_block HB4.o
   have hcf:=fZ HB4.o
   obtain⟨k0,k1,k2,k3,k4,k5,k6,k7⟩:=x06 HB4.o
   go_wp2
   exact bodyPost_ret (step_end (rb:=w.heap.size) rfl _ rfl (set8 (rb:=w.heap.size) HB4.o _ _ _ _ _ _ _ _)) rfl (x4m HE.o HN.o (x05 HU4.o (Nat.le_refl _) _ _ _ _ _ _ _ _))
  ·have f1:(y.t != 6)=false:=by simp[hc]
   subst h9
   have f3:(po != pl+1)=true:=by simpa using h8
   clear hc h8
   go_enter Tryz.func53,Tryz.ntmps53
   go_wp2_with (first | (go_at_call 103;with_reducible refine(H2.o w4 HU4.o).mono ?_;rintro r w5 ⟨rfl,hu⟩;have HB5:=mK (kP hu HB4.o);have HQ5:=mK (kP hu HQ4.o);have q5:=cells2 HQ5.o;have HU5:=mK (HU4.o.tt hu);clear hu;apply As.o) | (go_at_call 103;with_reducible refine(H1.o w3 HU3.o).mono ?_;rintro r w4 ⟨rfl,hu⟩;have HB4:=mK (kP hu HB3.o);have HQ4:=mK (kP hu HQ3.o);have q4:=cells2 HQ4.o;have HU4:=mK (HU3.o.tt hu);clear hu) | (go_at_call 72;with_reducible refine(HA.o w2 HU2.o).mono ?_;rintro r w3 ⟨rfl,hu⟩;have HB3:=mK (kP hu HB2.o);have HQ3:=mK (kP hu HQ2.o);have q3:=cells2 HQ3.o;have HU3:=mK (HU2.o.tt hu);clear hu;have c9:=HX3.o _ HU3.o) | (go_at_call 106;with_reducible refine(HI.o w1 HU1.o).mono ?_;rintro r w2 ⟨rfl,hu⟩;have HB2:=mK (kP hu HB1.o);have HQ2:=mK (kP hu HQ1.o);have q2:=cells2 HQ2.o;have HU2:=mK (HU1.o.tt hu);clear hu) | (go_at_call 105;refine(HP.o _ (aP.alloc _)).mono ?_;rintro r w1 ⟨rfl,hu⟩;obtain⟨hb1,hb2,hu2⟩:=x0s hu;obtain⟨q0,q1⟩:=cells2 hb2;have HB1:=mK hb1;have HQ1:=mK hb2;have HU1:=mK hu2;clear hu hb1 hb2 hu2))
   refine⟨?_⟩
   have hbl:w.heap.size < w5.heap.size:=lt_of_block HB5.o
   have hcf:=fZ HB5.o
   obtain⟨k0,k1,k2,k3,k4,k5,k6,k7⟩:=x06 HB5.o
   go_wp2
   exact bodyPost_ret (step_end (rb:=w.heap.size) rfl _ rfl (set8 (rb:=w.heap.size) HB5.o _ _ _ _ _ _ _ _)) rfl (x4m HE.o HN.o (x05 HU5.o (Nat.le_refl _) _ _ _ _ _ _ _ _))
theorem Outdent_b {l:List Tok} {p en pl po e:Int} {x li q:Nat} {y:Tok} (hrow:tokR.row w F A l) (hb:l.length<=2048) (hen:0<=en/\en<=3000) (hx:x < l.length)
 (hp:∀ W,Pure w W->Calls Tryz.prog 105 #[deskV cb A l.length c,.int .i64 p] W (fun r w'=>r=.returned (.int .i64 0)/\Pure W w'))
 (hi:∀ W,Pure w W->Calls Tryz.prog 106 #[deskV cb A l.length c,.int .i64 p] W (fun r w'=>r=.returned (.tuple #[.int .i64 (x:Nat),.int .i64 en,.int .i64 (li:Nat),.bool true])/\Pure W w'))
 (ha:∀ W,Pure w W->Calls Tryz.prog 72 #[.slice A l.length c,.int .i64 (li:Nat)] W (fun r w'=>r=.returned (.int .i64 (q:Nat))/\Pure W w'))
 (h1:∀ W,Pure w W->Calls Tryz.prog 103 #[.slice A l.length c,.int .i64 (li:Nat)] W (fun r w'=>r=.returned (.int .i64 en)/\Pure W w'))
 (h2:∀ W,Pure w W->Calls Tryz.prog 103 #[.slice A l.length c,.int .i64 (q:Nat)] W (fun r w'=>r=.returned (.int .i64 (en+1))/\Pure W w'))
 (hli:li < l.length) (hy:l[q]?=some y) (h6:y.t=6) (hc:x ≠ li+1)
 (ht:∀ W T ct,Pure w W->tokR.row W (fun _=>True) T [shutT,shutT]->Calls Tryz.prog 108 #[deskV cb A l.length c,(arnd x (en+2) x en 2 [shutT,shutT]).bare,.slice T 2 ct] W (NTold (arnd x (en+2) x en 2 [shutT,shutT]) e W)) :
 Calls Tryz.prog 53 #[.pointer (some ⟨cb,0,none⟩),.slice A l.length c,.int .i64 p] w (NTold (arnd x (en+2) x en 2 [shutT,shutT]) e w):=by
 have HP:=mK hp
 have HI:=mK hi
 have HA:=mK ha
 have H1:=mK h1
 have H2:=mK h2
 have HR:=mK hrow
 have hw1:IntKind.i64.wrap (en+1)=en+1:=IntWalk.i64_in _ (by omega)
 have hw2:IntKind.i64.wrap (en+2)=en+2:=IntWalk.i64_in _ (by omega)
 have hw3:IntKind.i64.wrap ((li:Int)+1)=(li:Int)+1:=IntWalk.i64_in _ (by omega)
 have ql:q < l.length:=(List.getElem?_eq_some_iff.1 hy).1
 obtain⟨bA,oA,rfl,hF,hbA,c0,c1,c2,c3⟩:=x0j HR.o hy
 have HT:=mK (fun W T ct=>ht W T ct)
 have HX3:=mK (fun (v:World) (hu:Pure w v)=>(hu.cell hbA (fun h=>h)).trans c1)
 have g0:decide ((q:Int) < 0)=false:=by simp
 have f1:(y.t != 6)=false:=by simp[h6]
 have j1:((x:Int) == (li:Int)+1)=false:=by simp;omega
 clear hp hi ha h1 h2 hrow hen hy hF hbA c0 c1 c2 c3 h6 hc ht hx hli
 unfold NTold Told StepD.bare StepD.val at HT
 unfold arnd at HT
 simp only at HT
 go_enter Tryz.func53,Tryz.ntmps53
 go_wp2_with (first | (go_at_call 103;with_reducible refine(H2.o w4 HU4.o).mono ?_;rintro r w5 ⟨rfl,hu⟩;have HB5:=mK (kP hu HB4.o);have HQ5:=mK (kP hu HQ4.o);have q5:=cells2 HQ5.o;have HU5:=mK (HU4.o.tt hu);clear hu;apply As.o) | (go_at_call 103;with_reducible refine(H1.o w3 HU3.o).mono ?_;rintro r w4 ⟨rfl,hu⟩;have HB4:=mK (kP hu HB3.o);have HQ4:=mK (kP hu HQ3.o);have q4:=cells2 HQ4.o;have HU4:=mK (HU3.o.tt hu);clear hu) | (go_at_call 72;with_reducible refine(HA.o w2 HU2.o).mono ?_;rintro r w3 ⟨rfl,hu⟩;have HB3:=mK (kP hu HB2.o);have HQ3:=mK (kP hu HQ2.o);have q3:=cells2 HQ3.o;have HU3:=mK (HU2.o.tt hu);clear hu;have c9:=HX3.o _ HU3.o) | (go_at_call 106;with_reducible refine(HI.o w1 HU1.o).mono ?_;rintro r w2 ⟨rfl,hu⟩;have HB2:=mK (kP hu HB1.o);have HQ2:=mK (kP hu HQ1.o);have q2:=cells2 HQ2.o;have HU2:=mK (HU1.o.tt hu);clear hu) | (go_at_call 105;refine(HP.o _ (aP.alloc _)).mono ?_;rintro r w1 ⟨rfl,hu⟩;obtain⟨hb1,hb2,hu2⟩:=x0s hu;obtain⟨q0,q1⟩:=cells2 hb2;have HB1:=mK hb1;have HQ1:=mK hb2;have HU1:=mK hu2;clear hu hb1 hb2 hu2))
 refine⟨?_⟩
 obtain⟨wo,rfl⟩:∃ wo:World,wo=w5:=⟨_,rfl⟩
 have HBZ:=HB5
 have HQZ:=HQ5
 have HUZ:=HU5
 have HK8:=mK (fun v (hu:Upd (fun k=>k=w.heap.size) wo v)=>cells2 ((hu.block (w.heap.size+1) (lt_of_block HQZ.o) (by omega)).trans HQZ.o))
 have HPz:=mK (show Pure wo wo.drew from rU.drew)
 go_wp2
 refine x0m (P:=Tryz.prog) (fun v=>v.cell? ⟨w.heap.size+1,0,none⟩=some (.pointer (some ⟨cb,0,none⟩))/\v.cell? ⟨w.heap.size+1,1,none⟩=some (.slice (some ⟨bA,oA,none⟩) l.length c)) 14 (by kernel_rfl) ?_ (fun hHeld=>?_)
 ·with_reducible (first | exact HK8.o _ (up1 HPz.o) | exact HK8.o _ (up1 HPa.o) | exact HK8.o _ (up1 HPb.o) | exact HK8.o _ (up1 HPc.o) | exact HK8.o _ (up1 (HPc.o.alloc _)) | exact HK8.o _ (up1 HP9.o) | exact HK8.o _ (x0b (up1 HP9.o) _ _ _ _ _ _ _ _))
 refine zT 0 ?_
 refine zT 1 ?_
 refine zT 2 ?_
 refine zT 3 ?_
 refine zT 4 ?_
 refine zT 5 ?_
 (try simp only[Act.put,sA,sB,sC])
 refine oT 6 (fun K hK=>?_)
 go_simp
 (go_at_call 109;refine(x4d _ _ _ _ _ _).mono ?_;rintro r wa ⟨rfl,hu⟩;have HPa:=mK (HPz.o.tt hu);clear hu)
 refine hK.out _ _ (fun _=>by with_reducible (first | exact HK8.o _ (up1 HPz.o) | exact HK8.o _ (up1 HPa.o) | exact HK8.o _ (up1 HPb.o) | exact HK8.o _ (up1 HPc.o) | exact HK8.o _ (up1 (HPc.o.alloc _)) | exact HK8.o _ (up1 HP9.o) | exact HK8.o _ (x0b (up1 HP9.o) _ _ _ _ _ _ _ _))) (fun hHeld=>?_)
 replace hHeld:=hHeld (by decide)
 clear hK K
 (try simp only[Act.put,sA,sB,sC])
 refine oT 7 (fun K hK=>?_)
 go_simp
 (go_at_call 107;refine(x13 _).mono ?_;rintro r wb ⟨rfl,hu⟩;have HPb:=mK (HPa.o.tt hu);clear hu)
 refine hK.out _ _ (fun _=>by with_reducible (first | exact HK8.o _ (up1 HPz.o) | exact HK8.o _ (up1 HPa.o) | exact HK8.o _ (up1 HPb.o) | exact HK8.o _ (up1 HPc.o) | exact HK8.o _ (up1 (HPc.o.alloc _)) | exact HK8.o _ (up1 HP9.o) | exact HK8.o _ (x0b (up1 HP9.o) _ _ _ _ _ _ _ _))) (fun hHeld=>?_)
 replace hHeld:=hHeld (by decide)
 clear hK K
 (try simp only[Act.put,sA,sB,sC])
 refine oT 8 (fun K hK=>?_)
 go_simp
 (go_at_call 107;refine(x13 _).mono ?_;rintro r wc ⟨rfl,hu⟩;have HPc:=mK (HPb.o.tt hu);clear hu)
 refine hK.out _ _ (fun _=>by with_reducible (first | exact HK8.o _ (up1 HPz.o) | exact HK8.o _ (up1 HPa.o) | exact HK8.o _ (up1 HPb.o) | exact HK8.o _ (up1 HPc.o) | exact HK8.o _ (up1 (HPc.o.alloc _)) | exact HK8.o _ (up1 HP9.o) | exact HK8.o _ (x0b (up1 HP9.o) _ _ _ _ _ _ _ _))) (fun hHeld=>?_)
 replace hHeld:=hHeld (by decide)
 clear hK K
 (try simp only[Act.put,sA,sB,sC])
 refine oT 9 (fun K hK=>?_)
 go_simp
 refine hK.out _ _ (fun _=>by with_reducible (first | exact HK8.o _ (up1 HPz.o) | exact HK8.o _ (up1 HPa.o) | exact HK8.o _ (up1 HPb.o) | exact HK8.o _ (up1 HPc.o) | exact HK8.o _ (up1 (HPc.o.alloc _)) | exact HK8.o _ (up1 HP9.o) | exact HK8.o _ (x0b (up1 HP9.o) _ _ _ _ _ _ _ _))) (fun hHeld=>?_)
 replace hHeld:=hHeld (by decide)
 clear hK K
 (try simp only[Act.put,sA,sB,sC])
 refine oT 10 (fun K hK=>?_)
 go_simp
 (go_at_call 108;refine(HT.o (wc.alloc _) (some ⟨wc.heap.size,0,none⟩) 2 ((HUZ.o.tt HPc.o).alloc _) (x1a (l:=[shutT,shutT]) (heap_alloc_new wc _) trivial)).mono ?_;rintro r w9 ⟨B9,c9,⟨rfl,hp9⟩,hr9,hn9⟩;have HV9:=mK (fun o=>(HUZ.o.tt HPc.o).alloc o);have HL9:=mK (show w.heap.size < wc.heap.size+1 from by have h7:=HPc.o.size;have h8:=lt_of_block HBZ.o;omega);have HT9:=mK hp9;have HR9:=mK hr9;have HN9:=mK hn9;have HP9:=mK ((HPc.o.alloc _).tt hp9);have HB9:=mK (kP HP9.o HBZ.o);have hbl9:w.heap.size < w9.heap.size:=lt_of_block HB9.o;have hcf9:∀ i,w9.frozen? ⟨w.heap.size,i,none⟩=false:=(fun i=>by simp[World.frozen?,HB9.o]);obtain⟨k0,k1,k2,k3,k4,k5,k6,k7⟩:=x06 HB9.o;clear hp9 hr9 hn9)
 refine hK.out _ _ (fun _=>by with_reducible (first | exact HK8.o _ (up1 HPz.o) | exact HK8.o _ (up1 HPa.o) | exact HK8.o _ (up1 HPb.o) | exact HK8.o _ (up1 HPc.o) | exact HK8.o _ (up1 (HPc.o.alloc _)) | exact HK8.o _ (up1 HP9.o) | exact HK8.o _ (x0b (up1 HP9.o) _ _ _ _ _ _ _ _))) (fun hHeld=>?_)
 replace hHeld:=hHeld (by decide)
 clear hK K
 (try simp only[Act.put,sA,sB,sC])
 refine zT 11 ?_
 refine zT 12 ?_
 refine oT 13 (fun K hK=>?_)
 go_simp
 refine hK.out _ _ (fun _=>by with_reducible (first | exact HK8.o _ (up1 HPz.o) | exact HK8.o _ (up1 HPa.o) | exact HK8.o _ (up1 HPb.o) | exact HK8.o _ (up1 HPc.o) | exact HK8.o _ (up1 (HPc.o.alloc _)) | exact HK8.o _ (up1 HP9.o) | exact HK8.o _ (x0b (up1 HP9.o) _ _ _ _ _ _ _ _))) (fun hHeld=>?_)
 replace hHeld:=hHeld (by decide)
 clear hK K
 (try simp only[Act.put,sA,sB,sC])
 refine oT 14 (fun K hK=>?_)
 go_simp
 refine hK.out _ _ (fun h=>absurd rfl h) (fun hHeld=>?_)
 clear hK K
 (try simp only[Act.put,sA,sB,sC])
 refine x0l (by kernel_rfl) ?_ _
 go_wp2
 exact bodyPost_ret (step_end (rb:=w.heap.size) rfl _ rfl (set8 (rb:=w.heap.size) HB9.o _ _ _ _ _ _ _ _)) rfl ⟨B9,c9,⟨rfl,x05 ((HV9.o _).tt HT9.o) (Nat.le_refl _) _ _ _ _ _ _ _ _⟩,⟨Rp.x09 (Rp.x0f HR9.o.1 (x0b rU _ _ _ _ _ _ _ _) (fun k _ h e=>by have h7:=HL9.o;simp at h;omega)) (fun k h=>by have h7:=HL9.o;simp at h;omega),HR9.o.2⟩,HN9.o⟩
theorem Indent_no {l:List Tok} {p pe en li e:Int} {x x1:Nat} {ok:Bool} {s':StepD} (hrow:tokR.row w F A l) (hb:l.length<=2048)
 (hp:∀ W,Pure w W->Calls Tryz.prog 105 #[deskV cb A l.length c,.int .i64 p] W (fun r w'=>r=.returned (.int .i64 pe)/\Pure W w'))
 (hi:∀ W,Pure w W->Calls Tryz.prog 106 #[deskV cb A l.length c,.int .i64 p] W (fun r w'=>r=.returned (.tuple #[.int .i64 (x:Nat),.int .i64 en,.int .i64 li,.bool ok])/\Pure W w'))
 (hn:(pe ≠ 0/\e=pe)\/(pe=0/\e=6/\ok=false)\/(pe=0/\e=6/\ok=true/\x=x1+1/\∃ y:Tok,l[x1]?=some y/\y.k ≠ 2)) :
 Calls Tryz.prog 51 #[.pointer (some ⟨cb,0,none⟩),.slice A l.length c,.int .i64 p] w (NTold s' e w):=by
 have HP:=mK hp
 have HI:=mK hi
 have HR:=mK hrow
 clear hp hi hrow
 rcases hn with ⟨p0,he⟩ | ⟨rfl,he,rfl⟩ | ⟨rfl,he,rfl,rfl,y,hy,hk⟩
 ·have HE:=mK he
  have HN:=mK (show (pe:Int) ≠ 0 by assumption)
  have f0:(pe != 0)=true:=by simpa using p0
  clear p0
  clear he
  go_enter Tryz.func51,Tryz.ntmps51
  go_wp2_with (go_at_call 105;refine(HP.o _ (aP.alloc _)).mono ?_;rintro r w1 ⟨rfl,hu⟩;obtain⟨hb1,hb2,hu2⟩:=x0s hu;obtain⟨q0,q1⟩:=cells2 hb2;have HB1:=mK hb1;have HQ1:=mK hb2;have HU1:=mK hu2;clear hu hb1 hb2 hu2;apply As.o)
  refine⟨?_⟩
  have hbl:w.heap.size < w1.heap.size:=lt_of_block HB1.o
  have hcf:=fZ HB1.o
  obtain⟨k0,k1,k2,k3,k4,k5,k6,k7⟩:=x06 HB1.o
  go_wp2
  exact bodyPost_ret (step_end (rb:=w.heap.size) rfl _ rfl (set8 (rb:=w.heap.size) HB1.o _ _ _ _ _ _ _ _)) rfl (x4m HE.o HN.o (x05 HU1.o (Nat.le_refl _) _ _ _ _ _ _ _ _))
 ·have HE:=mK he
  have HN:=mK (show (6:Int) ≠ 0 by decide)
  clear he
  go_enter Tryz.func51,Tryz.ntmps51
  go_wp2_with (first | (go_at_call 106;with_reducible refine(HI.o w1 HU1.o).mono ?_;rintro r w2 ⟨rfl,hu⟩;have HB2:=mK (kP hu HB1.o);have HQ2:=mK (kP hu HQ1.o);have q2:=cells2 HQ2.o;have HU2:=mK (HU1.o.tt hu);clear hu) | (go_at_call 105;refine(HP.o _ (aP.alloc _)).mono ?_;rintro r w1 ⟨rfl,hu⟩;obtain⟨hb1,hb2,hu2⟩:=x0s hu;obtain⟨q0,q1⟩:=cells2 hb2;have HB1:=mK hb1;have HQ1:=mK hb2;have HU1:=mK hu2;clear hu hb1 hb2 hu2))
  obtain⟨wo,rfl⟩:∃ wo:World,wo=w2:=⟨_,rfl⟩
  have HBZ:=HB2
  have HUZ:=HU2
  refine wp_region_held_drew (S:=(fun _=>True)) (by kernel_rfl) ?_ (fun hHeld=>?_)
  ·trivial
  refine zH 0 ?_
  refine zH 1 ?_
  refine zH 2 ?_
  refine sH 3 ?_
  refine sH 4 ?_
  refine sH 5 ?_
  refine sH 6 ?_
  (try simp only[Act.put,sA,sB,sC])
  refine sH 7 ?_
  refine sH 8 ?_
  refine sH 9 ?_
  refine zH 10 ?_
  (try simp only[Act.put,sA,sB,sC])
  refine wpAnyH_done (by kernel_rfl) ?_ _
  have HBD:=mK (show wo.drew.heap[w.heap.size]?=_ from HBZ.o)
  have HUD:=mK HUZ.o.drew
  generalize wo.drew=wd at *
  have hbl:w.heap.size < wd.heap.size:=lt_of_block HBD.o
  have hcf:=fZ HBD.o
  obtain⟨k0,k1,k2,k3,k4,k5,k6,k7⟩:=x06 HBD.o
  go_wp2
  exact bodyPost_ret (step_end (rb:=w.heap.size) rfl _ rfl (set8 (rb:=w.heap.size) HBD.o _ _ _ _ _ _ _ _)) rfl (x4m HE.o HN.o (x05 HUD.o (Nat.le_refl _) _ _ _ _ _ _ _ _))
 ·have HE:=mK he
  have HN:=mK (show (6:Int) ≠ 0 by decide)
  have xl:x1 < l.length:=(List.getElem?_eq_some_iff.1 hy).1
  have hw1:IntKind.i64.wrap (((x1+1:Nat):Int) - 1)=(x1:Int):=by rw[IntWalk.i64_in _ (by omega)];omega
  have hw2:IntKind.i64.wrap ((x1:Int)+1 - 1)=(x1:Int):=by rw[IntWalk.i64_in _ (by omega)];omega
  have hw3:IntKind.i64.wrap (x1:Int)=(x1:Int):=IntWalk.i64_in _ (by omega)
  have ek:(y.k == 2)=false:=by simpa using hk
  obtain⟨bA,oA,rfl,hF,hbA,c0,c1,c2,c3⟩:=x0j HR.o hy
  have HKX:=mK (fun (v:World) (hu:Pure w v)=>And.intro ((hu.cell hbA (fun h=>h)).trans c0) (And.intro ((hu.cell hbA (fun h=>h)).trans c1) (And.intro ((hu.cell hbA (fun h=>h)).trans c2) ((hu.cell hbA (fun h=>h)).trans c3))))
  clear he hy hk hF hbA c0 c1 c2 c3
  go_enter Tryz.func51,Tryz.ntmps51
  go_wp2_with (first | (go_at_call 106;with_reducible refine(HI.o w1 HU1.o).mono ?_;rintro r w2 ⟨rfl,hu⟩;have HB2:=mK (kP hu HB1.o);have HQ2:=mK (kP hu HQ1.o);have q2:=cells2 HQ2.o;have HU2:=mK (HU1.o.tt hu);clear hu) | (go_at_call 105;refine(HP.o _ (aP.alloc _)).mono ?_;rintro r w1 ⟨rfl,hu⟩;obtain⟨hb1,hb2,hu2⟩:=x0s hu;obtain⟨q0,q1⟩:=cells2 hb2;have HB1:=mK hb1;have HQ1:=mK hb2;have HU1:=mK hu2;clear hu hb1 hb2 hu2))
  obtain⟨wo,rfl⟩:∃ wo:World,wo=w2:=⟨_,rfl⟩
  have HBZ:=HB2
  have HUZ:=HU2
  have HP0:=mK (show Pure wo wo.drew from rU.drew)
  refine wp_region_held_drew (S:=(fun v=>v.cell? ⟨bA,oA+x1 * 4,none⟩=some (.int .i64 y.k)/\v.cell? ⟨bA,oA+x1 * 4+1,none⟩=some (.int .i64 y.t)/\v.cell? ⟨bA,oA+x1 * 4+2,none⟩=some (.int .i64 y.n)/\v.cell? ⟨bA,oA+x1 * 4+3,none⟩=some (.int .i64 y.m))) (by kernel_rfl) ?_ (fun hHeld=>?_)
  ·with_reducible (first | exact HKX.o _ HUZ.o.drew | exact HKX.o _ (HUZ.o.tt HP3.o))
  refine zH 0 ?_
  refine zH 1 ?_
  refine zH 2 ?_
  refine zH 3 ?_
  (try simp only[Act.put,sA,sB,sC])
  refine zH 4 ?_
  refine zH 5 ?_
  refine zH 6 ?_
  refine zH 7 ?_
  (try simp only[Act.put,sA,sB,sC])
  refine wpAnyH_ready (rs:=[8]) (by kernel_rfl) (by simp) (AllReadyH.cons (by exact opAt rfl) (fun K hK=>?_) AllReadyH.nil)
  go_simp
  (go_at_call 107;refine(x13 _).mono ?_;rintro r w3 ⟨rfl,hu⟩;have HP3:=mK (HP0.o.tt hu);have HB3:=mK (kP HP3.o HBZ.o);have HU3:=mK (HUZ.o.tt HP3.o);clear hu)
  refine hK.out _ _ (by with_reducible (first | exact HKX.o _ HUZ.o.drew | exact HKX.o _ (HUZ.o.tt HP3.o))) (fun hHeld=>?_)
  clear hK K
  (try simp only[Act.put,sA,sB,sC])
  refine zH 9 ?_
  refine zH 10 ?_
  refine wpAnyH_done (by kernel_rfl) ?_ _
  have hbl:w.heap.size < w3.heap.size:=lt_of_block HB3.o
  have hcf:=fZ HB3.o
  obtain⟨k0,k1,k2,k3,k4,k5,k6,k7⟩:=x06 HB3.o
  go_wp2
  exact bodyPost_ret (step_end (rb:=w.heap.size) rfl _ rfl (set8 (rb:=w.heap.size) HB3.o _ _ _ _ _ _ _ _)) rfl (x4m HE.o HN.o (x05 HU3.o (Nat.le_refl _) _ _ _ _ _ _ _ _))
theorem Indent_a {l:List Tok} {p en e:Int} {x2 pp li:Nat} {yl:Tok} (hrow:tokR.row w F A l) (hb:l.length<=2048)
 (hp:∀ W,Pure w W->Calls Tryz.prog 105 #[deskV cb A l.length c,.int .i64 p] W (fun r w'=>r=.returned (.int .i64 0)/\Pure W w'))
 (hi:∀ W,Pure w W->Calls Tryz.prog 106 #[deskV cb A l.length c,.int .i64 p] W (fun r w'=>r=.returned (.tuple #[.int .i64 ((x2+2:Nat):Int),.int .i64 en,.int .i64 (li:Nat),.bool true])/\Pure W w'))
 (h1:∀ W,Pure w W->Calls Tryz.prog 103 #[.slice A l.length c,.int .i64 (x2:Nat)] W (fun r w'=>r=.returned (.int .i64 (pp:Nat))/\Pure W w'))
 (hyl:l[li]?=some yl) (hk:yl.k=1) (hx1:l[x2+1]?=some shutT) (hx2:l[x2]?=some shutT) (hpp:l[pp]?=some yl)
 (ht:∀ W T ct,Pure w W->tokR.row W (fun _=>True) T [shutT,shutT]->Calls Tryz.prog 108 #[deskV cb A l.length c,(arnd ((x2:Int)) en ((x2+2:Nat):Int) en 0 [shutT,shutT]).bare,.slice T 2 ct] W (NTold (arnd ((x2:Int)) en ((x2+2:Nat):Int) en 0 [shutT,shutT]) e W)) :
 Calls Tryz.prog 51 #[.pointer (some ⟨cb,0,none⟩),.slice A l.length c,.int .i64 p] w (NTold (arnd ((x2:Int)) en ((x2+2:Nat):Int) en 0 [shutT,shutT]) e w):=by
 have HP:=mK hp
 have HI:=mK hi
 have HR:=mK hrow
 have HYK:=mK hk
 clear hk
 have H1:=mK h1
 have xl:x2+1 < l.length:=(List.getElem?_eq_some_iff.1 hx1).1
 have ll:li < l.length:=(List.getElem?_eq_some_iff.1 hyl).1
 have pl:pp < l.length:=(List.getElem?_eq_some_iff.1 hpp).1
 have hw1:IntKind.i64.wrap (((x2+2:Nat):Int) - 1)=((x2+1:Nat):Int):=by rw[IntWalk.i64_in _ (by omega)];omega
 have hw2:IntKind.i64.wrap (((x2+2:Nat):Int) - 2)=(x2:Int):=by rw[IntWalk.i64_in _ (by omega)];omega
 have hw3:IntKind.i64.wrap ((x2:Int)+2 - 1)=((x2+1:Nat):Int):=by rw[IntWalk.i64_in _ (by omega)];omega
 have hw4:IntKind.i64.wrap ((x2:Int)+2 - 2)=(x2:Int):=by rw[IntWalk.i64_in _ (by omega)];omega
 have xl2:x2 < l.length:=by omega
 have i1:(x2:Int)+1 < (l.length:Int):=by omega
 have i2:(0:Int)<=(x2:Int)+1:=by omega
 have hw5:IntKind.i64.wrap ((x2:Int)+1)=(x2:Int)+1:=IntWalk.i64_in _ (by omega)
 have hw6:IntKind.i64.wrap (x2:Int)=(x2:Int):=IntWalk.i64_in _ (by omega)
 obtain⟨bA,oA,rfl,hF,hbA,c0,c1,c2,c3⟩:=x0j HR.o hx1
 obtain⟨b2,o2,hA2,_,_,d0,d1,d2,d3⟩:=x0j HR.o hx2
 obtain⟨b3,o3,hA3,_,_,e0,e1,e2,e3⟩:=x0j HR.o hpp
 obtain⟨b4,o4,hA4,_,_,f0,f1,f2,f3⟩:=x0j HR.o hyl
 simp only[Option.some.injEq,Addr.mk.injEq,and_true] at hA2 hA3 hA4
 obtain⟨rfl,rfl⟩:=hA2
 obtain⟨rfl,rfl⟩:=hA3
 obtain⟨rfl,rfl⟩:=hA4
 have HKX:=mK (fun (v:World) (hu:Pure w v)=>(by
  have hh:∀ k,v.cell? ⟨bA,k,none⟩=w.cell? ⟨bA,k,none⟩:=fun k=>hu.cell hbA (fun h=>h)
  exact⟨(hh _).trans c0,(hh _).trans c1,(hh _).trans c2,(hh _).trans c3⟩:(fun v=>v.cell? ⟨bA,oA+(x2+1) * 4,none⟩=some (.int .i64 2)/\v.cell? ⟨bA,oA+(x2+1) * 4+1,none⟩=some (.int .i64 0)/\v.cell? ⟨bA,oA+(x2+1) * 4+2,none⟩=some (.int .i64 0)/\v.cell? ⟨bA,oA+(x2+1) * 4+3,none⟩=some (.int .i64 0)) v))
 have HKY:=mK (fun (v:World) (hu:Pure w v)=>(by
  have hh:∀ k,v.cell? ⟨bA,k,none⟩=w.cell? ⟨bA,k,none⟩:=fun k=>hu.cell hbA (fun h=>h)
  exact⟨(hh _).trans d0,(hh _).trans d1,(hh _).trans d2,(hh _).trans d3,(hh _).trans e0,(hh _).trans e1,(hh _).trans e2,(hh _).trans e3,(hh _).trans f0,(hh _).trans f1,(hh _).trans f2,(hh _).trans f3⟩:(fun v=>v.cell? ⟨bA,oA+x2 * 4,none⟩=some (.int .i64 2)/\v.cell? ⟨bA,oA+x2 * 4+1,none⟩=some (.int .i64 0)/\v.cell? ⟨bA,oA+x2 * 4+2,none⟩=some (.int .i64 0)/\v.cell? ⟨bA,oA+x2 * 4+3,none⟩=some (.int .i64 0)/\v.cell? ⟨bA,oA+pp * 4,none⟩=some (.int .i64 yl.k)/\v.cell? ⟨bA,oA+pp * 4+1,none⟩=some (.int .i64 yl.t)/\v.cell? ⟨bA,oA+pp * 4+2,none⟩=some (.int .i64 yl.n)/\v.cell? ⟨bA,oA+pp * 4+3,none⟩=some (.int .i64 yl.m)/\v.cell? ⟨bA,oA+li * 4,none⟩=some (.int .i64 yl.k)/\v.cell? ⟨bA,oA+li * 4+1,none⟩=some (.int .i64 yl.t)/\v.cell? ⟨bA,oA+li * 4+2,none⟩=some (.int .i64 yl.n)/\v.cell? ⟨bA,oA+li * 4+3,none⟩=some (.int .i64 yl.m)) v))
 clear hx1 hx2 hpp hyl hF hbA c0 c1 c2 c3 d0 d1 d2 d3 e0 e1 e2 e3 f0 f1 f2 f3
 have HT:=mK (fun W T ct=>ht W T ct)
 clear hp hi hrow ht h1
 unfold NTold Told StepD.bare StepD.val at HT
 unfold arnd at HT
 simp only at HT
 go_enter Tryz.func51,Tryz.ntmps51
 go_wp2_with (first | (go_at_call 106;with_reducible refine(HI.o w1 HU1.o).mono ?_;rintro r w2 ⟨rfl,hu⟩;have HB2:=mK (kP hu HB1.o);have HQ2:=mK (kP hu HQ1.o);have q2:=cells2 HQ2.o;have HU2:=mK (HU1.o.tt hu);clear hu) | (go_at_call 105;refine(HP.o _ (aP.alloc _)).mono ?_;rintro r w1 ⟨rfl,hu⟩;obtain⟨hb1,hb2,hu2⟩:=x0s hu;obtain⟨q0,q1⟩:=cells2 hb2;have HB1:=mK hb1;have HQ1:=mK hb2;have HU1:=mK hu2;clear hu hb1 hb2 hu2))
 obtain⟨wo,rfl⟩:∃ wo:World,wo=w2:=⟨_,rfl⟩
 have HBY:=HB2
 have HQY:=HQ2
 have HUY:=HU2
 have HP0:=mK (show Pure wo wo.drew from rU.drew)
 refine wp_region_held_drew (S:=(fun v=>v.cell? ⟨bA,oA+(x2+1) * 4,none⟩=some (.int .i64 2)/\v.cell? ⟨bA,oA+(x2+1) * 4+1,none⟩=some (.int .i64 0)/\v.cell? ⟨bA,oA+(x2+1) * 4+2,none⟩=some (.int .i64 0)/\v.cell? ⟨bA,oA+(x2+1) * 4+3,none⟩=some (.int .i64 0))) (by kernel_rfl) ?_ (fun hHeld=>?_)
 ·with_reducible (first | exact HKX.o _ HUY.o.drew | exact HKX.o _ HU3.o)
 refine zH 0 ?_
 refine zH 1 ?_
 refine zH 2 ?_
 refine zH 3 ?_
 refine zH 4 ?_
 (try simp only[Act.put,sA,sB,sC])
 refine zH 5 ?_
 refine zH 6 ?_
 refine zH 7 ?_
 refine wpAnyH_ready (rs:=[8]) (by kernel_rfl) (by simp) (AllReadyH.cons (by exact opAt rfl) (fun K hK=>?_) AllReadyH.nil)
 go_simp
 (go_at_call 107;refine(x13 _).mono ?_;rintro r w3 ⟨rfl,hu⟩;have HP3:=mK (HP0.o.tt hu);have HB3:=mK (kP HP3.o HBY.o);have HQ3:=mK (kP HP3.o HQY.o);have HU3:=mK (HUY.o.tt HP3.o);clear hu)
 refine hK.out _ _ (by with_reducible (first | exact HKX.o _ HUY.o.drew | exact HKX.o _ HU3.o)) (fun hHeld=>?_)
 clear hK K
 (try simp only[Act.put,sA,sB,sC])
 refine zH 9 ?_
 refine zH 10 ?_
 refine wpAnyH_done (by kernel_rfl) ?_ _
 go_wp2
 have HP30:=mK (show Pure w3 w3.drew from rU.drew)
 refine wp_region_held_drew (S:=(fun v=>v.cell? ⟨bA,oA+x2 * 4,none⟩=some (.int .i64 2)/\v.cell? ⟨bA,oA+x2 * 4+1,none⟩=some (.int .i64 0)/\v.cell? ⟨bA,oA+x2 * 4+2,none⟩=some (.int .i64 0)/\v.cell? ⟨bA,oA+x2 * 4+3,none⟩=some (.int .i64 0)/\v.cell? ⟨bA,oA+pp * 4,none⟩=some (.int .i64 yl.k)/\v.cell? ⟨bA,oA+pp * 4+1,none⟩=some (.int .i64 yl.t)/\v.cell? ⟨bA,oA+pp * 4+2,none⟩=some (.int .i64 yl.n)/\v.cell? ⟨bA,oA+pp * 4+3,none⟩=some (.int .i64 yl.m)/\v.cell? ⟨bA,oA+li * 4,none⟩=some (.int .i64 yl.k)/\v.cell? ⟨bA,oA+li * 4+1,none⟩=some (.int .i64 yl.t)/\v.cell? ⟨bA,oA+li * 4+2,none⟩=some (.int .i64 yl.n)/\v.cell? ⟨bA,oA+li * 4+3,none⟩=some (.int .i64 yl.m))) (by kernel_rfl) ?_ (fun hHeld=>?_)
 ·with_reducible (first | exact HKY.o _ HU3.o.drew | exact HKY.o _ HU4.o | exact HKY.o _ HU5.o)
 refine zH 0 ?_
 refine zH 1 ?_
 (try simp only[Act.put,sA,sB,sC])
 refine zH 2 ?_
 refine zH 3 ?_
 refine zH 4 ?_
 refine zH 5 ?_
 (try simp only[Act.put,sA,sB,sC])
 refine zH 6 ?_
 refine wpAnyH_ready (rs:=[7]) (by kernel_rfl) (by simp) (AllReadyH.cons (by exact opAt rfl) (fun K hK=>?_) AllReadyH.nil)
 go_simp
 (first | (go_at_call 103;refine(H1.o w4 HU4.o).mono ?_;rintro r w5 ⟨rfl,hu⟩;have HP5:=mK hu;have HB5:=mK (kP HP5.o HB4.o);have HQ5:=mK (kP HP5.o HQ4.o);have HU5:=mK (HU4.o.tt HP5.o);clear hu) | (go_at_call 107;refine(x13 _).mono ?_;rintro r w4 ⟨rfl,hu⟩;have HP4:=mK (HP30.o.tt hu);have HB4:=mK (kP HP4.o HB3.o);have HQ4:=mK (kP HP4.o HQ3.o);have HU4:=mK (HU3.o.tt HP4.o);clear hu))
 refine hK.out _ _ (by with_reducible (first | exact HKY.o _ HU3.o.drew | exact HKY.o _ HU4.o | exact HKY.o _ HU5.o)) (fun hHeld=>?_)
 clear hK K
 (try simp only[Act.put,sA,sB,sC])
 refine zH 8 ?_
 refine zH 9 ?_
 refine zH 10 ?_
 refine zH 11 ?_
 refine zH 12 ?_
 refine zH 13 ?_
 (try simp only[Act.put,sA,sB,sC])
 refine zH 17 ?_
 refine zH 18 ?_
 refine zH 19 ?_
 refine zH 20 ?_
 (try simp only[Act.put,sA,sB,sC])
 refine wpAnyH_ready (rs:=[14]) (by kernel_rfl) (by simp) (AllReadyH.cons (by exact opAt rfl) (fun K hK=>?_) AllReadyH.nil)
 go_simp
 (first | (go_at_call 103;refine(H1.o w4 HU4.o).mono ?_;rintro r w5 ⟨rfl,hu⟩;have HP5:=mK hu;have HB5:=mK (kP HP5.o HB4.o);have HQ5:=mK (kP HP5.o HQ4.o);have HU5:=mK (HU4.o.tt HP5.o);clear hu) | (go_at_call 107;refine(x13 _).mono ?_;rintro r w4 ⟨rfl,hu⟩;have HP4:=mK (HP30.o.tt hu);have HB4:=mK (kP HP4.o HB3.o);have HQ4:=mK (kP HP4.o HQ3.o);have HU4:=mK (HU3.o.tt HP4.o);clear hu))
 refine hK.out _ _ (by with_reducible (first | exact HKY.o _ HU3.o.drew | exact HKY.o _ HU4.o | exact HKY.o _ HU5.o)) (fun hHeld=>?_)
 clear hK K
 (try simp only[Act.put,sA,sB,sC])
 refine zH 15 ?_
 refine zH 16 ?_
 refine zH 21 ?_
 refine zH 22 ?_
 refine wpAnyH_done (by kernel_rfl) ?_ _
 obtain⟨wz,rfl⟩:∃ wz:World,wz=w5:=⟨_,rfl⟩
 have HBZ:=HB5
 have HQZ:=HQ5
 have HUZ:=HU5
 have HK8:=mK (fun v (hu:Upd (fun k=>k=w.heap.size) wz v)=>cells2 ((hu.block (w.heap.size+1) (lt_of_block HQZ.o) (by omega)).trans HQZ.o))
 have HPz:=mK (show Pure wz wz.drew from rU.drew)
 go_wp2
 refine x0m (P:=Tryz.prog) (fun v=>v.cell? ⟨w.heap.size+1,0,none⟩=some (.pointer (some ⟨cb,0,none⟩))/\v.cell? ⟨w.heap.size+1,1,none⟩=some (.slice (some ⟨bA,oA,none⟩) l.length c)) 13 (by kernel_rfl) ?_ (fun hHeld=>?_)
 ·with_reducible (first | exact HK8.o _ (up1 HPz.o) | exact HK8.o _ (up1 HPa.o) | exact HK8.o _ (up1 HPb.o) | exact HK8.o _ (up1 HPc.o) | exact HK8.o _ (up1 (HPc.o.alloc _)) | exact HK8.o _ (up1 HP9.o) | exact HK8.o _ (x0b (up1 HP9.o) _ _ _ _ _ _ _ _))
 refine zT 0 ?_
 refine zT 1 ?_
 refine zT 2 ?_
 (try simp only[Act.put,sA,sB,sC])
 refine zT 3 ?_
 refine zT 4 ?_
 refine oT 5 (fun K hK=>?_)
 go_simp
 (go_at_call 109;refine(x4d _ _ _ _ _ _).mono ?_;rintro r wa ⟨rfl,hu⟩;have HPa:=mK (HPz.o.tt hu);clear hu)
 refine hK.out _ _ (fun _=>by with_reducible (first | exact HK8.o _ (up1 HPz.o) | exact HK8.o _ (up1 HPa.o) | exact HK8.o _ (up1 HPb.o) | exact HK8.o _ (up1 HPc.o) | exact HK8.o _ (up1 (HPc.o.alloc _)) | exact HK8.o _ (up1 HP9.o) | exact HK8.o _ (x0b (up1 HP9.o) _ _ _ _ _ _ _ _))) (fun hHeld=>?_)
 replace hHeld:=hHeld (by decide)
 clear hK K
 (try simp only[Act.put,sA,sB,sC])
 refine oT 6 (fun K hK=>?_)
 go_simp
 (go_at_call 107;refine(x13 _).mono ?_;rintro r wb ⟨rfl,hu⟩;have HPb:=mK (HPa.o.tt hu);clear hu)
 refine hK.out _ _ (fun _=>by with_reducible (first | exact HK8.o _ (up1 HPz.o) | exact HK8.o _ (up1 HPa.o) | exact HK8.o _ (up1 HPb.o) | exact HK8.o _ (up1 HPc.o) | exact HK8.o _ (up1 (HPc.o.alloc _)) | exact HK8.o _ (up1 HP9.o) | exact HK8.o _ (x0b (up1 HP9.o) _ _ _ _ _ _ _ _))) (fun hHeld=>?_)
 replace hHeld:=hHeld (by decide)
 clear hK K
 (try simp only[Act.put,sA,sB,sC])
 refine oT 7 (fun K hK=>?_)
 go_simp
 (go_at_call 107;refine(x13 _).mono ?_;rintro r wc ⟨rfl,hu⟩;have HPc:=mK (HPb.o.tt hu);clear hu)
 refine hK.out _ _ (fun _=>by with_reducible (first | exact HK8.o _ (up1 HPz.o) | exact HK8.o _ (up1 HPa.o) | exact HK8.o _ (up1 HPb.o) | exact HK8.o _ (up1 HPc.o) | exact HK8.o _ (up1 (HPc.o.alloc _)) | exact HK8.o _ (up1 HP9.o) | exact HK8.o _ (x0b (up1 HP9.o) _ _ _ _ _ _ _ _))) (fun hHeld=>?_)
 replace hHeld:=hHeld (by decide)
 clear hK K
 (try simp only[Act.put,sA,sB,sC])
 refine oT 8 (fun K hK=>?_)
 go_simp
 refine hK.out _ _ (fun _=>by with_reducible (first | exact HK8.o _ (up1 HPz.o) | exact HK8.o _ (up1 HPa.o) | exact HK8.o _ (up1 HPb.o) | exact HK8.o _ (up1 HPc.o) | exact HK8.o _ (up1 (HPc.o.alloc _)) | exact HK8.o _ (up1 HP9.o) | exact HK8.o _ (x0b (up1 HP9.o) _ _ _ _ _ _ _ _))) (fun hHeld=>?_)
 replace hHeld:=hHeld (by decide)
 clear hK K
 (try simp only[Act.put,sA,sB,sC])
 refine oT 9 (fun K hK=>?_)
 go_simp
 (go_at_call 108;refine(HT.o (wc.alloc _) (some ⟨wc.heap.size,0,none⟩) 2 ((HUZ.o.tt HPc.o).alloc _) (x1a (l:=[shutT,shutT]) (heap_alloc_new wc _) trivial)).mono ?_;rintro r w9 ⟨B9,c9,⟨rfl,hp9⟩,hr9,hn9⟩;have HV9:=mK (fun o=>(HUZ.o.tt HPc.o).alloc o);have HL9:=mK (show w.heap.size < wc.heap.size+1 from by have h7:=HPc.o.size;have h8:=lt_of_block HBZ.o;omega);have HT9:=mK hp9;have HR9:=mK hr9;have HN9:=mK hn9;have HP9:=mK ((HPc.o.alloc _).tt hp9);have HB9:=mK (kP HP9.o HBZ.o);have hbl9:w.heap.size < w9.heap.size:=lt_of_block HB9.o;have hcf9:∀ i,w9.frozen? ⟨w.heap.size,i,none⟩=false:=(fun i=>by simp[World.frozen?,HB9.o]);obtain⟨k0,k1,k2,k3,k4,k5,k6,k7⟩:=x06 HB9.o;clear hp9 hr9 hn9)
 refine hK.out _ _ (fun _=>by with_reducible (first | exact HK8.o _ (up1 HPz.o) | exact HK8.o _ (up1 HPa.o) | exact HK8.o _ (up1 HPb.o) | exact HK8.o _ (up1 HPc.o) | exact HK8.o _ (up1 (HPc.o.alloc _)) | exact HK8.o _ (up1 HP9.o) | exact HK8.o _ (x0b (up1 HP9.o) _ _ _ _ _ _ _ _))) (fun hHeld=>?_)
 replace hHeld:=hHeld (by decide)
 clear hK K
 (try simp only[Act.put,sA,sB,sC])
 refine zT 10 ?_
 refine zT 11 ?_
 refine oT 12 (fun K hK=>?_)
 go_simp
 refine hK.out _ _ (fun _=>by with_reducible (first | exact HK8.o _ (up1 HPz.o) | exact HK8.o _ (up1 HPa.o) | exact HK8.o _ (up1 HPb.o) | exact HK8.o _ (up1 HPc.o) | exact HK8.o _ (up1 (HPc.o.alloc _)) | exact HK8.o _ (up1 HP9.o) | exact HK8.o _ (x0b (up1 HP9.o) _ _ _ _ _ _ _ _))) (fun hHeld=>?_)
 replace hHeld:=hHeld (by decide)
 clear hK K
 (try simp only[Act.put,sA,sB,sC])
 refine oT 13 (fun K hK=>?_)
 go_simp
 refine hK.out _ _ (fun h=>absurd rfl h) (fun hHeld=>?_)
 clear hK K
 (try simp only[Act.put,sA,sB,sC])
 refine x0l (by kernel_rfl) ?_ _
 go_wp2
 exact bodyPost_ret (step_end (rb:=w.heap.size) rfl _ rfl (set8 (rb:=w.heap.size) HB9.o _ _ _ _ _ _ _ _)) rfl ⟨B9,c9,⟨rfl,x05 ((HV9.o _).tt HT9.o) (Nat.le_refl _) _ _ _ _ _ _ _ _⟩,⟨Rp.x09 (Rp.x0f HR9.o.1 (x0b rU _ _ _ _ _ _ _ _) (fun k _ h e=>by have h7:=HL9.o;simp at h;omega)) (fun k h=>by have h7:=HL9.o;simp at h;omega),HR9.o.2⟩,HN9.o⟩
theorem told27_calls {cs n:Nat} {s:StepD} {x:List Tok} {e:Int} (hd:∀ W,Pure w W->Calls Tryz.prog 100 #[.pointer (some ⟨cb,0,none⟩),.slice A n c,s.val B cs] W (DocR9 W x e)) :
 Calls Tryz.prog 112 #[.pointer (some ⟨cb,0,none⟩),.slice A n c,s.val B cs] w (fun r w'=>ToldR (s.val B cs) e r/\Pure w w'):=by
 have HD:=mK hd
 clear hd
 unfold StepD.val at *
 by_cases h0:e=0
 ·subst h0
  go_enter Tryz.func112,Tryz.ntmps112
  go_wp2_with (go_at_call 100;refine(HD.o _ (aP.alloc _)).mono ?_;rintro r w1 hd;obtain⟨⟨B1,c1,rfl,_,hrow⟩,hu⟩:=DocR9.zero hd;obtain⟨hb1,hb2,hu2⟩:=x0s hu;obtain⟨q0,q1,q2,q3,q4,q5,q6,q7⟩:=x06 hb1;have HQ:=mK (lB hb1);have HB1:=mK hb2;have HU1:=mK hu2;clear hd hu hb1 hb2 hu2 hrow;apply As.o)
  refine⟨?_⟩
  have hql:=HQ.o
  have hbl:(w.heap.size+1) < w1.heap.size:=lB HB1.o
  have hcf:=fZ HB1.o
  obtain⟨k0,k1,k2,k3,k4,k5,k6,k7⟩:=x06 HB1.o
  go_wp2
  exact bodyPost_ret (step_end (rb:=(w.heap.size+1)) rfl _ rfl (set8 (rb:=(w.heap.size+1)) HB1.o _ _ _ _ _ _ _ _)) rfl ⟨.inl ⟨rfl,rfl⟩,x05 HU1.o (by omega) _ _ _ _ _ _ _ _⟩
 ·have HN:=mK h0
  have f0:(e != 0)=true:=by simpa using h0
  clear h0
  go_enter Tryz.func112,Tryz.ntmps112
  go_wp2_with (go_at_call 100;refine(HD.o _ (aP.alloc _)).mono ?_;rintro r w1 hd;obtain⟨rfl,hu⟩:=DocR9.ne hd HN.o;obtain⟨_,hb2,hu2⟩:=x0s hu;have HB1:=mK hb2;have HU1:=mK hu2;clear hd hu hb2 hu2;apply As.o)
  refine⟨?_⟩
  have hbl:(w.heap.size+1) < w1.heap.size:=lB HB1.o
  have hcf:=fZ HB1.o
  obtain⟨k0,k1,k2,k3,k4,k5,k6,k7⟩:=x06 HB1.o
  go_wp2
  exact bodyPost_ret (step_end (rb:=(w.heap.size+1)) rfl _ rfl (set8 (rb:=(w.heap.size+1)) HB1.o _ _ _ _ _ _ _ _)) rfl ⟨.inr ⟨HN.o,rfl⟩,x05 HU1.o (by omega) _ _ _ _ _ _ _ _⟩
theorem told27_doc {cs:Nat} {l:List Tok} {s:StepD} (h:H6 w cb) (hr:tokR.row w F A l) (hb:l.length<=1048576 * 4) (hd:Dn w A c l B cs s) :
 Calls Tryz.prog 112 #[.pointer (some ⟨cb,0,none⟩),.slice A l.length c,s.val B cs] w (Told (toldS s (x08 l s)) (toldB B (x08 l s)) (toldC cs (x08 l s)) (x08 l s) w):=
 (told27_calls (fun W hW=>Do10_calls (h.pure hW) (Rp.x01 hr hW) hb (hd.pure hW))).mono (fun _ _ h=>ToldR.told h)
theorem x67 {l:List Tok} {p:Int} (h:H6 w cb) (hr:tokR.row w F A l) (hb:l.length<=1048576 * 4) (hlc:l.length<=c) :
 Calls Tryz.prog 110 #[.pointer (some ⟨cb,0,none⟩),.slice A l.length c,.int .i64 p] w fun r w'=>r=.returned (.int .i64 (x0e l p p))/\Pure w w':=by
 have HC:=mK (x3v (c:=c) h hr hlc hb)
 have HE:=mK (show x0e l p p=if (x0d l).2 ≠ 0 then (x0d l).2 else if p < 0\/p < p\/(l.length:Int) < p then 1 else 0 from rfl)
 clear h hr
 generalize x0e l p p=pe at *
 generalize (x0d l).2=e at *
 generalize (x0d l).1=e1 at *
 by_cases h0:e=0
 ·subst h0
  rw[if_neg (by omega)] at HE
  by_cases b1:p < 0
  ·rw[if_pos (.inl b1)] at HE
   go_enter Tryz.func110,Tryz.ntmps110
   go_wp2_with (go_at_call 16;refine HC.o.mono ?_;rintro r w1 ⟨rfl,hu⟩;have HU1:=mK hu;clear hu)
   go_ret
   exact⟨(by rw[HE.o];rfl),HU1.o⟩
  ·by_cases b2:(l.length:Int) < p
   ·rw[if_pos (.inr (.inr b2))] at HE
    go_enter Tryz.func110,Tryz.ntmps110
    go_wp2_with (go_at_call 16;refine HC.o.mono ?_;rintro r w1 ⟨rfl,hu⟩;have HU1:=mK hu;clear hu)
    go_ret
    exact⟨(by rw[HE.o];rfl),HU1.o⟩
   ·rw[if_neg (by omega)] at HE
    go_enter Tryz.func110,Tryz.ntmps110
    go_wp2_with (go_at_call 16;refine HC.o.mono ?_;rintro r w1 ⟨rfl,hu⟩;have HU1:=mK hu;clear hu)
    go_ret
    exact⟨(by rw[HE.o];rfl),HU1.o⟩
 ·rw[if_pos h0] at HE
  have f0:(e == 0)=false:=by simpa using h0
  clear h0
  go_enter Tryz.func110,Tryz.ntmps110
  go_wp2_with (go_at_call 16;refine HC.o.mono ?_;rintro r w1 ⟨rfl,hu⟩;have HU1:=mK hu;clear hu)
  go_ret
  exact⟨(by rw[HE.o];rfl),HU1.o⟩
/-- The innermost item that is open; -1. -/
def hd6 (l:List Tok) (p:Int):Int:=((x28 l p).head?).getD (-1)
theorem hd6_nil {l:List Tok} {p:Int} (h:x28 l p=[]):hd6 l p=-1:=by unfold hd6;rw[h];rfl
theorem hd6_cons {l:List Tok} {p x:Int} {r:List Int} (h:x28 l p=x :: r):hd6 l p=x:=by unfold hd6;rw[h];rfl
/-- What Indent, Outdent of the reference answer. -/
def x3w (s:StepD) (e:Int) (w:World) (r:Ending) (w':World):Prop:=∃ B' c',Told (toldS s e) B' c' e w r w'/\tokR.row w' (fun _=>True) B' (toldS s e).sl
theorem x3w.no {s:StepD} {e:Int} {w':World} {r:Ending} (he:e ≠ 0) (h:r=.returned (.tuple #[step0,.int .i64 e])/\Pure w w'):x3w s e w r w':=by
 refine⟨none,0,?_,?_⟩
 ·rw[x0g he];exact⟨h.1,h.2⟩
 ·rw[x0g he];exact .inl rfl
theorem item27_calls {l:List Tok} {p:Int} (hr:tokR.row w F A l) (hb:l.length<=1048576 * 4) (hlc:l.length<=c) :
 Calls Tryz.prog 111 #[.slice A l.length c,.int .i64 p] w (fun r w'=>r=.returned (.int .i64 (hd6 l p))/\Pure w w'):=by
 have HR:=mK hr
 have HA:=mK (fun W (hu:Pure w W) (q:Int)=>x25 (c:=c) (at':=q) (Rp.x01 hr hu) hb hlc)
 have HLT:=mK (fun q:Int=>nar_lt l q)
 have HOP:=mK (fun (q:Int) (h:x04 l q ≠ -1)=>x20 h)
 have HI0:=mK (show x28 l p=x2f l (l.length+1) (x04 l p) from rfl)
 have HH:=mK (show hd6 l p=((x28 l p).head?).getD (-1) from rfl)
 clear hr
 generalize hd6 l p=res at *
 go_enter Tryz.func111,Tryz.ntmps111
 go_wp2_with (go_at_call 74;refine(HA.o _ rU p).mono ?_;rintro r w1 ⟨rfl,hu⟩;have HU1:=mK hu;clear hu)
 go_loopg [5] (l.length+1) (fun g i wr=>∃ (f:Nat) (q:Int),g=f/\i=.int .i64 q/\q < l.length/\q < (f:Int)/\-1<=q/\As ((x2f l f q).head?=(x28 l p).head?)/\As (Pure w wr))
 case atStart=>exact⟨l.length+1,x04 l p,rfl,rfl,HLT.o p,by have:=HLT.o p;omega,(by by_cases h:x04 l p=-1;omega;obtain⟨i,y,h1,_⟩:=HOP.o p h;omega),⟨by rw[HI0.o]⟩,HU1⟩
 case round=>
  obtain⟨f,q,hgf,rfl,hql,hqf,hq1,HS,HP⟩:=hrel
  obtain rfl:f=gk:=hgf.symm
  by_cases hq:q < 0
  ·have h9:¬ (0<=q):=by omega
   have hm:q=-1:=by omega
   have HQ:=mK (show res=q by
    rw[HH.o,<- HS.o,hm]
    have:x2f l f (-1)=[]:=by
     cases f with
     | zero=>rfl
     | succ f=>rw[x2f,if_pos (by decide)]
    rw[this];rfl)
   clear hm
   go_wp2
   go_ret
   exact⟨(by rw[HQ.o];rfl),HP.o⟩
  ·obtain⟨i,rfl⟩:=Int.eq_ofNat_of_zero_le (show 0<=q by omega)
   obtain⟨f',rfl⟩:∃ f',f=f'+1:=⟨f - 1,by omega⟩
   obtain⟨x,hx⟩:∃ x,l[i]?=some x:=⟨_,List.getElem?_eq_getElem (by omega)⟩
   obtain⟨bA,oA,rfl,hF,hbA,c0,c1,c2,c3⟩:=x0j (Rp.x01 HR.o HP.o) hx
   have hst:=items_step (f:=f') hx
   have hilt:i < l.length:=by omega
   have hnx:x04 l i < (i:Int)/\-1<=x04 l i:=by
    by_cases h:x04 l i=-1
    ·omega
    ·obtain⟨j,y,h1,_,_,h2⟩:=HOP.o i h
     omega
   have HNX:=mK hnx
   clear hx hF hbA c0 c2 c3 hnx
   by_cases h6:x.t=6
   ·rw[if_pos h6] at hst
    have HQ:=mK (show res=(i:Int) by rw[HH.o,<- HS.o,hst];rfl)
    have e6:(x.t != 6)=false:=by simp[h6]
    clear hst h6
    go_wp2
    go_ret
    exact⟨(by rw[HQ.o];rfl),HP.o⟩
   ·rw[if_neg h6,List.nil_append] at hst
    have HST:=mK hst
    have e6:(x.t != 6)=true:=by simpa using h6
    clear hst h6
    go_wp2_with (go_at_call 74;refine(HA.o _ HP.o (i:Int)).mono ?_;rintro r w6 ⟨rfl,hu⟩;have HU6:=mK (HP.o.tt hu);clear hu)
    go_roundg f'
    case measure=>omega
    case rel=>exact⟨f',x04 l i,rfl,rfl,HLT.o _,by have:=HNX.o;omega,HNX.o.2,⟨by rw[<- HS.o,HST.o]⟩,HU6⟩
theorem Indent27_a {bA oA:Nat} {l:List Tok} {p pt e:Int} {x2 pp li:Nat} {yl:Tok} {s':StepD} (hrow:tokR.row w F (some ⟨bA,oA,none⟩) l) (hb:l.length<=2048)
 (hp:∀ W,Pure w W->Calls Tryz.prog 110 #[.pointer (some ⟨cb,0,none⟩),.slice (some ⟨bA,oA,none⟩) l.length c,.int .i64 p] W (fun r w'=>r=.returned (.int .i64 0)/\Pure W w'))
 (hi:∀ W,Pure w W->Calls Tryz.prog 111 #[.slice (some ⟨bA,oA,none⟩) l.length c,.int .i64 p] W (fun r w'=>r=.returned (.int .i64 ((x2+2:Nat):Int))/\Pure W w'))
 (ha1:∀ W,Pure w W->Calls Tryz.prog 74 #[.slice (some ⟨bA,oA,none⟩) l.length c,.int .i64 ((x2+2:Nat):Int)] W (fun r w'=>r=.returned (.int .i64 (li:Nat))/\Pure W w'))
 (hp1:∀ W,Pure w W->Calls Tryz.prog 77 #[.slice (some ⟨bA,oA,none⟩) l.length c,.int .i64 ((x2+2:Nat):Int)] W (fun r w'=>r=.returned (.int .i64 pt)/\Pure W w'))
 (hp2:∀ W,Pure w W->Calls Tryz.prog 77 #[.slice (some ⟨bA,oA,none⟩) l.length c,.int .i64 (x2:Nat)] W (fun r w'=>r=.returned (.int .i64 (pp:Nat))/\Pure W w'))
 (hpt:-1<=pt/\pt < (l.length:Int)) (hyl:l[li]?=some yl) (hx1:l[x2+1]?=some shutT) (hx2:l[x2]?=some shutT) (hpp:l[pp]?=some yl)
 (ht:∀ W T,Pure w W->tokR.row W (fun _=>True) T [shutT,shutT]->Calls Tryz.prog 112 #[.pointer (some ⟨cb,0,none⟩),.slice (some ⟨bA,oA,none⟩) l.length c,(arnd ((x2:Int)) (pt+1) ((x2+2:Nat):Int) (pt+1) 0 [shutT,shutT]).val T 2] W (Told s' (toldB T e) (toldC 2 e) e W)) (h2:e=0->s'.sl=[shutT,shutT]) (h3:e ≠ 0->s'.sl=[]) :
 Calls Tryz.prog 52 #[.pointer (some ⟨cb,0,none⟩),.slice (some ⟨bA,oA,none⟩) l.length c,.int .i64 p] w (fun r w'=>∃ B' c',Told s' B' c' e w r w'/\tokR.row w' (fun _=>True) B' s'.sl):=by
 have HP:=mK hp
 have HI:=mK hi
 have HA1:=mK ha1
 have HP1:=mK hp1
 have HP2:=mK hp2
 have HT:=mK ht
 have HS:=mK (And.intro h2 h3)
 have xl:x2+1 < l.length:=(List.getElem?_eq_some_iff.1 hx1).1
 have ll:li < l.length:=(List.getElem?_eq_some_iff.1 hyl).1
 have pl:pp < l.length:=(List.getElem?_eq_some_iff.1 hpp).1
 have hw1:IntKind.i64.wrap (((x2+2:Nat):Int) - 1)=((x2+1:Nat):Int):=by rw[IntWalk.i64_in _ (by omega)];omega
 have hw2:IntKind.i64.wrap (((x2+2:Nat):Int) - 2)=(x2:Int):=by rw[IntWalk.i64_in _ (by omega)];omega
 have hw3:IntKind.i64.wrap ((x2:Int)+2 - 1)=((x2+1:Nat):Int):=by rw[IntWalk.i64_in _ (by omega)];omega
 have hw4:IntKind.i64.wrap ((x2:Int)+2 - 2)=(x2:Int):=by rw[IntWalk.i64_in _ (by omega)];omega
 have xl2:x2 < l.length:=by omega
 have i1:(x2:Int)+1 < (l.length:Int):=by omega
 have i2:(0:Int)<=(x2:Int)+1:=by omega
 have i3:¬ ((x2:Int)+2<=0):=by omega
 have hw5:IntKind.i64.wrap ((x2:Int)+1)=(x2:Int)+1:=IntWalk.i64_in _ (by omega)
 have hw6:IntKind.i64.wrap (x2:Int)=(x2:Int):=IntWalk.i64_in _ (by omega)
 have hw7:IntKind.i64.wrap (pt+1)=pt+1:=IntWalk.i64_in _ (by omega)
 obtain⟨b1,o1,hA1,_,hbA,c0,c1,c2,c3⟩:=x0j hrow hx1
 obtain⟨b2,o2,hA2,_,_,d0,d1,d2,d3⟩:=x0j hrow hx2
 obtain⟨b3,o3,hA3,_,_,g0,g1,g2,g3⟩:=x0j hrow hpp
 obtain⟨b4,o4,hA4,_,_,f0,f1,f2,f3⟩:=x0j hrow hyl
 simp only[Option.some.injEq,Addr.mk.injEq,and_true] at hA1 hA2 hA3 hA4
 obtain⟨rfl,rfl⟩:=hA1
 obtain⟨rfl,rfl⟩:=hA2
 obtain⟨rfl,rfl⟩:=hA3
 obtain⟨rfl,rfl⟩:=hA4
 have HKY:=mK (fun (v:World) (hu:Pure w v)=>(by
  have hh:∀ k,v.cell? ⟨bA,k,none⟩=w.cell? ⟨bA,k,none⟩:=fun k=>hu.cell hbA (fun h=>h)
  exact⟨(hh _).trans c0,(hh _).trans d0,(hh _).trans g0,(hh _).trans g1,(hh _).trans g2,(hh _).trans g3,(hh _).trans f0,(hh _).trans f1,(hh _).trans f2,(hh _).trans f3⟩:(fun v=>v.cell? ⟨bA,oA+(x2+1) * 4,none⟩=some (.int .i64 2)/\v.cell? ⟨bA,oA+x2 * 4,none⟩=some (.int .i64 2)/\v.cell? ⟨bA,oA+pp * 4,none⟩=some (.int .i64 yl.k)/\v.cell? ⟨bA,oA+pp * 4+1,none⟩=some (.int .i64 yl.t)/\v.cell? ⟨bA,oA+pp * 4+2,none⟩=some (.int .i64 yl.n)/\v.cell? ⟨bA,oA+pp * 4+3,none⟩=some (.int .i64 yl.m)/\v.cell? ⟨bA,oA+li * 4,none⟩=some (.int .i64 yl.k)/\v.cell? ⟨bA,oA+li * 4+1,none⟩=some (.int .i64 yl.t)/\v.cell? ⟨bA,oA+li * 4+2,none⟩=some (.int .i64 yl.n)/\v.cell? ⟨bA,oA+li * 4+3,none⟩=some (.int .i64 yl.m)) v))
 have HBA:=mK hbA
 clear hbA c0 c1 c2 c3 d0 d1 d2 d3 g0 g1 g2 g3 f0 f1 f2 f3
 clear hp hi ha1 hp1 hp2 ht h2 h3 hrow hx1 hx2 hpp hyl hpt
 unfold Told StepD.val at *
 unfold arnd at HT
 go_enter Tryz.func52,Tryz.ntmps52
 go_wp2_with (go_at_call 110;refine(HP.o _ aU).mono ?_;rintro r w1 ⟨rfl,hu⟩;obtain⟨hb1,hu1⟩:=x0i hu;have HB1:=mK hb1;have HU1:=mK hu1;clear hu hb1 hu1;apply As.o)
 refine⟨?_⟩
 go_wp2_with (go_at_call 111;refine(HI.o _ HU1.o).mono ?_;rintro r w2 ⟨rfl,hu⟩;have HB2:=mK (kP hu HB1.o);have HU2:=mK (HU1.o.tt hu);clear hu;apply As.o)
 refine⟨?_⟩
 obtain⟨y0,y1,y2,y3,y4,y5,y6,y7,y8,y9⟩:=HKY.o w2 HU2.o
 go_wp2_with (go_at_call 74;refine(HA1.o _ HU2.o).mono ?_;rintro r w3 ⟨rfl,hu⟩;have HB3:=mK (kP hu HB2.o);have HU3:=mK (HU2.o.tt hu);clear hu;apply As.o)
 refine⟨?_⟩
 clear y0 y1 y2 y3 y4 y5 y6 y7 y8 y9
 go_wp2_with (go_at_call 77;refine(HP1.o _ HU3.o).mono ?_;rintro r w4 ⟨rfl,hu⟩;have HB4:=mK (kP hu HB3.o);have HU4:=mK (HU3.o.tt hu);clear hu;apply As.o)
 refine⟨?_⟩
 obtain⟨y0,y1,y2,y3,y4,y5,y6,y7,y8,y9⟩:=HKY.o w4 HU4.o
 have hla:bA < w4.heap.size:=Nat.lt_of_lt_of_le HBA.o HU4.o.size
 have HSX:=mK (heap_alloc_new w4 (.cells #[.int .i64 2,.int .i64 0,.int .i64 0,.int .i64 0] 71))
 go_wp2_with (go_at_call 77;refine(HP2.o _ (HU4.o.alloc _)).mono ?_;rintro r w5 ⟨rfl,hu⟩;have HB5:=mK ((((Upd.alloc1 (fun _=>False) w4 _).tt hu).block w.heap.size (lt_of_block HB4.o) (fun h=>h)).trans HB4.o);have HU5:=mK ((HU4.o.alloc _).tt hu);have HS5:=mK ((hu.block w4.heap.size (by simp) (fun h=>h)).trans HSX.o);clear hu;apply As.o)
 refine⟨?_⟩
 clear y0 y1 y2 y3 y4 y5 y6 y7 y8 y9
 go_wp2
 refine wp_region_held_drew (S:=(fun v=>v.cell? ⟨bA,oA+(x2+1) * 4,none⟩=some (.int .i64 2)/\v.cell? ⟨bA,oA+x2 * 4,none⟩=some (.int .i64 2)/\v.cell? ⟨bA,oA+pp * 4,none⟩=some (.int .i64 yl.k)/\v.cell? ⟨bA,oA+pp * 4+1,none⟩=some (.int .i64 yl.t)/\v.cell? ⟨bA,oA+pp * 4+2,none⟩=some (.int .i64 yl.n)/\v.cell? ⟨bA,oA+pp * 4+3,none⟩=some (.int .i64 yl.m)/\v.cell? ⟨bA,oA+li * 4,none⟩=some (.int .i64 yl.k)/\v.cell? ⟨bA,oA+li * 4+1,none⟩=some (.int .i64 yl.t)/\v.cell? ⟨bA,oA+li * 4+2,none⟩=some (.int .i64 yl.n)/\v.cell? ⟨bA,oA+li * 4+3,none⟩=some (.int .i64 yl.m))) (by kernel_rfl) ?_ (fun hHeld=>?_)
 ·with_reducible (first | exact HKY.o _ HU5.o.drew | exact HKY.o _ HU5.o)
 refine zH 0 ?_
 refine zH 1 ?_
 refine zH 2 ?_
 refine zH 3 ?_
 (try simp only[Act.put,sA,sB,sC])
 refine zH 4 ?_
 refine zH 5 ?_
 refine zH 6 ?_
 refine zH 7 ?_
 (try simp only[Act.put,sA,sB,sC])
 refine zH 8 ?_
 refine zH 9 ?_
 refine zH 10 ?_
 refine zH 11 ?_
 (try simp only[Act.put,sA,sB,sC])
 refine zH 12 ?_
 refine wpAnyH_done (by kernel_rfl) ?_ _
 have HB5d:=mK (show w5.drew.heap[w.heap.size]?=_ from HB5.o)
 have HS5d:=mK (show w5.drew.heap[w4.heap.size]?=_ from HS5.o)
 have HU5d:=mK HU5.o.drew
 have HL4:=mK (lt_of_block HB4.o)
 generalize w5.drew=wd at *
 obtain⟨s0,s1,s2,s3⟩:=x5g HS5d.o
 have hsl:=lt_of_block HS5d.o
 have HX:=mK (heap_alloc_new wd (.cells #[.int .i64 2,.int .i64 0,.int .i64 0,.int .i64 0,.int .i64 2,.int .i64 0,.int .i64 0,.int .i64 0] 71))
 go_wp2_with (go_at_call 112;refine(HT.o _ (some ⟨wd.heap.size,0,none⟩) (HU5d.o.alloc _) (x1a (l:=[shutT,shutT]) HX.o trivial)).mono ?_;rintro r w9 ⟨rfl,hu⟩;have hp9:=(Upd.alloc1 (fun _=>False) wd _).tt hu;have HB9:=mK (kP hp9 HB5d.o);have HU9:=mK (HU5d.o.tt hp9);have HRR:=mK (show tokR.row w9 (fun k=>w.heap.size < k) (toldB (some ⟨wd.heap.size,0,none⟩) e) s'.sl from(x29 (e:=e) HS.o.1 HS.o.2 (Rp.x01 (x1a (F:=fun k=>w.heap.size < k) (l:=[shutT,shutT]) HX.o (lt_of_block HB5d.o)) hu) (c:=2) (Nat.le_refl 2)).1);clear hu hp9;apply As.o)
 refine⟨?_⟩
 have hbl:w.heap.size < w9.heap.size:=lt_of_block HB9.o
 have hcf:=fZ HB9.o
 obtain⟨k0,k1,k2,k3,k4,k5,k6,k7⟩:=x06 HB9.o
 go_wp2
 exact bodyPost_ret (step_end (rb:=w.heap.size) rfl _ rfl (set8 (rb:=w.heap.size) HB9.o _ _ _ _ _ _ _ _)) rfl ⟨_,_,⟨rfl,x05 HU9.o (Nat.le_refl _) _ _ _ _ _ _ _ _⟩,Rp.x09 (Rp.x0f HRR.o (x0b rU _ _ _ _ _ _ _ _) (fun k _ h e=>by omega)) (fun _ _=>trivial)⟩
end Go.Proofs.YtofjodppljnlaaaGreatDoor
