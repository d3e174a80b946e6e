/- My own texts, packed: Check. -/
import Derived.Test.YtofjodppljnlaaaGreatDoorP11
set_option maxRecDepth 100000
set_option maxHeartbeats 4000000
set_option linter.unusedVariables false
set_option linter.unusedSimpArgs false
variable {w w1 W:Go.World} {F G:Nat → Prop} {A B:Option Go.Addr} {cb c:Nat}
namespace Go.Proofs.YtofjodppljnlaaaGreatDoor
open Go.RowKit
theorem schemaCheck_main {rs:List (Spec × Ex)} {gs:List Grp} {l:List Tok} (h:SchR w cb rs gs) (hok:SchOk rs gs) (hr:tokR.row w F A l) (hb:l.length<=1048576 * 4) (hf:(x0a l).2=0) :
 Calls Tryz.prog 15 #[.pointer (some ⟨cb,0,none⟩),.slice A l.length c] w fun e w'=>e=.returned (.tuple #[.int .i64 (x12 rs gs l).1,.int .i64 (x12 rs gs l).2])/\Pure w w':=by
 have HNO:=mK (x5y h hok.ne)
 have HFC:=mK (x63 (c:=c) hr hb)
 have HH:=mK h
 have HOK:=mK hok
 have HR:=mK hr
 obtain⟨AL,cL,AG,cG,p0,p1,hcb,hle,hrow,hgrow⟩:=h.cells
 have HG:=mK hgrow
 have HROW:=mK hrow
 obtain⟨y,hy⟩:∃ y,rs[0]?=some y:=⟨_,List.getElem?_eq_getElem (List.length_pos_iff.2 hok.ne)⟩
 obtain⟨x0,e0⟩:=y
 obtain⟨b0,o0,A1,c1,rfl,_,hb0,d0,d1,d2,d3,d4,d5,d6,d7,d8,d9,hl1,hx1⟩:=rule_at hrow hy
 simp only[Nat.zero_mul,Nat.add_zero] at d0 d1 d2 d3 d4 d5 d6 d7 d8 d9
 have hlen:l.length<=2048:=by
  rcases Nat.lt_or_ge 2048 l.length with h9 | h9
  ·exfalso
   unfold x0a at hf
   rw[if_pos (by omega)] at hf
   simp at hf
  ·exact h9
 have hE:x12 rs gs l=ckGo rs gs 0 ((x0,e0),[]) [] l:=by
  unfold x12
  rw[if_pos hf]
  unfold x0r
  rw[show (0:Int).toNat=0 from rfl,hy]
  rfl
 have hF:fcGo 0 0 l=((l.length:Int),(0:Int)):=by
  have hu:x0a l=fcGo 0 0 l:=by unfold x0a;rw[if_neg (by omega)]
  rw[hu] at hf
  have h1:=fcGo_at l 0 0 hf
  rw[Prod.ext_iff]
  exact⟨by simpa using h1,hf⟩
 have HE:=mK hE
 have HFL:=mK hF
 have HM0:=mK (List.mem_of_getElem? hy)
 have HX1:=mK (And.intro hl1 (Rp.x1d (fun k (hk:True) hl=>⟨hl,hl,rfl⟩) hx1:exR.row w (fun k=>k < w.heap.size) A1 e0.l))
 have t1:((x0a l).2 != 0)=false:=by simpa using hf
 have hpos:0 < rs.length:=List.length_pos_iff.2 hok.ne
 have hrl:rs.length<=1000:=hok.len
 have hfz:(x0a l).2=0:=hf
 rw[hfz] at HFC
 clear h hok hr hf hE hF hrow hgrow hx1 hl1 hfz t1 hy
 go_enter Tryz.func15,Tryz.ntmps15
 go_wp2_with (first | (go_at_call 64;refine HFC.o.mono ?_;rintro r w2 ⟨rfl,hu⟩;have HU2:=mK hu;obtain⟨oc,of⟩:=hu.olds;have hz2:=hu.size;clear hu) | (go_at_call 63;refine HNO.o.mono ?_;rintro r w1 ⟨rfl,hw⟩;replace hw:=hw.symm;subst hw))
 go_loopg [9,34] l.length (fun gg ov i wr=>∃ (k d b cap:Nat),k+gg=l.length/\i=.int .i64 k/\ov=.slice (some ⟨b,0,none⟩) (d+1) cap/\As (∃ rv top below,d=below.length/\CkRel w rs gs l k b cap rv top below wr))
 case atStart=>
  exact⟨0,0,w2.heap.size,1,by omega,rfl,rfl,⟨[((x0,e0),.slice none 0 0)],((x0,e0),[]),[],rfl,⟨⟨[[]],Opn.start HU2.o HX1.o.1 (Rp.x01 HX1.o.2 HU2.o),rfl⟩,rfl,HE.o.symm,HFL.o,fun p hp=>by
   simp only[List.mem_singleton] at hp
   subst hp
   exact⟨Nat.zero_le _,HM0.o⟩⟩⟩⟩
 case round=>
  obtain⟨k,d,b,cap,hk,rfl,rfl,HC⟩:=hrel
  clear oc of d0 d1 d2 d3 d4 d5 d6 d7 d8 d9 hb0 HU2 hz2 HE HFL HM0 HX1 HNO HFC
  by_cases hlt:k < l.length
  ·obtain⟨x,hx⟩:=gS hlt
   obtain⟨rv,top,below,hd,hC⟩:=HC.o
   obtain⟨init,v,wi,hrv,hil,hop,him,hwi⟩:=hC.split
   obtain rfl:d=init.length:=hd.trans hil.symm
   obtain⟨⟨x1,e1⟩,wd⟩:=top
   replace hop:Opn w b cap (init ++ [((x1,e1),v)]) (wi ++ [wd]) wr:=hop
   have hup:=hop.up
   have HUP:=mK hup
   obtain⟨bt,ot,rfl,hFb,hbl,q0,q1,q2,q3⟩:=x0j (Rp.x01 HR.o hup) hx
   obtain⟨A2,c2,m3,m6,m7,m8,m9,m10,hl2,hx2⟩:=hop.lev (j:=init.length) (x:=x1) (e:=e1) (v:=v) (by simp)
   have hbb:=hop.blt
   have hroom:=hop.room
   rw[show (init ++ [((x1,e1),v)]).length=init.length+1 by simp] at hroom
   obtain⟨Aw,cw,rfl,hlw,hrw⟩:=Rp.x0c hop.top
   have pc0:=(hup.cell (o:=0) hcb (fun h=>h)).trans p0
   have pc1:=(hup.cell (o:=1) hcb (fun h=>h)).trans p1
   have hcb2:=Nat.lt_of_lt_of_le hcb hup.size
   have hgo:=hC.go
   have hfl:=hC.flat
   rw[drop_cons hx] at hgo hfl
   have hwords:=hC.words
   have hw1:wd.length<=k/\(x1,e1) ∈ rs:=hwords ((x1,e1),wd) List.mem_cons_self
   have HOP:=mK hop
   have HIM:=mK (And.intro him hwi)
   have HK:=mK hk
   have HWD:=mK hwords
   have hd33:init.length<=2048:=by
    have h9:=fcGo_depth _ _ _ (by rw[hfl])
    rw[List.length_cons,List.length_drop] at h9
    omega
   have HACC:=mK (fun V (hu:Pure wr V)=>acc_calls (c:=c2) (d:=cG) (cw:=cw) (SchR.made HOK.o HG.o (HUP.o.tt hu) hw1.2 (Rp.x01 hx2 hu)) (Rp.x01 hrw hu) (by have:=hw1.1;omega))
   obtain⟨g1,rfl⟩:=sC1 (by omega:0 < gk)
   obtain⟨W,hW⟩:∃ W,W=wr.alloc (.cells #[.int .i64 x.k,.int .i64 x.t,.int .i64 x.n,.int .i64 x.m] 71):=⟨_,rfl⟩
   have HPW:=mK (show Pure wr W from hW ▸ Upd.alloc1 _ _ _)
   have hWb:W.heap[wr.heap.size]?=some (.cells #[.int .i64 x.k,.int .i64 x.t,.int .i64 x.n,.int .i64 x.m] 71):=hW ▸ heap_alloc_new wr _
   have HWB:=mK hWb
   have HWS:=mK (show W.heap.size=wr.heap.size+1 by subst hW;simp)
   have HCEL:As (∀ V,Pure wr V->V.cell? ⟨b,init.length * 11+7,none⟩=some (.int .i64 e1.k)/\V.cell? ⟨b,init.length * 11+8,none⟩=some (.string e1.name)/\V.cell? ⟨b,init.length * 11+9,none⟩=some (.slice A2 e1.l.length c2)/\V.cell? ⟨b,init.length * 11+10,none⟩=some (.slice Aw wd.length cw)/\V.cell? ⟨cb,1,none⟩=some (.slice AG gs.length cG)):=⟨fun V hu=>⟨(hu.cell hbb (fun h=>h)).trans m7,(hu.cell hbb (fun h=>h)).trans m8,(hu.cell hbb (fun h=>h)).trans m9,(hu.cell hbb (fun h=>h)).trans m10,(hu.cell hcb2 (fun h=>h)).trans pc1⟩⟩
   clear hwords hx2 hrw hC hd hil hop him hwi hx HC hk hup hrv
   by_cases h2:x.k=2
   ·have e2:(x.k == 2)=true:=by simp[h2]
    obtain⟨hn0,hfl2⟩:=fc_close hfl h2
    have HFL2:=mK hfl2
    cases hacc:x0n e1 gs wd
    ·have HV:=mK (show ((k:Int),(9:Int))=x12 rs gs l by rw[<- hgo,ck_noclose h2 hacc])
     rw[hacc] at HACC
     clear hgo hfl hfl2 h2 hn0 hacc
     go_wp2
     rw[<- hW]
     clear hW
     refine wp_region_held_drew (S:=(fun V=>V.cell? ⟨b,init.length * 11+7,none⟩=some (.int .i64 e1.k)/\V.cell? ⟨b,init.length * 11+8,none⟩=some (.string e1.name)/\V.cell? ⟨b,init.length * 11+9,none⟩=some (.slice A2 e1.l.length c2)/\V.cell? ⟨b,init.length * 11+10,none⟩=some (.slice Aw wd.length cw)/\V.cell? ⟨cb,1,none⟩=some (.slice AG gs.length cG))) (by kernel_rfl) ?_ (fun hHeld=>?_)
     ·first | exact HCEL.o _ HPW.o.drew | exact HCEL.o _ HU3.o
     refine zH 0 ?_
     refine zH 1 ?_
     refine zH 2 ?_
     refine zH 3 ?_
     (try simp only[Act.put,sA,sB,sC])
     refine zH 4 ?_
     refine zH 5 ?_
     refine zH 6 ?_
     refine zH 7 ?_
     (try simp only[Act.put,sA,sB,sC])
     refine zH 8 ?_
     refine zH 9 ?_
     refine zH 10 ?_
     refine zH 11 ?_
     (try simp only[Act.put,sA,sB,sC])
     refine zH 12 ?_
     refine wpAnyH_ready (rs:=[13]) (by kernel_rfl) (by simp) (AllReadyH.cons (by exact opAt rfl) (fun K hK=>?_) AllReadyH.nil)
     go_simp
     (go_at_call 66;refine(HACC.o _ HPW.o.drew).mono ?_;rintro r w3 ⟨rfl,hu⟩;have HU3:=mK (HPW.o.drew.tt hu);clear hu)
     refine hK.out _ _ (by first | exact HCEL.o _ HPW.o.drew | exact HCEL.o _ HU3.o) (fun hHeld=>?_)
     clear hK K
     (try simp only[Act.put,sA,sB,sC])
     refine zH 14 ?_
     refine wpAnyH_done (by kernel_rfl) ?_ _
     go_wp2
     exact bodyPost_ret (v:=.tuple #[.int .i64 (k:Int),.int .i64 9]) (by simp[results,Tryz.results15,go_sem]) rfl ⟨by rw[<- HV.o],HUP.o.tt HU3.o⟩
    ·obtain⟨p,q,rfl⟩:∃ p q,below=p :: q:=by
      cases below with
      | nil=>exact absurd rfl hn0
      | cons p q=>exact⟨p,q,rfl⟩
     have HV:=mK (show ckGo rs gs (k+1) p q (l.drop (k+1))=x12 rs gs l by rw[<- hgo,ck_close h2 hacc])
     have HIL2:=mK (show init.length=q.length+1 by have:=congrArg List.length HIM.o.1;simpa using this)
     rw[hacc] at HACC
     clear hgo hfl hfl2 h2 hn0 hacc
     go_wp2
     rw[<- hW]
     clear hW
     refine wp_region_held_drew (S:=(fun V=>V.cell? ⟨b,init.length * 11+7,none⟩=some (.int .i64 e1.k)/\V.cell? ⟨b,init.length * 11+8,none⟩=some (.string e1.name)/\V.cell? ⟨b,init.length * 11+9,none⟩=some (.slice A2 e1.l.length c2)/\V.cell? ⟨b,init.length * 11+10,none⟩=some (.slice Aw wd.length cw)/\V.cell? ⟨cb,1,none⟩=some (.slice AG gs.length cG))) (by kernel_rfl) ?_ (fun hHeld=>?_)
     ·first | exact HCEL.o _ HPW.o.drew | exact HCEL.o _ HU3.o
     refine zH 0 ?_
     refine zH 1 ?_
     refine zH 2 ?_
     refine zH 3 ?_
     refine zH 4 ?_
     (try simp only[Act.put,sA,sB,sC])
     refine zH 5 ?_
     refine zH 6 ?_
     refine zH 7 ?_
     refine zH 8 ?_
     (try simp only[Act.put,sA,sB,sC])
     refine zH 9 ?_
     refine zH 10 ?_
     refine zH 11 ?_
     refine zH 12 ?_
     (try simp only[Act.put,sA,sB,sC])
     refine wpAnyH_ready (rs:=[13]) (by kernel_rfl) (by simp) (AllReadyH.cons (by exact opAt rfl) (fun K hK=>?_) AllReadyH.nil)
     go_simp
     (go_at_call 66;refine(HACC.o _ HPW.o.drew).mono ?_;rintro r w3 ⟨rfl,hu⟩;have HU3:=mK (HPW.o.drew.tt hu);clear hu)
     refine hK.out _ _ (by first | exact HCEL.o _ HPW.o.drew | exact HCEL.o _ HU3.o) (fun hHeld=>?_)
     clear hK K
     (try simp only[Act.put,sA,sB,sC])
     refine zH 14 ?_
     refine wpAnyH_done (by kernel_rfl) ?_ _
     go_wp2
     go_roundg g1
     case measure=>omega
     case rel=>exact⟨k+1,q.length,b,cap,by have:=HK.o;omega,by go_num,by rw[HIL2.o],⟨init,p,q,rfl,CkRel.closed HWD.o HOP.o HIM.o.1 HIM.o.2 HV.o (by simpa using HFL2.o) HU3.o⟩⟩
   ·have e2:(x.k == 2)=false:=by simp[h2]
    have HTOP:=mK (Rp.own_drew (x5a HOP.o.top HPW.o (fun _ _ h=>h)))
    have HLEN:=mK (show (wd.length+1) * 8<=140737488355328 by have:=hw1.1;omega)
    have HBB:=mK (And.intro hbb (HOP.o.frozen (init.length * 11+10)))
    have HSK:As (∀ V,Upd (fun q=>(Value.slice Aw wd.length cw).ownBlock=some q) W.drew V->V.cell? ⟨b,init.length * 11+10,none⟩=some (.slice Aw wd.length cw)/\V.frozen? ⟨b,init.length * 11+10,none⟩=false/\V.cell? ⟨wr.heap.size,1,none⟩=some (.int .i64 x.t)):=⟨by
     intro V hu
     have hnb:¬ (Value.slice Aw wd.length cw).ownBlock=some b:=fun e=>(Rp.x03 HOP.o.top b e).1.2 rfl
     have hnt:¬ (Value.slice Aw wd.length cw).ownBlock=some wr.heap.size:=fun e=>by have:=(Rp.x03 HOP.o.top _ e).2;omega
     have hbW:b < W.drew.heap.size:=by have:=HWS.o;have:=HBB.o.1;show b < W.heap.size;omega
     have htW:wr.heap.size < W.drew.heap.size:=by have:=HWS.o;show wr.heap.size < W.heap.size;omega
     refine⟨(hu.cell hbW hnb).trans (HCEL.o _ HPW.o.drew).2.2.2.1,(hu.frozen hbW hnb).trans ((HPW.o.drew.frozen HBB.o.1 (fun h=>h)).trans HBB.o.2),(hu.cell htW hnt).trans ?_⟩
     show W.cell? _=_
     unfold World.cell?;simp only[HWB.o];rfl⟩
    clear hw1
    go_wp2
    rw[<- hW]
    clear hW
    refine x0m (P:=Tryz.prog) (fun V=>V.cell? ⟨b,init.length * 11+10,none⟩=some (.slice Aw wd.length cw)/\V.frozen? ⟨b,init.length * 11+10,none⟩=false/\V.cell? ⟨wr.heap.size,1,none⟩=some (.int .i64 x.t)) 11 (by kernel_rfl) ?_ (fun hHeld=>?_)
    ·first | exact HSK.o _ rU | exact HSK.o _ aU | exact HSK.o _ HU4.o
    refine zT 0 ?_
    refine zT 1 ?_
    refine zT 2 ?_
    refine zT 3 ?_
    refine zT 4 ?_
    refine zT 5 ?_
    (try simp only[Act.put,sA,sB,sC])
    refine zT 6 ?_
    refine oT 7 (fun K hK=>?_)
    go_simp
    refine hK.out _ _ (fun _=>by first | exact HSK.o _ rU | exact HSK.o _ aU | exact HSK.o _ HU4.o) (fun hHeld=>?_)
    replace hHeld:=hHeld (by decide)
    clear hK K
    (try simp only[Act.put,sA,sB,sC])
    refine oT 8 (fun K hK=>?_)
    refine Rp.x5k intRS (W:=W.drew) (Fp:=fun _=>False) HTOP.o x.t [.int .i64 x.t] rfl (fun _ h=>h.elim) (by rfl) _ _ 83 (.int .i64 0) 8 (by rfl) Tryz.underlying83 x1n rfl (by decide) (by decide) (by rfl) (n:=W.heap.size) rfl (by rfl) HLEN.o ?_;intro v4 w4 ho4 hu4 hat4;obtain⟨A4,c4,rfl,hl4,hr4⟩:=Rp.x0c ho4;have HO4:=mK ho4;have HU4:=mK hu4;have HAT4:=mK hat4;obtain⟨s1,s2,s3⟩:=HSK.o w4 hu4;clear ho4 hu4 hat4 hl4 hr4
    refine hK.out _ _ (fun _=>by first | exact HSK.o _ rU | exact HSK.o _ aU | exact HSK.o _ HU4.o) (fun hHeld=>?_)
    replace hHeld:=hHeld (by decide)
    clear hK K
    (try simp only[Act.put,sA,sB,sC])
    refine oT 9 (fun K hK=>?_)
    go_simp
    refine hK.out _ _ (fun _=>by first | exact HSK.o _ rU | exact HSK.o _ aU | exact HSK.o _ HU4.o) (fun hHeld=>?_)
    replace hHeld:=hHeld (by decide)
    clear hK K
    (try simp only[Act.put,sA,sB,sC])
    refine zT 10 ?_
    refine oT 11 (fun K hK=>?_)
    go_simp
    refine hK.out _ _ (fun h=>absurd rfl h) (fun hHeld=>?_)
    clear hK K
    (try simp only[Act.put,sA,sB,sC])
    refine x0l (by kernel_rfl) ?_ _
    obtain⟨W5,hW5⟩:∃ W5,W5=w4.setCell ⟨b,init.length * 11+10,none⟩ (.slice A4 (wd ++ [x.t]).length c4):=⟨_,rfl⟩
    have HOP5:As (Opn w b cap (init ++ [((x1,e1),.slice A4 (wd ++ [x.t]).length c4)]) (wi ++ [wd ++ [x.t]]) W5):=⟨by
     rw[hW5]
     have hws:=HWS.o
     have hsz:W.drew.heap.size=W.heap.size:=rfl
     refine HOP.o.grow HO4.o (fun q hq=>?_) ((HPW.o.drew.mono (fun _ _ h=>h.elim)).tt HU4.o) ?_
     ·rcases HAT4.o with e | ⟨q',hq',hle⟩
      ·rw[e] at hq
       exact(Rp.x03 HOP.o.top q hq).1
      ·rw[hq'] at hq
       injection hq with hq
       have:=HOP.o.ge
       have:=HBB.o.1
       omega
     ·rcases HAT4.o with e | ⟨q',hq',hle⟩
      ·exact .inl e
      ·exact .inr ⟨q',hq',by omega⟩⟩
    have HTK:As (∀ V,Pure W5 V->V.cell? ⟨wr.heap.size,0,none⟩=some (.int .i64 x.k)/\V.cell? ⟨wr.heap.size,1,none⟩=some (.int .i64 x.t)/\V.cell? ⟨wr.heap.size,2,none⟩=some (.int .i64 x.n)/\V.cell? ⟨wr.heap.size,3,none⟩=some (.int .i64 x.m)):=⟨by
     intro V hu
     have hws:=HWS.o
     have hnt:¬ (Value.slice Aw wd.length cw).ownBlock=some wr.heap.size:=fun e=>by have:=(Rp.x03 HOP.o.top _ e).2;omega
     have hblk:W5.heap[wr.heap.size]?=some (.cells #[.int .i64 x.k,.int .i64 x.t,.int .i64 x.n,.int .i64 x.m] 71):=by
      rw[hW5]
      rw[Below.heap_setCell _ _ _ _ (by have:=HBB.o.1;simp;omega),HU4.o.block _ (by show wr.heap.size < W.heap.size;omega) hnt]
      exact HWB.o
     have hb5:=(hu.block wr.heap.size (lB hblk) (fun h=>h)).trans hblk
     refine⟨?_,?_,?_,?_⟩ <;> (unfold World.cell?;simp only[hb5];rfl)⟩
    have HLT5:=mK (show wr.heap.size < W5.heap.size by
     have h1:=HU4.o.size
     have h2:=HWS.o
     have h3:W.drew.heap.size=W.heap.size:=rfl
     have h4:W5.heap.size=w4.heap.size:=by rw[hW5];simp[World.setCell]
     omega)
    rw[List.length_append,List.length_singleton] at hW5
    try rw[<- hW5]
    clear hW5
    obtain⟨A3,c3,n3,n6,n7,n8,n9,n10,hl3,hx3⟩:=HOP5.o.lev (j:=init.length) (x:=x1) (e:=e1) (v:=.slice A4 (wd ++ [x.t]).length c4) (by simp)
    have HUP5:=mK HOP5.o.up
    have pd1:=(HOP5.o.up.cell (o:=1) hcb (fun h=>h)).trans p1
    rw[List.length_append,List.length_singleton] at n10
    have hb5:=HOP5.o.blt
    have hcb5:=Nat.lt_of_lt_of_le hcb HOP5.o.up.size
    have HCEL5:As (∀ V,Pure W5 V->(V.cell? ⟨b,init.length * 11+7,none⟩=some (.int .i64 e1.k)/\V.cell? ⟨b,init.length * 11+8,none⟩=some (.string e1.name)/\V.cell? ⟨b,init.length * 11+9,none⟩=some (.slice A3 e1.l.length c3)/\V.cell? ⟨b,init.length * 11+10,none⟩=some (.slice A4 (wd.length+1) c4)/\V.cell? ⟨cb,1,none⟩=some (.slice AG gs.length cG))/\V.cell? ⟨wr.heap.size,0,none⟩=some (.int .i64 x.k)/\V.cell? ⟨wr.heap.size,1,none⟩=some (.int .i64 x.t)/\V.cell? ⟨wr.heap.size,2,none⟩=some (.int .i64 x.n)/\V.cell? ⟨wr.heap.size,3,none⟩=some (.int .i64 x.m)):=⟨fun V hu=>⟨⟨(hu.cell hb5 (fun h=>h)).trans n7,(hu.cell hb5 (fun h=>h)).trans n8,(hu.cell hb5 (fun h=>h)).trans n9,(hu.cell hb5 (fun h=>h)).trans n10,(hu.cell hcb5 (fun h=>h)).trans pd1⟩,HTK.o V hu⟩⟩
    have HMAY:=mK (fun V (hu:Pure W5 V)=>may_calls (HH.o.pure (HUP5.o.tt hu)) HOK.o.ne HOK.o.len (Nat.lt_of_lt_of_le hb5 hu.size) ((hu.cell hb5 (fun h=>h)).trans n3) ((hu.cell hb5 (fun h=>h)).trans n6) x)
    have hrw5:intRS.row W5 (fun k=>w.heap.size<=k/\k ≠ b) A4 (wd ++ [x.t]):=by
     obtain⟨A',c',hv',_,hr'⟩:=Rp.x0c HOP5.o.top
     simp only[Value.slice.injEq] at hv'
     obtain⟨rfl,_,_⟩:=hv'
     exact hr'
    have hm1:(x1,e1) ∈ rs:=(HWD.o ((x1,e1),wd) List.mem_cons_self).2
    have hwl:wd.length<=k:=(HWD.o ((x1,e1),wd) List.mem_cons_self).1
    have HBEG:=mK (fun V (hu:Pure W5 V)=>beg_calls (c:=c3) (d:=cG) (cw:=c4) (SchR.made HOK.o HG.o (HUP5.o.tt hu) hm1 (Rp.x01 hx3 hu)) (Rp.x01 hrw5 hu) (by simp;omega))
    rw[List.length_append,List.length_singleton] at HBEG
    have hrows:=hrw5
    clear hrw5 hx3 s1 s2 s3 m3 m6 m7 m8 m9 m10 n3 n6 n7 n8 n9 n10 pd1 hrows HTOP HBB HSK HCEL HO4 HU4 HAT4 HPW HWB HWS HACC
    cases hm:mayT rs x1 x
    ·have HV:=mK (show ((k:Int),(9:Int))=x12 rs gs l by rw[<- hgo,ck_bad h2 (by unfold x36;simp only[hm];rfl)])
     rw[hm] at HMAY
     clear hgo hfl h2 hm
     go_wp2
     refine wp_region_held_drew (S:=(fun V=>(V.cell? ⟨b,init.length * 11+7,none⟩=some (.int .i64 e1.k)/\V.cell? ⟨b,init.length * 11+8,none⟩=some (.string e1.name)/\V.cell? ⟨b,init.length * 11+9,none⟩=some (.slice A3 e1.l.length c3)/\V.cell? ⟨b,init.length * 11+10,none⟩=some (.slice A4 (wd.length+1) c4)/\V.cell? ⟨cb,1,none⟩=some (.slice AG gs.length cG))/\V.cell? ⟨wr.heap.size,0,none⟩=some (.int .i64 x.k)/\V.cell? ⟨wr.heap.size,1,none⟩=some (.int .i64 x.t)/\V.cell? ⟨wr.heap.size,2,none⟩=some (.int .i64 x.n)/\V.cell? ⟨wr.heap.size,3,none⟩=some (.int .i64 x.m))) (by kernel_rfl) ?_ (fun hHeld=>?_)
     ·first | exact HCEL5.o _ HU6.o | exact HCEL5.o _ (rU.drew)
     refine zH 0 ?_
     refine zH 1 ?_
     refine zH 2 ?_
     refine wpAnyH_ready (rs:=[3]) (by kernel_rfl) (by simp) (AllReadyH.cons (by exact opAt rfl) (fun K hK=>?_) AllReadyH.nil)
     go_simp
     (go_at_call 67;refine(HMAY.o _ (rU.drew)).mono ?_;rintro r w6 ⟨rfl,hu⟩;have HU6:=mK (Upd.trans ((Upd.refl (fun _=>False) W5).drew) hu (fun _ _ h=>h));clear hu)
     refine hK.out _ _ (by first | exact HCEL5.o _ HU6.o | exact HCEL5.o _ (rU.drew)) (fun hHeld=>?_)
     clear hK K
     (try simp only[Act.put,sA,sB,sC])
     refine zH 4 ?_
     refine zH 5 ?_
     refine sH 6 ?_
     refine sH 7 ?_
     refine sH 8 ?_
     refine sH 9 ?_
     (try simp only[Act.put,sA,sB,sC])
     refine sH 10 ?_
     refine sH 11 ?_
     refine sH 12 ?_
     refine sH 13 ?_
     (try simp only[Act.put,sA,sB,sC])
     refine sH 14 ?_
     refine sH 15 ?_
     refine sH 16 ?_
     refine sH 17 ?_
     (try simp only[Act.put,sA,sB,sC])
     refine sH 18 ?_
     refine sH 19 ?_
     refine sH 20 ?_
     refine sH 21 ?_
     (try simp only[Act.put,sA,sB,sC])
     refine sH 22 ?_
     refine sH 23 ?_
     refine sH 24 ?_
     refine sH 25 ?_
     (try simp only[Act.put,sA,sB,sC])
     refine sH 26 ?_
     refine zH 27 ?_
     refine wpAnyH_done (by kernel_rfl) ?_ _
     go_wp2
     exact bodyPost_ret (v:=.tuple #[.int .i64 (k:Int),.int .i64 9]) (by simp[results,Tryz.results15,go_sem]) rfl ⟨by rw[<- HV.o],HUP5.o.tt HU6.o⟩
    ·have hst:x36 rs gs ((x1,e1),wd) x=decide (wd.length+1<=x18 e1 gs (wd ++ [x.t])):=by
      unfold x36
      simp only[hm]
      exact Bool.true_and _
     rw[hm] at HMAY
     cases hbg:decide (wd.length+1<=x18 e1 gs (wd ++ [x.t]))
     ·rw[hbg] at hst
      have HV:=mK (show ((k:Int),(9:Int))=x12 rs gs l by rw[<- hgo,ck_bad h2 hst])
      clear hgo hfl h2 hm hst
      generalize x18 e1 gs (wd ++ [x.t])=bg at *
      have u1:decide ((bg:Int) < (wd.length:Int)+1)=true:=by
       simp only[decide_eq_false_iff_not] at hbg
       rw[decide_eq_true_eq];omega
      have u2:decide (bg < wd.length+1)=true:=by
       simp only[decide_eq_false_iff_not] at hbg
       rw[decide_eq_true_eq];omega
      clear hbg
      go_wp2
      refine wp_region_held_drew (S:=(fun V=>(V.cell? ⟨b,init.length * 11+7,none⟩=some (.int .i64 e1.k)/\V.cell? ⟨b,init.length * 11+8,none⟩=some (.string e1.name)/\V.cell? ⟨b,init.length * 11+9,none⟩=some (.slice A3 e1.l.length c3)/\V.cell? ⟨b,init.length * 11+10,none⟩=some (.slice A4 (wd.length+1) c4)/\V.cell? ⟨cb,1,none⟩=some (.slice AG gs.length cG))/\V.cell? ⟨wr.heap.size,0,none⟩=some (.int .i64 x.k)/\V.cell? ⟨wr.heap.size,1,none⟩=some (.int .i64 x.t)/\V.cell? ⟨wr.heap.size,2,none⟩=some (.int .i64 x.n)/\V.cell? ⟨wr.heap.size,3,none⟩=some (.int .i64 x.m))) (by kernel_rfl) ?_ (fun hHeld=>?_)
      ·first | exact HCEL5.o _ HU7.o | exact HCEL5.o _ HU6.o | exact HCEL5.o _ (rU.drew)
      refine zH 0 ?_
      refine zH 1 ?_
      (try simp only[Act.put,sA,sB,sC])
      refine zH 2 ?_
      refine wpAnyH_ready (rs:=[3]) (by kernel_rfl) (by simp) (AllReadyH.cons (by exact opAt rfl) (fun K hK=>?_) AllReadyH.nil)
      go_simp
      (first | (go_at_call 65;refine(HBEG.o _ HU6.o).mono ?_;rintro r w7 ⟨rfl,hu⟩;have HU7:=mK (HU6.o.tt hu);clear hu) | (go_at_call 67;refine(HMAY.o _ (rU.drew)).mono ?_;rintro r w6 ⟨rfl,hu⟩;have HU6:=mK (Upd.trans ((Upd.refl (fun _=>False) W5).drew) hu (fun _ _ h=>h));clear hu))
      refine hK.out _ _ (by first | exact HCEL5.o _ HU7.o | exact HCEL5.o _ HU6.o | exact HCEL5.o _ (rU.drew)) (fun hHeld=>?_)
      clear hK K
      (try simp only[Act.put,sA,sB,sC])
      refine zH 4 ?_
      refine zH 5 ?_
      refine zH 6 ?_
      refine zH 7 ?_
      refine zH 8 ?_
      refine zH 9 ?_
      (try simp only[Act.put,sA,sB,sC])
      refine zH 10 ?_
      refine zH 11 ?_
      refine zH 12 ?_
      refine zH 13 ?_
      (try simp only[Act.put,sA,sB,sC])
      refine zH 14 ?_
      refine zH 15 ?_
      refine zH 16 ?_
      refine zH 17 ?_
      (try simp only[Act.put,sA,sB,sC])
      refine zH 18 ?_
      refine zH 19 ?_
      refine zH 21 ?_
      refine zH 22 ?_
      (try simp only[Act.put,sA,sB,sC])
      refine zH 23 ?_
      refine zH 24 ?_
      refine zH 25 ?_
      refine wpAnyH_ready (rs:=[20]) (by kernel_rfl) (by simp) (AllReadyH.cons (by exact opAt rfl) (fun K hK=>?_) AllReadyH.nil)
      go_simp
      (first | (go_at_call 65;refine(HBEG.o _ HU6.o).mono ?_;rintro r w7 ⟨rfl,hu⟩;have HU7:=mK (HU6.o.tt hu);clear hu) | (go_at_call 67;refine(HMAY.o _ (rU.drew)).mono ?_;rintro r w6 ⟨rfl,hu⟩;have HU6:=mK (Upd.trans ((Upd.refl (fun _=>False) W5).drew) hu (fun _ _ h=>h));clear hu))
      refine hK.out _ _ (by first | exact HCEL5.o _ HU7.o | exact HCEL5.o _ HU6.o | exact HCEL5.o _ (rU.drew)) (fun hHeld=>?_)
      clear hK K
      (try simp only[Act.put,sA,sB,sC])
      refine zH 26 ?_
      refine zH 27 ?_
      refine wpAnyH_done (by kernel_rfl) ?_ _
      go_wp2
      exact bodyPost_ret (v:=.tuple #[.int .i64 (k:Int),.int .i64 9]) (by simp[results,Tryz.results15,go_sem]) rfl ⟨by rw[<- HV.o],HUP5.o.tt HU7.o⟩
     ·rw[hbg] at hst
      have HST:=mK hst
      generalize x18 e1 gs (wd ++ [x.t])=bg at *
      have u1:decide ((bg:Int) < (wd.length:Int)+1)=false:=by
       simp only[decide_eq_true_eq] at hbg
       rw[decide_eq_false_iff_not];omega
      have u2:decide (bg < wd.length+1)=false:=by
       simp only[decide_eq_true_eq] at hbg
       rw[decide_eq_false_iff_not];omega
      clear hbg hst
      by_cases h1:x.k=1
      ·have e1':(x.k == 1)=true:=by simp[h1]
       obtain⟨j,hj,y,ye,hy,hru⟩:=mayT_open h1 hm
       have HJ:=mK hj
       clear hj
       have HV:=mK (show ckGo rs gs (k+1) ((y,ye),[]) (((x1,e1),wd ++ [x.t]) :: below) (l.drop (k+1))=x12 rs gs l by rw[<- hgo,ck_open h1 HST.o,hru])
       have HF:=mK (fc_open hfl h1)
       have HYM:=mK (List.mem_of_getElem? hy)
       obtain⟨by',oy',Ay,cy,hA,_,hby,g0,g1',g2,g3,g4,g5,g6,g7,g8,g9,hly,hxy⟩:=rule_at HROW.o hy
       simp only[Option.some.injEq,Addr.mk.injEq] at hA
       obtain⟨rfl,rfl,_⟩:=hA
       have hjl:j < rs.length:=(List.getElem?_eq_some_iff.1 hy).1
       clear hgo hfl h2 hm h1 hy hru
       go_wp2
       refine wp_region_held_drew (S:=(fun V=>(V.cell? ⟨b,init.length * 11+7,none⟩=some (.int .i64 e1.k)/\V.cell? ⟨b,init.length * 11+8,none⟩=some (.string e1.name)/\V.cell? ⟨b,init.length * 11+9,none⟩=some (.slice A3 e1.l.length c3)/\V.cell? ⟨b,init.length * 11+10,none⟩=some (.slice A4 (wd.length+1) c4)/\V.cell? ⟨cb,1,none⟩=some (.slice AG gs.length cG))/\V.cell? ⟨wr.heap.size,0,none⟩=some (.int .i64 x.k)/\V.cell? ⟨wr.heap.size,1,none⟩=some (.int .i64 x.t)/\V.cell? ⟨wr.heap.size,2,none⟩=some (.int .i64 x.n)/\V.cell? ⟨wr.heap.size,3,none⟩=some (.int .i64 x.m))) (by kernel_rfl) ?_ (fun hHeld=>?_)
       ·first | exact HCEL5.o _ HU7.o | exact HCEL5.o _ HU6.o | exact HCEL5.o _ (rU.drew)
       refine zH 0 ?_
       refine zH 1 ?_
       (try simp only[Act.put,sA,sB,sC])
       refine zH 2 ?_
       refine wpAnyH_ready (rs:=[3]) (by kernel_rfl) (by simp) (AllReadyH.cons (by exact opAt rfl) (fun K hK=>?_) AllReadyH.nil)
       go_simp
       (first | (go_at_call 65;refine(HBEG.o _ HU6.o).mono ?_;rintro r w7 ⟨rfl,hu⟩;have HU7:=mK (HU6.o.tt hu);clear hu) | (go_at_call 67;refine(HMAY.o _ (rU.drew)).mono ?_;rintro r w6 ⟨rfl,hu⟩;have HU6:=mK (Upd.trans ((Upd.refl (fun _=>False) W5).drew) hu (fun _ _ h=>h));clear hu))
       refine hK.out _ _ (by first | exact HCEL5.o _ HU7.o | exact HCEL5.o _ HU6.o | exact HCEL5.o _ (rU.drew)) (fun hHeld=>?_)
       clear hK K
       (try simp only[Act.put,sA,sB,sC])
       refine zH 4 ?_
       refine zH 5 ?_
       refine zH 6 ?_
       refine zH 7 ?_
       refine zH 8 ?_
       refine zH 9 ?_
       (try simp only[Act.put,sA,sB,sC])
       refine zH 10 ?_
       refine zH 11 ?_
       refine zH 12 ?_
       refine zH 13 ?_
       (try simp only[Act.put,sA,sB,sC])
       refine zH 14 ?_
       refine zH 15 ?_
       refine zH 16 ?_
       refine zH 17 ?_
       (try simp only[Act.put,sA,sB,sC])
       refine zH 18 ?_
       refine zH 19 ?_
       refine zH 21 ?_
       refine zH 22 ?_
       (try simp only[Act.put,sA,sB,sC])
       refine zH 23 ?_
       refine zH 24 ?_
       refine zH 25 ?_
       refine wpAnyH_ready (rs:=[20]) (by kernel_rfl) (by simp) (AllReadyH.cons (by exact opAt rfl) (fun K hK=>?_) AllReadyH.nil)
       go_simp
       (first | (go_at_call 65;refine(HBEG.o _ HU6.o).mono ?_;rintro r w7 ⟨rfl,hu⟩;have HU7:=mK (HU6.o.tt hu);clear hu) | (go_at_call 67;refine(HMAY.o _ (rU.drew)).mono ?_;rintro r w6 ⟨rfl,hu⟩;have HU6:=mK (Upd.trans ((Upd.refl (fun _=>False) W5).drew) hu (fun _ _ h=>h));clear hu))
       refine hK.out _ _ (by first | exact HCEL5.o _ HU7.o | exact HCEL5.o _ HU6.o | exact HCEL5.o _ (rU.drew)) (fun hHeld=>?_)
       clear hK K
       (try simp only[Act.put,sA,sB,sC])
       refine zH 26 ?_
       refine zH 27 ?_
       refine wpAnyH_done (by kernel_rfl) ?_ _
       obtain⟨q0,q1,q2,q3⟩:=HTK.o w7 HU7.o
       rw[HJ.o] at q1
       have HU7d:=mK (show Pure W5 w7.drew from HU7.o.drew)
       have HOP7:=mK (HOP5.o.pure HU7d.o)
       have HRL:=mK (show (init ++ [((x1,e1),(.slice A4 (wd ++ [x.t]).length c4:Value))]).length+1=init.length+1+1 by simp)
       have HSK7:As (∀ V,Upd (fun q=>(Value.slice (some ⟨b,0,none⟩) (init.length+1) cap).ownBlock=some q) w7.drew V->V.cell? ⟨cb,0,none⟩=some (.slice (some ⟨b0,o0,none⟩) rs.length cL)/\V.cell? ⟨wr.heap.size,1,none⟩=some (.int .i64 (j:Int))/\V.cell? ⟨b0,o0+j * 10,none⟩=some (.string y.name)/\V.cell? ⟨b0,o0+j * 10+1,none⟩=some (.string y.expr)/\V.cell? ⟨b0,o0+j * 10+2,none⟩=some (.bool y.leaf)/\V.cell? ⟨b0,o0+j * 10+3,none⟩=some (.int .i64 y.marks)/\V.cell? ⟨b0,o0+j * 10+4,none⟩=some (.int .i64 y.least)/\V.cell? ⟨b0,o0+j * 10+5,none⟩=some (.int .i64 y.most)/\V.cell? ⟨b0,o0+j * 10+6,none⟩=some (.bool y.lines)/\V.cell? ⟨b0,o0+j * 10+7,none⟩=some (.int .i64 ye.k)/\V.cell? ⟨b0,o0+j * 10+8,none⟩=some (.string ye.name)/\V.cell? ⟨b0,o0+j * 10+9,none⟩=some (.slice Ay ye.l.length cy)):=⟨by
        intro V hu
        have hsz:w7.drew.heap.size=w7.heap.size:=rfl
        have hz1:=HU7.o.size
        have hz2:=HUP5.o.size
        have hge:=HOP7.o.ge
        have hn1:∀ q,q < w.heap.size->¬ (Value.slice (some ⟨b,0,none⟩) (init.length+1) cap).ownBlock=some q:=fun q hq e=>by
         injection e with e
         have e2:b=q:=e
         omega
        have ho:∀ q o,q < w.heap.size->V.cell? ⟨q,o,none⟩=w.cell? ⟨q,o,none⟩:=fun q o hq=>(hu.cell (by omega) (hn1 q hq)).trans ((HUP5.o.tt HU7d.o).cell hq (fun h=>h))
        have hnt:¬ (Value.slice (some ⟨b,0,none⟩) (init.length+1) cap).ownBlock=some wr.heap.size:=fun e=>by
         injection e with e
         have e2:b=wr.heap.size:=e
         omega
        have htW:wr.heap.size < w7.drew.heap.size:=by
         have:=HLT5.o
         omega
        refine⟨(ho _ _ hcb).trans p0,(hu.cell htW hnt).trans q1,(ho _ _ hby).trans g0,(ho _ _ hby).trans g1',(ho _ _ hby).trans g2,(ho _ _ hby).trans g3,(ho _ _ hby).trans g4,(ho _ _ hby).trans g5,(ho _ _ hby).trans g6,(ho _ _ hby).trans g7,(ho _ _ hby).trans g8,(ho _ _ hby).trans g9⟩⟩
       have HOWN7:As ((levR w.heap.size).own 99 w7.drew (fun q=>q < w.heap.size\/q=b) (.slice (some ⟨b,0,none⟩) (init.length+1) cap) (init ++ [((x1,e1),(.slice A4 (wd ++ [x.t]).length c4:Value))])):=⟨by
        have h9:=HOP7.o.own
        rw[show (init ++ [((x1,e1),(.slice A4 (wd ++ [x.t]).length c4:Value))]).length=init.length+1 by simp] at h9
        exact h9⟩
       have HREP:As ((levR w.heap.size).rep w7.drew (fun q=>q < w.heap.size) ((y,ye),(.slice none 0 0:Value)) [.string y.name,.string y.expr,.bool y.leaf,.int .i64 y.marks,.int .i64 y.least,.int .i64 y.most,.bool y.lines,.int .i64 ye.k,.string ye.name,.slice Ay ye.l.length cy,.slice none 0 0]):=⟨⟨_,rfl,rfl,rep_rule hly (Rp.x1d (fun q hq hl=>⟨⟨hl,hl⟩,Nat.lt_of_lt_of_le hl (HUP5.o.tt HU7d.o).size,(HUP5.o.tt HU7d.o).block q hl (fun h=>h)⟩) hxy)⟩⟩
       have HFP7:As (∀ q,q < w.heap.size->q < w7.drew.heap.size->some q ≠ (Value.slice (some ⟨b,0,none⟩) (init.length+1) cap).ownBlock):=⟨fun q hq _ e=>by
        injection e with e
        have e2:q=b:=e
        have:=HOP7.o.ge
        omega⟩
       have HLEN7:As (((init ++ [((x1,e1),(.slice A4 (wd ++ [x.t]).length c4:Value))]).length+1) * 144<=140737488355328):=⟨by
        simp only[List.length_append,List.length_singleton];omega⟩
       obtain⟨s1,s2,sg⟩:=HSK7.o _ rU
       clear g0 g1' g2 g3 g4 g5 g6 g7 g8 g9 hxy hly
       go_wp2
       refine x0m (P:=Tryz.prog) (fun V=>V.cell? ⟨cb,0,none⟩=some (.slice (some ⟨b0,o0,none⟩) rs.length cL)/\V.cell? ⟨wr.heap.size,1,none⟩=some (.int .i64 (j:Int))/\V.cell? ⟨b0,o0+j * 10,none⟩=some (.string y.name)/\V.cell? ⟨b0,o0+j * 10+1,none⟩=some (.string y.expr)/\V.cell? ⟨b0,o0+j * 10+2,none⟩=some (.bool y.leaf)/\V.cell? ⟨b0,o0+j * 10+3,none⟩=some (.int .i64 y.marks)/\V.cell? ⟨b0,o0+j * 10+4,none⟩=some (.int .i64 y.least)/\V.cell? ⟨b0,o0+j * 10+5,none⟩=some (.int .i64 y.most)/\V.cell? ⟨b0,o0+j * 10+6,none⟩=some (.bool y.lines)/\V.cell? ⟨b0,o0+j * 10+7,none⟩=some (.int .i64 ye.k)/\V.cell? ⟨b0,o0+j * 10+8,none⟩=some (.string ye.name)/\V.cell? ⟨b0,o0+j * 10+9,none⟩=some (.slice Ay ye.l.length cy)) 12 (by kernel_rfl) ?_ (fun hHeld=>?_)
       ·first | exact HSK7.o _ rU | exact HSK7.o _ aU | exact HSK7.o _ HU8.o
       refine zT 0 ?_
       refine zT 1 ?_
       (try simp only[Act.put,sA,sB,sC])
       refine zT 2 ?_
       refine zT 3 ?_
       refine zT 4 ?_
       refine zT 5 ?_
       (try simp only[Act.put,sA,sB,sC])
       refine zT 6 ?_
       refine zT 7 ?_
       refine zT 8 ?_
       refine zT 9 ?_
       (try simp only[Act.put,sA,sB,sC])
       refine oT 10 (fun K hK=>?_)
       go_simp
       refine hK.out _ _ (fun _=>by first | exact HSK7.o _ rU | exact HSK7.o _ aU | exact HSK7.o _ HU8.o) (fun hHeld=>?_)
       replace hHeld:=hHeld (by decide)
       clear hK K
       (try simp only[Act.put,sA,sB,sC])
       refine oT 11 (fun K hK=>?_)
       refine Rp.x5k (levR w.heap.size) (W:=w7.drew) (Fp:=fun q=>q < w.heap.size) HOWN7.o ((y,ye),(.slice none 0 0:Value)) [.string y.name,.string y.expr,.bool y.leaf,.int .i64 y.marks,.int .i64 y.least,.int .i64 y.most,.bool y.lines,.int .i64 ye.k,.string ye.name,.slice Ay ye.l.length cy,.slice none 0 0] HREP.o HFP7.o (by rfl) _ _ 100 (.agg #[.string ⟨#[]⟩,.string ⟨#[]⟩,.bool false,.int .i64 0,.int .i64 0,.int .i64 0,.bool false,.int .i64 0,.string ⟨#[]⟩,.slice none 0 0,.slice none 0 0]) 144 (by rfl) Tryz.underlying100 lev_info rfl (by show 0 < 11;decide) (by decide) (by rfl) (n:=w7.heap.size) rfl (by rfl) HLEN7.o ?_;intro v8 w8 ho8 hu8 hat8;obtain⟨b8,cap8,hv8,hop8⟩:=Opn.push HOP7.o ho8 hu8 hat8;rw[HRL.o] at hv8;subst hv8;have HOP8:=mK hop8;have HU8:=mK hu8;clear ho8 hu8 hat8 hop8
       refine hK.out _ _ (fun _=>by first | exact HSK7.o _ rU | exact HSK7.o _ aU | exact HSK7.o _ HU8.o) (fun hHeld=>?_)
       replace hHeld:=hHeld (by decide)
       clear hK K
       (try simp only[Act.put,sA,sB,sC])
       refine oT 12 (fun K hK=>?_)
       go_simp
       refine hK.out _ _ (fun h=>absurd rfl h) (fun hHeld=>?_)
       clear hK K
       (try simp only[Act.put,sA,sB,sC])
       refine x0l (by kernel_rfl) ?_ _
       try go_wp2
       go_roundg g1
       case measure=>omega
       case rel=>exact⟨k+1,init.length+1,b8,cap8,by have:=HK.o;omega,by go_num,rfl,⟨_,_,_,by have:=congrArg List.length HIM.o.1;simpa using this,CkRel.opened HWD.o HOP8.o HIM.o.1 HIM.o.2 HYM.o HV.o HF.o.2⟩⟩
      ·have e1':(x.k == 1)=false:=by simp[h1]
       have HV:=mK (show ckGo rs gs (k+1) ((x1,e1),wd ++ [x.t]) below (l.drop (k+1))=x12 rs gs l by rw[<- hgo,ck_leaf h2 h1 HST.o])
       have HF:=mK (fc_else hfl h1 h2)
       clear hgo hfl h2 hm h1
       go_wp2
       refine wp_region_held_drew (S:=(fun V=>(V.cell? ⟨b,init.length * 11+7,none⟩=some (.int .i64 e1.k)/\V.cell? ⟨b,init.length * 11+8,none⟩=some (.string e1.name)/\V.cell? ⟨b,init.length * 11+9,none⟩=some (.slice A3 e1.l.length c3)/\V.cell? ⟨b,init.length * 11+10,none⟩=some (.slice A4 (wd.length+1) c4)/\V.cell? ⟨cb,1,none⟩=some (.slice AG gs.length cG))/\V.cell? ⟨wr.heap.size,0,none⟩=some (.int .i64 x.k)/\V.cell? ⟨wr.heap.size,1,none⟩=some (.int .i64 x.t)/\V.cell? ⟨wr.heap.size,2,none⟩=some (.int .i64 x.n)/\V.cell? ⟨wr.heap.size,3,none⟩=some (.int .i64 x.m))) (by kernel_rfl) ?_ (fun hHeld=>?_)
       ·first | exact HCEL5.o _ HU7.o | exact HCEL5.o _ HU6.o | exact HCEL5.o _ (rU.drew)
       refine zH 0 ?_
       refine zH 1 ?_
       refine zH 2 ?_
       refine wpAnyH_ready (rs:=[3]) (by kernel_rfl) (by simp) (AllReadyH.cons (by exact opAt rfl) (fun K hK=>?_) AllReadyH.nil)
       go_simp
       (first | (go_at_call 65;refine(HBEG.o _ HU6.o).mono ?_;rintro r w7 ⟨rfl,hu⟩;have HU7:=mK (HU6.o.tt hu);clear hu) | (go_at_call 67;refine(HMAY.o _ (rU.drew)).mono ?_;rintro r w6 ⟨rfl,hu⟩;have HU6:=mK (Upd.trans ((Upd.refl (fun _=>False) W5).drew) hu (fun _ _ h=>h));clear hu))
       refine hK.out _ _ (by first | exact HCEL5.o _ HU7.o | exact HCEL5.o _ HU6.o | exact HCEL5.o _ (rU.drew)) (fun hHeld=>?_)
       clear hK K
       (try simp only[Act.put,sA,sB,sC])
       refine zH 4 ?_
       refine zH 5 ?_
       refine zH 6 ?_
       refine zH 7 ?_
       refine zH 8 ?_
       (try simp only[Act.put,sA,sB,sC])
       refine zH 9 ?_
       refine zH 10 ?_
       refine zH 11 ?_
       refine zH 12 ?_
       (try simp only[Act.put,sA,sB,sC])
       refine zH 13 ?_
       refine zH 14 ?_
       refine zH 15 ?_
       refine zH 16 ?_
       (try simp only[Act.put,sA,sB,sC])
       refine zH 17 ?_
       refine zH 18 ?_
       refine zH 19 ?_
       refine zH 21 ?_
       (try simp only[Act.put,sA,sB,sC])
       refine zH 22 ?_
       refine zH 23 ?_
       refine zH 24 ?_
       refine zH 25 ?_
       (try simp only[Act.put,sA,sB,sC])
       refine wpAnyH_ready (rs:=[20]) (by kernel_rfl) (by simp) (AllReadyH.cons (by exact opAt rfl) (fun K hK=>?_) AllReadyH.nil)
       go_simp
       (first | (go_at_call 65;refine(HBEG.o _ HU6.o).mono ?_;rintro r w7 ⟨rfl,hu⟩;have HU7:=mK (HU6.o.tt hu);clear hu) | (go_at_call 67;refine(HMAY.o _ (rU.drew)).mono ?_;rintro r w6 ⟨rfl,hu⟩;have HU6:=mK (Upd.trans ((Upd.refl (fun _=>False) W5).drew) hu (fun _ _ h=>h));clear hu))
       refine hK.out _ _ (by first | exact HCEL5.o _ HU7.o | exact HCEL5.o _ HU6.o | exact HCEL5.o _ (rU.drew)) (fun hHeld=>?_)
       clear hK K
       (try simp only[Act.put,sA,sB,sC])
       refine zH 26 ?_
       refine zH 27 ?_
       refine wpAnyH_done (by kernel_rfl) ?_ _
       obtain⟨q0,q1,q2,q3⟩:=HTK.o w7 HU7.o
       go_wp2
       go_roundg g1
       case measure=>omega
       case rel=>exact⟨k+1,init.length,b,cap,by have:=HK.o;omega,by go_num,rfl,⟨_,_,below,by have:=congrArg List.length HIM.o.1;simpa using this,CkRel.leaf HWD.o (HOP5.o.pure HU7.o) HIM.o.1 HIM.o.2 HV.o HF.o⟩⟩
  ·obtain rfl:k=l.length:=by omega
   obtain⟨rv,top,below,hd,hC⟩:=HC.o
   obtain⟨init,v,wi,hrv,hil,hop,him,hwi⟩:=hC.split
   obtain⟨⟨x1,e1⟩,wd⟩:=top
   replace hop:Opn w b cap (init ++ [((x1,e1),v)]) (wi ++ [wd]) wr:=hop
   have hup:=hop.up
   have HUP:=mK hup
   have hfl:=hC.flat
   have hgo:=hC.go
   rw[List.drop_length] at hfl hgo
   have hb0:below.length=0:=by
    unfold fcGo at hfl
    by_cases h0:below.length=0
    ·exact h0
    ·rw[if_neg h0] at hfl
     simp at hfl
   obtain rfl:below=[]:=List.eq_nil_of_length_eq_zero hb0
   obtain rfl:init=[]:=List.eq_nil_of_length_eq_zero (by rw[hil];rfl)
   obtain rfl:d=0:=hd
   obtain⟨A2,c2,m3,m6,m7,m8,m9,m10,hl2,hx2⟩:=hop.lev (j:=0) (x:=x1) (e:=e1) (v:=v) rfl
   simp only[Nat.zero_mul,Nat.zero_add] at m3 m6 m7 m8 m9 m10
   have hbb:=hop.blt
   obtain⟨Aw,cw,rfl,hlw,hrw⟩:=Rp.x0c hop.top
   have pc1:=(hup.cell (o:=1) hcb (fun h=>h)).trans p1
   have hcb2:=Nat.lt_of_lt_of_le hcb hup.size
   have hw1:wd.length<=l.length/\(x1,e1) ∈ rs:=hC.words ((x1,e1),wd) List.mem_cons_self
   have HACC:=mK (fun V (hu:Pure wr V)=>acc_calls (c:=c2) (d:=cG) (cw:=cw) (SchR.made HOK.o HG.o (HUP.o.tt hu) hw1.2 (Rp.x01 hx2 hu)) (Rp.x01 hrw hu) (by have:=hw1.1;omega))
   have HCEL:As (∀ V,Pure wr V->V.cell? ⟨b,7,none⟩=some (.int .i64 e1.k)/\V.cell? ⟨b,8,none⟩=some (.string e1.name)/\V.cell? ⟨b,9,none⟩=some (.slice A2 e1.l.length c2)/\V.cell? ⟨b,10,none⟩=some (.slice Aw wd.length cw)/\V.cell? ⟨cb,1,none⟩=some (.slice AG gs.length cG)):=⟨fun V hu=>⟨(hu.cell hbb (fun h=>h)).trans m7,(hu.cell hbb (fun h=>h)).trans m8,(hu.cell hbb (fun h=>h)).trans m9,(hu.cell hbb (fun h=>h)).trans m10,(hu.cell hcb2 (fun h=>h)).trans pc1⟩⟩
   rw[ck_end] at hgo
   have HGO:=mK hgo
   clear hx2 hrw hC hop HC hup hfl hgo hb0 hw1
   try clear hd
   try clear hil
   try clear him hwi hrv
   try clear hk
   cases hacc:x0n e1 gs wd
   ·have HV:=mK (show ((l.length:Int),(9:Int))=x12 rs gs l by rw[<- HGO.o,if_neg (by simp only[hacc];exact Bool.false_ne_true)])
    rw[hacc] at HACC
    clear hacc HGO
    go_wp2
    refine wp_region_held_drew (S:=(fun V=>V.cell? ⟨b,7,none⟩=some (.int .i64 e1.k)/\V.cell? ⟨b,8,none⟩=some (.string e1.name)/\V.cell? ⟨b,9,none⟩=some (.slice A2 e1.l.length c2)/\V.cell? ⟨b,10,none⟩=some (.slice Aw wd.length cw)/\V.cell? ⟨cb,1,none⟩=some (.slice AG gs.length cG))) (by kernel_rfl) ?_ (fun hHeld=>?_)
    ·first | exact HCEL.o _ rU.drew | exact HCEL.o _ HU3.o
    refine zH 0 ?_
    refine zH 1 ?_
    refine zH 2 ?_
    refine zH 3 ?_
    refine zH 4 ?_
    (try simp only[Act.put,sA,sB,sC])
    refine zH 5 ?_
    refine zH 6 ?_
    refine zH 7 ?_
    refine zH 8 ?_
    (try simp only[Act.put,sA,sB,sC])
    refine zH 9 ?_
    refine zH 10 ?_
    refine zH 11 ?_
    refine zH 12 ?_
    (try simp only[Act.put,sA,sB,sC])
    refine wpAnyH_ready (rs:=[13]) (by kernel_rfl) (by simp) (AllReadyH.cons (by exact opAt rfl) (fun K hK=>?_) AllReadyH.nil)
    go_simp
    (go_at_call 66;refine(HACC.o _ rU.drew).mono ?_;rintro r w3 ⟨rfl,hu⟩;have HU3:=mK (Upd.trans ((Upd.refl (fun _=>False) wr).drew) hu (fun _ _ h=>h));clear hu)
    refine hK.out _ _ (by first | exact HCEL.o _ rU.drew | exact HCEL.o _ HU3.o) (fun hHeld=>?_)
    clear hK K
    (try simp only[Act.put,sA,sB,sC])
    refine zH 14 ?_
    refine wpAnyH_done (by kernel_rfl) ?_ _
    go_wp2
    exact bodyPost_ret (v:=.tuple #[.int .i64 (l.length:Int),.int .i64 9]) (by simp[results,Tryz.results15,go_sem]) rfl ⟨by rw[<- HV.o],HUP.o.tt HU3.o⟩
   ·have HV:=mK (show ((l.length:Int),(0:Int))=x12 rs gs l by rw[<- HGO.o,if_pos (by simp only[hacc])])
    rw[hacc] at HACC
    clear hacc HGO
    go_wp2
    refine wp_region_held_drew (S:=(fun V=>V.cell? ⟨b,7,none⟩=some (.int .i64 e1.k)/\V.cell? ⟨b,8,none⟩=some (.string e1.name)/\V.cell? ⟨b,9,none⟩=some (.slice A2 e1.l.length c2)/\V.cell? ⟨b,10,none⟩=some (.slice Aw wd.length cw)/\V.cell? ⟨cb,1,none⟩=some (.slice AG gs.length cG))) (by kernel_rfl) ?_ (fun hHeld=>?_)
    ·first | exact HCEL.o _ rU.drew | exact HCEL.o _ HU3.o
    refine zH 0 ?_
    refine zH 1 ?_
    refine zH 2 ?_
    refine zH 3 ?_
    refine zH 4 ?_
    refine zH 5 ?_
    (try simp only[Act.put,sA,sB,sC])
    refine zH 6 ?_
    refine zH 7 ?_
    refine zH 8 ?_
    refine zH 9 ?_
    (try simp only[Act.put,sA,sB,sC])
    refine zH 10 ?_
    refine zH 11 ?_
    refine zH 12 ?_
    refine wpAnyH_ready (rs:=[13]) (by kernel_rfl) (by simp) (AllReadyH.cons (by exact opAt rfl) (fun K hK=>?_) AllReadyH.nil)
    go_simp
    (go_at_call 66;refine(HACC.o _ rU.drew).mono ?_;rintro r w3 ⟨rfl,hu⟩;have HU3:=mK (Upd.trans ((Upd.refl (fun _=>False) wr).drew) hu (fun _ _ h=>h));clear hu)
    refine hK.out _ _ (by first | exact HCEL.o _ rU.drew | exact HCEL.o _ HU3.o) (fun hHeld=>?_)
    clear hK K
    (try simp only[Act.put,sA,sB,sC])
    refine zH 14 ?_
    refine wpAnyH_done (by kernel_rfl) ?_ _
    go_wp2
    exact bodyPost_ret (v:=.tuple #[.int .i64 (l.length:Int),.int .i64 0]) (by simp[results,Tryz.results15,go_sem]) rfl ⟨by rw[<- HV.o],HUP.o.tt HU3.o⟩
end Go.Proofs.YtofjodppljnlaaaGreatDoor
