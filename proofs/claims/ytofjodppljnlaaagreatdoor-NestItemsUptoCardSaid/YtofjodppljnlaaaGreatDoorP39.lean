/- My own texts, packed: Nest, NestI, Nest6, Nest6o. -/
import Derived.Test.YtofjodppljnlaaaGreatDoorP24
import Derived.Test.YtofjodppljnlaaaGreatDoorP31
set_option maxRecDepth 100000
set_option maxHeartbeats 4000000
set_option linter.unusedVariables false
set_option linter.unusedSimpArgs false
variable {w w1 W:Go.World} {F G:Nat → Prop} {A B:Option Go.Addr} {cb c:Nat}
namespace Go.Proofs.YtofjodppljnlaaaGreatDoor
open Go.RowKit
theorem x13 (w:World):Calls Tryz.prog 107 #[] w (fun r w'=>r=.returned shutT.val/\Pure w w'):=by
 go_enter Tryz.func107,Tryz.ntmps107
 go_wp2
 exact bodyPost_ret (tok_end rfl _ rfl (heap_alloc_new w _)) rfl ⟨rfl,(by repeat (first | exact Upd.refl _ _ | exact HU1.o | (refine Upd.alloc ?_ _) | (refine Upd.setCell ?_ (by intro h;simp at h;try omega) _) | (refine Upd.drew ?_) | (refine Upd.drewN ?_ _) | (refine Upd.trans ?_ HU1.o (fun _ _ h=>h))))⟩
theorem agg8_end {fn:Func} {p:Tmp} (hres:fn.results=#[.cell p 46]) (tmps:Array Value) {w:World} {rb:Nat} {y0 y1 y2 y3 y4 y5 y6 y7:Value} {t:TypeId} {fr:Nat × Nat} (hp:tmps.getD p undef=.pointer (some ⟨rb,0,none⟩)) (hg:w.heap[rb]?=some (.cells #[y0,y1,y2,y3,y4,y5,y6,y7] t fr)) :
 (results fn tmps).run Tryz.prog w=.ok (.agg #[y0,y1,y2,y3,y4,y5,y6,y7]) w:=by
 have hp':tmps[p]?.getD undef=.pointer (some ⟨rb,0,none⟩):=by simpa using hp
 simp[results,hres,hp',asAddr,run_loadVar_row (P:=Tryz.prog) _ rb t 46 _ fr _ hg Tryz.underlying46 rfl (by kernel_rfl)]
theorem results_tmp4 {fn:Func} {t u v x:Tmp} (h:fn.results=#[.tmp t,.tmp u,.tmp v,.tmp x]) (tmps:Array Value) (P:Program) (w:World) :
 (results fn tmps).run P w=.ok (.tuple #[tmps.getD t undef,tmps.getD u undef,tmps.getD v undef,tmps.getD x undef]) w:=by
 simp[results,h]
theorem nar_lt (l:List Tok) (q:Int):x04 l q < l.length:=by
 by_cases h:x04 l q=-1
 ·omega
 ·obtain⟨i,y,h1,h2,_⟩:=x20 h
  have:=(List.getElem?_eq_some_iff.1 h2).1
  omega
theorem x4d (a b g h n:Int) (w:World):Calls Tryz.prog 109 #[.int .i64 a,.int .i64 b,.int .i64 g,.int .i64 h,.int .i64 n] w (fun r w'=>r=.returned (.agg #[.int .i64 1,.int .i64 a,.int .i64 b,.int .i64 g,.int .i64 h,.int .i64 n,.slice none 0 0,.int .i64 0])/\Pure w w'):=by
 go_enter Tryz.func109,Tryz.ntmps109
 go_wp2
 exact bodyPost_ret (agg8_end rfl _ rfl (heap_alloc_new w _)) rfl ⟨rfl,(by repeat (first | exact Upd.refl _ _ | exact HU1.o | (refine Upd.alloc ?_ _) | (refine Upd.setCell ?_ (by intro h;simp at h;try omega) _) | (refine Upd.drew ?_) | (refine Upd.drewN ?_ _) | (refine Upd.trans ?_ HU1.o (fun _ _ h=>h))))⟩
theorem nat_calls {l:List Tok} {p:Int} (h:SchR w cb x02 x07) (hr:tokR.row w F A l) (hb:l.length<=1048576 * 4) :
 Calls Tryz.prog 105 #[deskV cb A l.length c,.int .i64 p] w (fun r w'=>r=.returned (.int .i64 (x0e l p p))/\Pure w w'):=by
 have HC:=mK (fun W (hu:Pure w W)=>x3g (c:=c) (h.pure hu) (Rp.x01 hr hu) hb)
 have HE:=mK (show x0e l p p=if (x0d l).2 ≠ 0 then (x0d l).2 else if p < 0\/p < p\/(l.length:Int) < p then 1 else 0 from rfl)
 clear h hr hb
 generalize x0e l p p=pe at *
 generalize (x0d l).2=e at *
 generalize (x0d l).1=e1 at *
 by_cases h0:e=0
 ·subst h0
  rw[if_neg (by omega)] at HE
  by_cases h1:p < 0
  ·rw[if_pos (.inl h1)] at HE
   go_enter Tryz.func105,Tryz.ntmps105
   go_wp2_with (go_at_call 15;refine(HC.o _ aU).mono ?_;rintro r w1 ⟨rfl,hu⟩;have hb1:=(hu.block w.heap.size (by simp) (fun h=>h)).trans (heap_alloc_new w _);obtain⟨q0,q1⟩:=cells2 hb1;have HU1:=mK (Upd.trans aP hu (fun _ _ h=>h));clear hu hb1)
   go_ret
   exact⟨(by rw[HE.o];rfl),HU1.o⟩
  ·by_cases h3:(l.length:Int) < p
   ·rw[if_pos (.inr (.inr h3))] at HE
    go_enter Tryz.func105,Tryz.ntmps105
    go_wp2_with (go_at_call 15;refine(HC.o _ aU).mono ?_;rintro r w1 ⟨rfl,hu⟩;have hb1:=(hu.block w.heap.size (by simp) (fun h=>h)).trans (heap_alloc_new w _);obtain⟨q0,q1⟩:=cells2 hb1;have HU1:=mK (Upd.trans aP hu (fun _ _ h=>h));clear hu hb1)
    go_ret
    exact⟨(by rw[HE.o];rfl),HU1.o⟩
   ·rw[if_neg (by omega)] at HE
    go_enter Tryz.func105,Tryz.ntmps105
    go_wp2_with (go_at_call 15;refine(HC.o _ aU).mono ?_;rintro r w1 ⟨rfl,hu⟩;have hb1:=(hu.block w.heap.size (by simp) (fun h=>h)).trans (heap_alloc_new w _);obtain⟨q0,q1⟩:=cells2 hb1;have HU1:=mK (Upd.trans aP hu (fun _ _ h=>h));clear hu hb1)
    go_ret
    exact⟨(by rw[HE.o];rfl),HU1.o⟩
 ·have f0:(e != 0)=true:=by simpa using h0
  rw[if_pos h0] at HE
  clear h0
  go_enter Tryz.func105,Tryz.ntmps105
  go_wp2_with (go_at_call 15;refine(HC.o _ aU).mono ?_;rintro r w1 ⟨rfl,hu⟩;have HU1:=mK (Upd.trans aP hu (fun _ _ h=>h));clear hu)
  go_ret
  exact⟨(by rw[HE.o];rfl),HU1.o⟩
/-- A step without its tokens. -/
def StepD.bare (s:StepD):Value:=.agg #[.int .i64 s.k,.int .i64 s.fr,.int .i64 s.tt,.int .i64 s.gf,.int .i64 s.gt,.int .i64 s.ins,.slice none 0 0,.int .i64 s.mark]
def NTold (s:StepD) (e:Int) (w:World) (r:Ending) (w':World):Prop:=
 ∃ B' c',Told (toldS s e) B' c' e w r w'/\(tokR.row w' (fun k=>w.heap.size<=k) B' (toldS s e).sl/\(toldS s e).sl.length<=c'/\((toldS s e).sl=[]->B'=none/\c'=0))/\(e ≠ 0->B'=none/\c'=0)
def ItRel (w wr:World) (l:List Tok) (p i:Int) (f:Nat) (v:Value):Prop:=
 ∃ s:List Int,intRS.own 3 wr (fun q=>w.heap.size < q) v s/\s ++ x2f l f i=x28 l p/\s.length+f<=l.length+1/\Pure w wr
theorem items_step {l:List Tok} {f i:Nat} {x:Tok} (hx:l[i]?=some x):x2f l (f+1) (i:Int)=(if x.t=6 then [(i:Int)] else []) ++ x2f l f (x04 l i):=by
 rw[x2f,if_neg (by omega)]
 have:tyAt l (i:Int)=x.t:=by simp[tyAt,hx]
 rw[this]
theorem items_open {l:List Tok}:∀ (f:Nat) (p:Int),∀ q ∈ x2f l f (x04 l p),∃ (i:Nat) (y:Tok),q=i/\l[i]?=some y/\y.k=1/\y.t=6/\(i:Int) < p:=by
 intro f
 induction f with
 | zero=>intro p q hq;cases hq
 | succ f ih=>
   intro p q hq
   rw[x2f] at hq
   split at hq
   ·cases hq
   ·rename_i h0
    obtain⟨i,y,h1,h2,h3,h4⟩:=x20 (l:=l) (p:=p) (by omega)
    rw[h1] at hq
    rcases List.mem_append.1 hq with hq | hq
    ·split at hq
     ·rename_i h6
      rw[List.mem_singleton.1 hq]
      refine⟨i,y,rfl,h2,h3,?_,h4⟩
      simpa[tyAt,h2] using h6
     ·cases hq
    ·obtain⟨j,z,g1,g2,g3,g4,g5⟩:=ih i q hq
     exact⟨j,z,g1,g2,g3,g4,by omega⟩
/-- What item tells. -/
def itemV (l:List Tok) (p:Int):Int × Int × Int × Bool:=match x28 l p with
 | []=>(0,0,0,false)
 | x :: _=>(x,partL l x.toNat+1,x04 l x,decide (0<=x04 l x))
theorem Outdent_a {l:List Tok} {p en pl po e:Int} {x li q:Nat} {y:Tok} (hrow:tokR.row w F A l) (hb:l.length<=2048) (hen:0<=en/\en<=3000) (hx:x < l.length)
 (hp:∀ W,Pure w W->Calls Tryz.prog 105 #[deskV cb A l.length c,.int .i64 p] W (fun r w'=>r=.returned (.int .i64 0)/\Pure W w'))
 (hi:∀ W,Pure w W->Calls Tryz.prog 106 #[deskV cb A l.length c,.int .i64 p] W (fun r w'=>r=.returned (.tuple #[.int .i64 (x:Nat),.int .i64 en,.int .i64 (li:Nat),.bool true])/\Pure W w'))
 (ha:∀ W,Pure w W->Calls Tryz.prog 72 #[.slice A l.length c,.int .i64 (li:Nat)] W (fun r w'=>r=.returned (.int .i64 (q:Nat))/\Pure W w'))
 (h1:∀ W,Pure w W->Calls Tryz.prog 103 #[.slice A l.length c,.int .i64 (li:Nat)] W (fun r w'=>r=.returned (.int .i64 en)/\Pure W w'))
 (h2:∀ W,Pure w W->Calls Tryz.prog 103 #[.slice A l.length c,.int .i64 (q:Nat)] W (fun r w'=>r=.returned (.int .i64 (en+1))/\Pure W w'))
 (hli:li < l.length) (hy:l[q]?=some y) (h6:y.t=6) (hc:x=li+1)
 (ht:∀ W T ct,Pure w W->tokR.row W (fun _=>True) T [shutT]->Calls Tryz.prog 108 #[deskV cb A l.length c,(arnd li (en+2) x en 1 [shutT]).bare,.slice T 1 ct] W (NTold (arnd li (en+2) x en 1 [shutT]) e W)) :
 Calls Tryz.prog 53 #[.pointer (some ⟨cb,0,none⟩),.slice A l.length c,.int .i64 p] w (NTold (arnd li (en+2) x en 1 [shutT]) e w):=by
 have HP:=mK hp
 have HI:=mK hi
 have HA:=mK ha
 have H1:=mK h1
 have H2:=mK h2
 have HR:=mK hrow
 have hw1:IntKind.i64.wrap (en+1)=en+1:=IntWalk.i64_in _ (by omega)
 have hw2:IntKind.i64.wrap (en+2)=en+2:=IntWalk.i64_in _ (by omega)
 have hw3:IntKind.i64.wrap ((li:Int)+1)=(li:Int)+1:=IntWalk.i64_in _ (by omega)
 have ql:q < l.length:=(List.getElem?_eq_some_iff.1 hy).1
 obtain⟨bA,oA,rfl,hF,hbA,c0,c1,c2,c3⟩:=x0j HR.o hy
 have HT:=mK (fun W T ct=>ht W T ct)
 have HX3:=mK (fun (v:World) (hu:Pure w v)=>(hu.cell hbA (fun h=>h)).trans c1)
 have g0:decide ((q:Int) < 0)=false:=by simp
 have f1:(y.t != 6)=false:=by simp[h6]
 have j1:((x:Int) == (li:Int)+1)=true:=by simp;omega
 clear hp hi ha h1 h2 hrow hen hy hF hbA c0 c1 c2 c3 h6 hc ht hx hli
 unfold NTold Told StepD.bare StepD.val at HT
 unfold arnd at HT
 simp only at HT
 go_enter Tryz.func53,Tryz.ntmps53
 go_wp2_with (first | (go_at_call 103;with_reducible refine(H2.o w4 HU4.o).mono ?_;rintro r w5 ⟨rfl,hu⟩;have HB5:=mK (kP hu HB4.o);have HQ5:=mK (kP hu HQ4.o);have q5:=cells2 HQ5.o;have HU5:=mK (HU4.o.tt hu);clear hu;apply As.o) | (go_at_call 103;with_reducible refine(H1.o w3 HU3.o).mono ?_;rintro r w4 ⟨rfl,hu⟩;have HB4:=mK (kP hu HB3.o);have HQ4:=mK (kP hu HQ3.o);have q4:=cells2 HQ4.o;have HU4:=mK (HU3.o.tt hu);clear hu) | (go_at_call 72;with_reducible refine(HA.o w2 HU2.o).mono ?_;rintro r w3 ⟨rfl,hu⟩;have HB3:=mK (kP hu HB2.o);have HQ3:=mK (kP hu HQ2.o);have q3:=cells2 HQ3.o;have HU3:=mK (HU2.o.tt hu);clear hu;have c9:=HX3.o _ HU3.o) | (go_at_call 106;with_reducible refine(HI.o w1 HU1.o).mono ?_;rintro r w2 ⟨rfl,hu⟩;have HB2:=mK (kP hu HB1.o);have HQ2:=mK (kP hu HQ1.o);have q2:=cells2 HQ2.o;have HU2:=mK (HU1.o.tt hu);clear hu) | (go_at_call 105;refine(HP.o _ (aP.alloc _)).mono ?_;rintro r w1 ⟨rfl,hu⟩;obtain⟨hb1,hb2,hu2⟩:=x0s hu;obtain⟨q0,q1⟩:=cells2 hb2;have HB1:=mK hb1;have HQ1:=mK hb2;have HU1:=mK hu2;clear hu hb1 hb2 hu2))
 refine⟨?_⟩
 obtain⟨wo,rfl⟩:∃ wo:World,wo=w5:=⟨_,rfl⟩
 have HBZ:=HB5
 have HQZ:=HQ5
 have HUZ:=HU5
 have HK8:=mK (fun v (hu:Upd (fun k=>k=w.heap.size) wo v)=>cells2 ((hu.block (w.heap.size+1) (lt_of_block HQZ.o) (by omega)).trans HQZ.o))
 have HPz:=mK (show Pure wo wo.drew from rU.drew)
 go_wp2
 refine x0m (P:=Tryz.prog) (fun v=>v.cell? ⟨w.heap.size+1,0,none⟩=some (.pointer (some ⟨cb,0,none⟩))/\v.cell? ⟨w.heap.size+1,1,none⟩=some (.slice (some ⟨bA,oA,none⟩) l.length c)) 13 (by kernel_rfl) ?_ (fun hHeld=>?_)
 ·with_reducible (first | exact HK8.o _ (up1 HPz.o) | exact HK8.o _ (up1 HPa.o) | exact HK8.o _ (up1 HPb.o) | exact HK8.o _ (up1 (HPb.o.alloc _)) | exact HK8.o _ (up1 HP9.o) | exact HK8.o _ (x0b (up1 HP9.o) _ _ _ _ _ _ _ _))
 refine zT 0 ?_
 refine zT 1 ?_
 refine zT 2 ?_
 refine zT 3 ?_
 (try simp only[Act.put,sA,sB,sC])
 refine zT 4 ?_
 refine zT 5 ?_
 refine oT 6 (fun K hK=>?_)
 go_simp
 (go_at_call 109;refine(x4d _ _ _ _ _ _).mono ?_;rintro r wa ⟨rfl,hu⟩;have HPa:=mK (HPz.o.tt hu);clear hu)
 refine hK.out _ _ (fun _=>by with_reducible (first | exact HK8.o _ (up1 HPz.o) | exact HK8.o _ (up1 HPa.o) | exact HK8.o _ (up1 HPb.o) | exact HK8.o _ (up1 (HPb.o.alloc _)) | exact HK8.o _ (up1 HP9.o) | exact HK8.o _ (x0b (up1 HP9.o) _ _ _ _ _ _ _ _))) (fun hHeld=>?_)
 replace hHeld:=hHeld (by decide)
 clear hK K
 (try simp only[Act.put,sA,sB,sC])
 refine oT 7 (fun K hK=>?_)
 go_simp
 (go_at_call 107;refine(x13 _).mono ?_;rintro r wb ⟨rfl,hu⟩;have HPb:=mK (HPa.o.tt hu);clear hu)
 refine hK.out _ _ (fun _=>by with_reducible (first | exact HK8.o _ (up1 HPz.o) | exact HK8.o _ (up1 HPa.o) | exact HK8.o _ (up1 HPb.o) | exact HK8.o _ (up1 (HPb.o.alloc _)) | exact HK8.o _ (up1 HP9.o) | exact HK8.o _ (x0b (up1 HP9.o) _ _ _ _ _ _ _ _))) (fun hHeld=>?_)
 replace hHeld:=hHeld (by decide)
 clear hK K
 (try simp only[Act.put,sA,sB,sC])
 refine oT 8 (fun K hK=>?_)
 go_simp
 refine hK.out _ _ (fun _=>by with_reducible (first | exact HK8.o _ (up1 HPz.o) | exact HK8.o _ (up1 HPa.o) | exact HK8.o _ (up1 HPb.o) | exact HK8.o _ (up1 (HPb.o.alloc _)) | exact HK8.o _ (up1 HP9.o) | exact HK8.o _ (x0b (up1 HP9.o) _ _ _ _ _ _ _ _))) (fun hHeld=>?_)
 replace hHeld:=hHeld (by decide)
 clear hK K
 (try simp only[Act.put,sA,sB,sC])
 refine oT 9 (fun K hK=>?_)
 go_simp
 (go_at_call 108;refine(HT.o (wb.alloc _) (some ⟨wb.heap.size,0,none⟩) 1 ((HUZ.o.tt HPb.o).alloc _) (x1a (l:=[shutT]) (heap_alloc_new wb _) trivial)).mono ?_;rintro r w9 ⟨B9,c9,⟨rfl,hp9⟩,hr9,hn9⟩;have HV9:=mK (fun o=>(HUZ.o.tt HPb.o).alloc o);have HL9:=mK (show w.heap.size < wb.heap.size+1 from by have h7:=HPb.o.size;have h8:=lt_of_block HBZ.o;omega);have HT9:=mK hp9;have HR9:=mK hr9;have HN9:=mK hn9;have HP9:=mK ((HPb.o.alloc _).tt hp9);have HB9:=mK (kP HP9.o HBZ.o);have hbl9:w.heap.size < w9.heap.size:=lt_of_block HB9.o;have hcf9:∀ i,w9.frozen? ⟨w.heap.size,i,none⟩=false:=(fun i=>by simp[World.frozen?,HB9.o]);obtain⟨k0,k1,k2,k3,k4,k5,k6,k7⟩:=x06 HB9.o;clear hp9 hr9 hn9)
 refine hK.out _ _ (fun _=>by with_reducible (first | exact HK8.o _ (up1 HPz.o) | exact HK8.o _ (up1 HPa.o) | exact HK8.o _ (up1 HPb.o) | exact HK8.o _ (up1 (HPb.o.alloc _)) | exact HK8.o _ (up1 HP9.o) | exact HK8.o _ (x0b (up1 HP9.o) _ _ _ _ _ _ _ _))) (fun hHeld=>?_)
 replace hHeld:=hHeld (by decide)
 clear hK K
 (try simp only[Act.put,sA,sB,sC])
 refine zT 10 ?_
 refine zT 11 ?_
 refine oT 12 (fun K hK=>?_)
 go_simp
 refine hK.out _ _ (fun _=>by with_reducible (first | exact HK8.o _ (up1 HPz.o) | exact HK8.o _ (up1 HPa.o) | exact HK8.o _ (up1 HPb.o) | exact HK8.o _ (up1 (HPb.o.alloc _)) | exact HK8.o _ (up1 HP9.o) | exact HK8.o _ (x0b (up1 HP9.o) _ _ _ _ _ _ _ _))) (fun hHeld=>?_)
 replace hHeld:=hHeld (by decide)
 clear hK K
 (try simp only[Act.put,sA,sB,sC])
 refine oT 13 (fun K hK=>?_)
 go_simp
 refine hK.out _ _ (fun h=>absurd rfl h) (fun hHeld=>?_)
 clear hK K
 (try simp only[Act.put,sA,sB,sC])
 refine x0l (by kernel_rfl) ?_ _
 go_wp2
 exact bodyPost_ret (step_end (rb:=w.heap.size) rfl _ rfl (set8 (rb:=w.heap.size) HB9.o _ _ _ _ _ _ _ _)) rfl ⟨B9,c9,⟨rfl,x05 ((HV9.o _).tt HT9.o) (Nat.le_refl _) _ _ _ _ _ _ _ _⟩,⟨Rp.x09 (Rp.x0f HR9.o.1 (x0b rU _ _ _ _ _ _ _ _) (fun k _ h e=>by have h7:=HL9.o;simp at h;omega)) (fun k h=>by have h7:=HL9.o;simp at h;omega),HR9.o.2⟩,HN9.o⟩
theorem Indent27_no {bA oA:Nat} {l:List Tok} {p pe e xv:Int} {x1:Nat} (hrow:tokR.row w F (some ⟨bA,oA,none⟩) l) (hb:l.length<=2048)
 (hp:∀ W,Pure w W->Calls Tryz.prog 110 #[.pointer (some ⟨cb,0,none⟩),.slice (some ⟨bA,oA,none⟩) l.length c,.int .i64 p] W (fun r w'=>r=.returned (.int .i64 pe)/\Pure W w'))
 (hi:∀ W,Pure w W->Calls Tryz.prog 111 #[.slice (some ⟨bA,oA,none⟩) l.length c,.int .i64 p] W (fun r w'=>r=.returned (.int .i64 xv)/\Pure W w'))
 (hn:(pe ≠ 0/\e=pe)\/(pe=0/\e=6/\xv=-1)\/(pe=0/\e=6/\xv=((x1+1:Nat):Int)/\∃ y:Tok,l[x1]?=some y/\y.k ≠ 2)) :
 Calls Tryz.prog 52 #[.pointer (some ⟨cb,0,none⟩),.slice (some ⟨bA,oA,none⟩) l.length c,.int .i64 p] w (fun r w'=>r=.returned (.tuple #[step0,.int .i64 e])/\Pure w w'):=by
 have HP:=mK hp
 have HI:=mK hi
 have HR:=mK hrow
 clear hp hi hrow
 rcases hn with ⟨p0,rfl⟩ | ⟨rfl,rfl,rfl⟩ | ⟨rfl,rfl,rfl,y,hy,hk⟩
 ·have f0:(e != 0)=true:=by simpa using p0
  clear p0
  go_enter Tryz.func52,Tryz.ntmps52
  go_wp2_with (go_at_call 110;refine(HP.o _ aU).mono ?_;rintro r w1 ⟨rfl,hu⟩;obtain⟨hb1,hu1⟩:=x0i hu;have HB1:=mK hb1;have HU1:=mK hu1;clear hu hb1 hu1;apply As.o)
  refine⟨?_⟩
  have hbl:w.heap.size < w1.heap.size:=lt_of_block HB1.o
  have hcf:=fZ HB1.o
  obtain⟨k0,k1,k2,k3,k4,k5,k6,k7⟩:=x06 HB1.o
  go_wp2
  exact bodyPost_ret (step_end (rb:=w.heap.size) rfl _ rfl (set8 (rb:=w.heap.size) HB1.o _ _ _ _ _ _ _ _)) rfl ⟨rfl,x05 HU1.o (Nat.le_refl _) _ _ _ _ _ _ _ _⟩
 ·go_enter Tryz.func52,Tryz.ntmps52
  go_wp2_with (go_at_call 110;refine(HP.o _ aU).mono ?_;rintro r w1 ⟨rfl,hu⟩;obtain⟨hb1,hu1⟩:=x0i hu;have HB1:=mK hb1;have HU1:=mK hu1;clear hu hb1 hu1;apply As.o)
  refine⟨?_⟩
  go_wp2_with (go_at_call 111;refine(HI.o _ HU1.o).mono ?_;rintro r w2 ⟨rfl,hu⟩;have HB2:=mK (kP hu HB1.o);have HU2:=mK (HU1.o.tt hu);clear hu;apply As.o)
  refine⟨?_⟩
  have hbl:w.heap.size < w2.heap.size:=lt_of_block HB2.o
  have hcf:=fZ HB2.o
  obtain⟨k0,k1,k2,k3,k4,k5,k6,k7⟩:=x06 HB2.o
  go_wp2
  exact bodyPost_ret (step_end (rb:=w.heap.size) rfl _ rfl (set8 (rb:=w.heap.size) HB2.o _ _ _ _ _ _ _ _)) rfl ⟨rfl,x05 HU2.o (Nat.le_refl _) _ _ _ _ _ _ _ _⟩
 ·have xl:x1 < l.length:=(List.getElem?_eq_some_iff.1 hy).1
  have hw1:IntKind.i64.wrap (((x1+1:Nat):Int) - 1)=(x1:Int):=by rw[IntWalk.i64_in _ (by omega)];omega
  have hw2:IntKind.i64.wrap ((x1:Int)+1 - 1)=(x1:Int):=by rw[IntWalk.i64_in _ (by omega)];omega
  have hw6:IntKind.i64.wrap (x1:Int)=(x1:Int):=IntWalk.i64_in _ (by omega)
  have f0:(y.k != 2)=true:=by simpa using hk
  have t1:¬ ((x1:Int)+1<=0):=by omega
  clear hk
  go_enter Tryz.func52,Tryz.ntmps52
  go_wp2_with (go_at_call 110;refine(HP.o _ aU).mono ?_;rintro r w1 ⟨rfl,hu⟩;obtain⟨hb1,hu1⟩:=x0i hu;have HB1:=mK hb1;have HU1:=mK hu1;clear hu hb1 hu1;apply As.o)
  refine⟨?_⟩
  go_wp2_with (go_at_call 111;refine(HI.o _ HU1.o).mono ?_;rintro r w2 ⟨rfl,hu⟩;have HB2:=mK (kP hu HB1.o);have HU2:=mK (HU1.o.tt hu);clear hu;apply As.o)
  refine⟨?_⟩
  obtain⟨bA',oA',hA,_,_,c0,c1,c2,c3⟩:=x0j (Rp.x01 HR.o HU2.o) hy
  cases hA
  clear c1 c2 c3 hy
  have hbl:w.heap.size < w2.heap.size:=lt_of_block HB2.o
  have hcf:=fZ HB2.o
  obtain⟨k0,k1,k2,k3,k4,k5,k6,k7⟩:=x06 HB2.o
  go_wp2
  exact bodyPost_ret (step_end (rb:=w.heap.size) rfl _ rfl (set8 (rb:=w.heap.size) HB2.o _ _ _ _ _ _ _ _)) rfl ⟨rfl,x05 HU2.o (Nat.le_refl _) _ _ _ _ _ _ _ _⟩
theorem Indent27_b {bA oA:Nat} {l:List Tok} {p pt e:Int} {x1 li:Nat} {yl:Tok} {s':StepD} (hrow:tokR.row w F (some ⟨bA,oA,none⟩) l) (hb:l.length<=2048)
 (hp:∀ W,Pure w W->Calls Tryz.prog 110 #[.pointer (some ⟨cb,0,none⟩),.slice (some ⟨bA,oA,none⟩) l.length c,.int .i64 p] W (fun r w'=>r=.returned (.int .i64 0)/\Pure W w'))
 (hi:∀ W,Pure w W->Calls Tryz.prog 111 #[.slice (some ⟨bA,oA,none⟩) l.length c,.int .i64 p] W (fun r w'=>r=.returned (.int .i64 ((x1+1:Nat):Int))/\Pure W w'))
 (ha1:∀ W,Pure w W->Calls Tryz.prog 74 #[.slice (some ⟨bA,oA,none⟩) l.length c,.int .i64 ((x1+1:Nat):Int)] W (fun r w'=>r=.returned (.int .i64 (li:Nat))/\Pure W w'))
 (hp1:∀ W,Pure w W->Calls Tryz.prog 77 #[.slice (some ⟨bA,oA,none⟩) l.length c,.int .i64 ((x1+1:Nat):Int)] W (fun r w'=>r=.returned (.int .i64 pt)/\Pure W w'))
 (hpt:-1<=pt/\pt < (l.length:Int)) (hyl:l[li]?=some yl) (hk:yl.k=1) (hx1:l[x1]?=some shutT)
 (hc:x1=0\/∃ (x2:Nat) (y:Tok),x1=x2+1/\l[x2]?=some y/\(y.k ≠ 2\/(y.k=2/\∃ (pp:Nat) (z:Tok),l[pp]?=some z/\z.k=1/\(∀ W,Pure w W->Calls Tryz.prog 77 #[.slice (some ⟨bA,oA,none⟩) l.length c,.int .i64 (x2:Nat)] W (fun r w'=>r=.returned (.int .i64 (pp:Nat))/\Pure W w'))/\(z.t ≠ yl.t\/(z.t=yl.t/\z.n ≠ yl.n)))))
 (ht:∀ W T,Pure w W->tokR.row W (fun _=>True) T [yl,shutT,shutT]->Calls Tryz.prog 112 #[.pointer (some ⟨cb,0,none⟩),.slice (some ⟨bA,oA,none⟩) l.length c,(arnd ((x1:Nat):Int) (pt+1) ((x1+1:Nat):Int) (pt+1) 1 [yl,shutT,shutT]).val T 3] W (Told s' (toldB T e) (toldC 3 e) e W)) (h2:e=0->s'.sl=[yl,shutT,shutT]) (h3:e ≠ 0->s'.sl=[]) :
 Calls Tryz.prog 52 #[.pointer (some ⟨cb,0,none⟩),.slice (some ⟨bA,oA,none⟩) l.length c,.int .i64 p] w (fun r w'=>∃ B' c',Told s' B' c' e w r w'/\tokR.row w' (fun _=>True) B' s'.sl):=by
 have HP:=mK hp
 have HI:=mK hi
 have HA1:=mK ha1
 have HP1:=mK hp1
 have HT:=mK ht
 have HS:=mK (And.intro h2 h3)
 have HYK:=mK hk
 have xl:x1 < l.length:=(List.getElem?_eq_some_iff.1 hx1).1
 have ll:li < l.length:=(List.getElem?_eq_some_iff.1 hyl).1
 have hw1:IntKind.i64.wrap (((x1+1:Nat):Int) - 1)=((x1:Nat):Int):=by rw[IntWalk.i64_in _ (by omega)];omega
 have hw2:IntKind.i64.wrap (((x1:Nat):Int)+1 - 1)=((x1:Nat):Int):=by rw[IntWalk.i64_in _ (by omega)];omega
 have hw5:IntKind.i64.wrap (x1:Int)=(x1:Int):=IntWalk.i64_in _ (by omega)
 have hw8:IntKind.i64.wrap (pt+1)=pt+1:=IntWalk.i64_in _ (by omega)
 have i3:¬ ((x1:Int)+1<=0):=by omega
 obtain⟨b1,o1,hA1,_,hbA,c0,c1,c2,c3⟩:=x0j hrow hx1
 obtain⟨b4,o4,hA4,_,_,f0,f1,f2,f3⟩:=x0j hrow hyl
 simp only[Option.some.injEq,Addr.mk.injEq,and_true] at hA1 hA4
 obtain⟨rfl,rfl⟩:=hA1
 obtain⟨rfl,rfl⟩:=hA4
 have HR:=mK hrow
 have HBA:=mK hbA
 have HKX:=mK (fun (v:World) (hu:Pure w v)=>(by
  have hh:∀ k,v.cell? ⟨bA,k,none⟩=w.cell? ⟨bA,k,none⟩:=fun k=>hu.cell hbA (fun h=>h)
  exact⟨(hh _).trans c0,(hh _).trans f0,(hh _).trans f1,(hh _).trans f2,(hh _).trans f3⟩:(fun v=>v.cell? ⟨bA,oA+x1 * 4,none⟩=some (.int .i64 2)/\v.cell? ⟨bA,oA+li * 4,none⟩=some (.int .i64 yl.k)/\v.cell? ⟨bA,oA+li * 4+1,none⟩=some (.int .i64 yl.t)/\v.cell? ⟨bA,oA+li * 4+2,none⟩=some (.int .i64 yl.n)/\v.cell? ⟨bA,oA+li * 4+3,none⟩=some (.int .i64 yl.m)) v))
 clear hx1 hyl hbA c0 c1 c2 c3 f0 f1 f2 f3 hp hi ha1 hp1 ht h2 h3 hrow hpt hk
 unfold Told StepD.val at *
 unfold arnd at HT
 rcases hc with hx0 | ⟨x2,y,hx12,hy,hc⟩
 ·have hw3:IntKind.i64.wrap (((x1+1:Nat):Int) - 2)=-1:=by rw[IntWalk.i64_in _ (by omega)];omega
  have hw4:IntKind.i64.wrap (((x1:Nat):Int)+1 - 2)=-1:=by rw[IntWalk.i64_in _ (by omega)];omega
  have hw6:IntKind.i64.wrap ((x1:Int) - 1)=-1:=by rw[IntWalk.i64_in _ (by omega)];omega
  clear hx0
  go_enter Tryz.func52,Tryz.ntmps52
  go_wp2_with (go_at_call 110;refine(HP.o _ aU).mono ?_;rintro r w1 ⟨rfl,hu⟩;obtain⟨hb1,hu1⟩:=x0i hu;have HB1:=mK hb1;have HU1:=mK hu1;clear hu hb1 hu1;apply As.o)
  refine⟨?_⟩
  go_wp2_with (go_at_call 111;refine(HI.o _ HU1.o).mono ?_;rintro r w2 ⟨rfl,hu⟩;have HB2:=mK (kP hu HB1.o);have HU2:=mK (HU1.o.tt hu);clear hu;apply As.o)
  refine⟨?_⟩
  obtain⟨y0,y1,y2,y3,y4⟩:=HKX.o w2 HU2.o
  go_wp2_with (go_at_call 74;refine(HA1.o _ HU2.o).mono ?_;rintro r w3 ⟨rfl,hu⟩;have HB3:=mK (kP hu HB2.o);have HU3:=mK (HU2.o.tt hu);clear hu;apply As.o)
  refine⟨?_⟩
  clear y0 y1 y2 y3 y4
  go_wp2_with (go_at_call 77;refine(HP1.o _ HU3.o).mono ?_;rintro r w4 ⟨rfl,hu⟩;have HB4:=mK (kP hu HB3.o);have HU4:=mK (HU3.o.tt hu);clear hu;apply As.o)
  refine⟨?_⟩
  go_wp2
  refine wp_region_held_drew (S:=(fun _=>True)) (by kernel_rfl) ?_ (fun hHeld=>?_)
  ·trivial
  refine zH 0 ?_
  refine zH 1 ?_
  refine zH 2 ?_
  (try simp only[Act.put,sA,sB,sC])
  refine sH 3 ?_
  (try simp only[Act.put,sA,sB,sC])
  refine sH 4 ?_
  (try simp only[Act.put,sA,sB,sC])
  refine sH 5 ?_
  (try simp only[Act.put,sA,sB,sC])
  refine sH 6 ?_
  (try simp only[Act.put,sA,sB,sC])
  refine sH 7 ?_
  (try simp only[Act.put,sA,sB,sC])
  refine sH 8 ?_
  (try simp only[Act.put,sA,sB,sC])
  refine sH 9 ?_
  (try simp only[Act.put,sA,sB,sC])
  refine sH 10 ?_
  (try simp only[Act.put,sA,sB,sC])
  refine sH 11 ?_
  (try simp only[Act.put,sA,sB,sC])
  refine zH 12 ?_
  refine wpAnyH_done (by kernel_rfl) ?_ _
  have HB5d:=mK (show (w4.alloc (.cells #[.int .i64 2,.int .i64 0,.int .i64 0,.int .i64 0] 71)).drew.heap[w.heap.size]?=_ from(((Upd.alloc1 (fun _=>False) w4 (.cells #[.int .i64 2,.int .i64 0,.int .i64 0,.int .i64 0] 71)).block w.heap.size (lt_of_block HB4.o) (fun h=>h)).trans HB4.o))
  have HS5d:=mK (show (w4.alloc (.cells #[.int .i64 2,.int .i64 0,.int .i64 0,.int .i64 0] 71)).drew.heap[w4.heap.size]?=_ from heap_alloc_new w4 (.cells #[.int .i64 2,.int .i64 0,.int .i64 0,.int .i64 0] 71))
  have HU5d:=mK (HU4.o.alloc (.cells #[.int .i64 2,.int .i64 0,.int .i64 0,.int .i64 0] 71)).drew
  generalize (w4.alloc (.cells #[.int .i64 2,.int .i64 0,.int .i64 0,.int .i64 0] 71)).drew=wd at *
  have HL4:=mK (lt_of_block HB4.o)
  have hsl:=lt_of_block HS5d.o
  have HKS:=mK (fun v (hu:Upd (fun k=>k=w.heap.size) wd v)=>(by obtain⟨g,g0,g1,g2,g3⟩:=HKX.o wd HU5d.o;have hb9:bA < wd.heap.size:=Nat.lt_of_lt_of_le HBA.o HU5d.o.size;have hne:bA ≠ w.heap.size:=(by have:=HBA.o;omega);have hh:∀ k,v.cell? ⟨bA,k,none⟩=wd.cell? ⟨bA,k,none⟩:=(fun k=>hu.cell hb9 hne);obtain⟨q0,q1,q2,q3,_⟩:=x5g ((hu.block w4.heap.size hsl (by have:=HL4.o;omega)).trans HS5d.o);exact⟨⟨q0,q1,q2,q3⟩,(hh _).trans g0,(hh _).trans g1,(hh _).trans g2,(hh _).trans g3⟩:(fun v=>(v.cell? ⟨w4.heap.size,0,none⟩=some (.int .i64 2)/\v.cell? ⟨w4.heap.size,1,none⟩=some (.int .i64 0)/\v.cell? ⟨w4.heap.size,2,none⟩=some (.int .i64 0)/\v.cell? ⟨w4.heap.size,3,none⟩=some (.int .i64 0))/\v.cell? ⟨bA,oA+li * 4,none⟩=some (.int .i64 yl.k)/\v.cell? ⟨bA,oA+li * 4+1,none⟩=some (.int .i64 yl.t)/\v.cell? ⟨bA,oA+li * 4+2,none⟩=some (.int .i64 yl.n)/\v.cell? ⟨bA,oA+li * 4+3,none⟩=some (.int .i64 yl.m)) v))
  have HX:=mK (heap_alloc_new wd (.cells #[.int .i64 yl.k,.int .i64 yl.t,.int .i64 yl.n,.int .i64 yl.m,.int .i64 2,.int .i64 0,.int .i64 0,.int .i64 0,.int .i64 2,.int .i64 0,.int .i64 0,.int .i64 0] 71))
  have HPd:=mK (show Pure wd wd.drew from rU.drew)
  have HPa:=mK (fun X=>(show Pure wd (wd.alloc X).drew from(rU.alloc _).drew))
  go_wp2
  refine x0m (P:=Tryz.prog) (fun v=>(v.cell? ⟨w4.heap.size,0,none⟩=some (.int .i64 2)/\v.cell? ⟨w4.heap.size,1,none⟩=some (.int .i64 0)/\v.cell? ⟨w4.heap.size,2,none⟩=some (.int .i64 0)/\v.cell? ⟨w4.heap.size,3,none⟩=some (.int .i64 0))/\v.cell? ⟨bA,oA+li * 4,none⟩=some (.int .i64 yl.k)/\v.cell? ⟨bA,oA+li * 4+1,none⟩=some (.int .i64 yl.t)/\v.cell? ⟨bA,oA+li * 4+2,none⟩=some (.int .i64 yl.n)/\v.cell? ⟨bA,oA+li * 4+3,none⟩=some (.int .i64 yl.m)) 19 (by kernel_rfl) ?_ (fun hHeld=>?_)
  ·with_reducible (first | exact HKS.o _ (up1 HPd.o) | exact HKS.o _ (up1 (HPa.o _)) | exact HKS.o _ (up1 HP9.o) | exact HKS.o _ (x0b (up1 HP9.o) _ _ _ _ _ _ _ _))
  refine zT 0 ?_
  refine zT 1 ?_
  refine zT 2 ?_
  (try simp only[Act.put,sA,sB,sC])
  refine zT 3 ?_
  refine zT 4 ?_
  refine zT 5 ?_
  refine zT 6 ?_
  (try simp only[Act.put,sA,sB,sC])
  refine zT 7 ?_
  refine zT 8 ?_
  refine zT 9 ?_
  refine zT 10 ?_
  (try simp only[Act.put,sA,sB,sC])
  refine zT 11 ?_
  refine zT 12 ?_
  refine oT 13 (fun K hK=>?_)
  go_simp
  refine hK.out _ _ (fun _=>by with_reducible (first | exact HKS.o _ (up1 HPd.o) | exact HKS.o _ (up1 (HPa.o _)) | exact HKS.o _ (up1 HP9.o) | exact HKS.o _ (x0b (up1 HP9.o) _ _ _ _ _ _ _ _))) (fun hHeld=>?_)
  replace hHeld:=hHeld (by decide)
  clear hK K
  (try simp only[Act.put,sA,sB,sC])
  refine zT 14 ?_
  refine oT 15 (fun K hK=>?_)
  go_simp
  (go_at_call 112;refine(HT.o _ (some ⟨wd.heap.size,0,none⟩) ((HU5d.o.alloc _).drew) (Rp.x01 (x1a (l:=[yl,shutT,shutT]) HX.o trivial) rU.drew)).mono ?_;rintro r w9 ⟨rfl,hu⟩;have hp9:=((Upd.alloc1 (fun _=>False) wd _).drew).tt hu;have HP9:=mK hp9;have HB9:=mK (kP hp9 HB5d.o);have HU9:=mK (HU5d.o.tt hp9);have HRR:=mK (show tokR.row w9 (fun k=>w.heap.size < k) (toldB (some ⟨wd.heap.size,0,none⟩) e) s'.sl from(x29 (e:=e) HS.o.1 HS.o.2 (Rp.x01 (x1a (F:=fun k=>w.heap.size < k) (l:=[yl,shutT,shutT]) HX.o (lt_of_block HB5d.o)) (rU.drew.tt hu)) (c:=3) (Nat.le_refl 3)).1);have hbl:w.heap.size < w9.heap.size:=lt_of_block HB9.o;have hcf:∀ i,w9.frozen? ⟨w.heap.size,i,none⟩=false:=(fun i=>by simp[World.frozen?,HB9.o]);obtain⟨k0,k1,k2,k3,k4,k5,k6,k7⟩:=x06 HB9.o;clear hu hp9)
  refine hK.out _ _ (fun _=>by with_reducible (first | exact HKS.o _ (up1 HPd.o) | exact HKS.o _ (up1 (HPa.o _)) | exact HKS.o _ (up1 HP9.o) | exact HKS.o _ (x0b (up1 HP9.o) _ _ _ _ _ _ _ _))) (fun hHeld=>?_)
  replace hHeld:=hHeld (by decide)
  clear hK K
  (try simp only[Act.put,sA,sB,sC])
  refine zT 16 ?_
  refine zT 17 ?_
  refine oT 18 (fun K hK=>?_)
  go_simp
  refine hK.out _ _ (fun _=>by with_reducible (first | exact HKS.o _ (up1 HPd.o) | exact HKS.o _ (up1 (HPa.o _)) | exact HKS.o _ (up1 HP9.o) | exact HKS.o _ (x0b (up1 HP9.o) _ _ _ _ _ _ _ _))) (fun hHeld=>?_)
  replace hHeld:=hHeld (by decide)
  clear hK K
  (try simp only[Act.put,sA,sB,sC])
  refine oT 19 (fun K hK=>?_)
  go_simp
  refine hK.out _ _ (fun h=>absurd rfl h) (fun hHeld=>?_)
  clear hK K
  (try simp only[Act.put,sA,sB,sC])
  refine x0l (by kernel_rfl) ?_ _
  go_wp2
  exact bodyPost_ret (step_end (rb:=w.heap.size) rfl _ rfl (set8 (rb:=w.heap.size) HB9.o _ _ _ _ _ _ _ _)) rfl ⟨_,_,⟨rfl,x05 HU9.o (Nat.le_refl _) _ _ _ _ _ _ _ _⟩,Rp.x09 (Rp.x0f HRR.o (x0b rU _ _ _ _ _ _ _ _) (fun k _ h e=>by omega)) (fun _ _=>trivial)⟩
 ·have xl2:x2 < l.length:=by omega
  obtain⟨b2,o2,hA2,_,_,d0,d1,d2,d3⟩:=x0j HR.o hy
  simp only[Option.some.injEq,Addr.mk.injEq,and_true] at hA2
  obtain⟨rfl,rfl⟩:=hA2
  have hw3:IntKind.i64.wrap (((x1+1:Nat):Int) - 2)=(x2:Int):=by rw[IntWalk.i64_in _ (by omega)];omega
  have hw4:IntKind.i64.wrap (((x1:Nat):Int)+1 - 2)=(x2:Int):=by rw[IntWalk.i64_in _ (by omega)];omega
  have hw6:IntKind.i64.wrap ((x1:Int) - 1)=(x2:Int):=by rw[IntWalk.i64_in _ (by omega)];omega
  have hw7:IntKind.i64.wrap (x2:Int)=(x2:Int):=IntWalk.i64_in _ (by omega)
  clear hx12
  rcases hc with hk2 | ⟨hk2,pp,z,hz,hzk,h1,hne⟩
  ·have HKY:=mK (fun (v:World) (hu:Pure w v)=>((hu.cell HBA.o (fun h=>h)).trans d0:v.cell? ⟨bA,oA+x2 * 4,none⟩=some (.int .i64 y.k)))
   have ek:(y.k == 2)=false:=by simpa using hk2
   clear hy hk2 d0 d1 d2 d3
   go_enter Tryz.func52,Tryz.ntmps52
   go_wp2_with (go_at_call 110;refine(HP.o _ aU).mono ?_;rintro r w1 ⟨rfl,hu⟩;obtain⟨hb1,hu1⟩:=x0i hu;have HB1:=mK hb1;have HU1:=mK hu1;clear hu hb1 hu1;apply As.o)
   refine⟨?_⟩
   go_wp2_with (go_at_call 111;refine(HI.o _ HU1.o).mono ?_;rintro r w2 ⟨rfl,hu⟩;have HB2:=mK (kP hu HB1.o);have HU2:=mK (HU1.o.tt hu);clear hu;apply As.o)
   refine⟨?_⟩
   obtain⟨y0,y1,y2,y3,y4⟩:=HKX.o w2 HU2.o
   go_wp2_with (go_at_call 74;refine(HA1.o _ HU2.o).mono ?_;rintro r w3 ⟨rfl,hu⟩;have HB3:=mK (kP hu HB2.o);have HU3:=mK (HU2.o.tt hu);clear hu;apply As.o)
   refine⟨?_⟩
   clear y0 y1 y2 y3 y4
   go_wp2_with (go_at_call 77;refine(HP1.o _ HU3.o).mono ?_;rintro r w4 ⟨rfl,hu⟩;have HB4:=mK (kP hu HB3.o);have HU4:=mK (HU3.o.tt hu);clear hu;apply As.o)
   refine⟨?_⟩
   have hla:bA < w4.heap.size:=Nat.lt_of_lt_of_le HBA.o HU4.o.size
   have z0:=HKY.o w4 HU4.o
   go_wp2
   refine wp_region_held_drew (S:=(fun _=>True)) (by kernel_rfl) ?_ (fun hHeld=>?_)
   ·trivial
   refine zH 0 ?_
   refine zH 1 ?_
   refine zH 2 ?_
   refine sH 3 ?_
   (try simp only[Act.put,sA,sB,sC])
   refine sH 4 ?_
   (try simp only[Act.put,sA,sB,sC])
   refine sH 5 ?_
   (try simp only[Act.put,sA,sB,sC])
   refine sH 6 ?_
   (try simp only[Act.put,sA,sB,sC])
   refine sH 7 ?_
   (try simp only[Act.put,sA,sB,sC])
   refine sH 8 ?_
   (try simp only[Act.put,sA,sB,sC])
   refine sH 9 ?_
   (try simp only[Act.put,sA,sB,sC])
   refine sH 10 ?_
   (try simp only[Act.put,sA,sB,sC])
   refine sH 11 ?_
   (try simp only[Act.put,sA,sB,sC])
   refine zH 12 ?_
   refine wpAnyH_done (by kernel_rfl) ?_ _
   clear z0
   have HB5d:=mK (show (w4.alloc (.cells #[.int .i64 2,.int .i64 0,.int .i64 0,.int .i64 0] 71)).drew.heap[w.heap.size]?=_ from(((Upd.alloc1 (fun _=>False) w4 (.cells #[.int .i64 2,.int .i64 0,.int .i64 0,.int .i64 0] 71)).block w.heap.size (lt_of_block HB4.o) (fun h=>h)).trans HB4.o))
   have HS5d:=mK (show (w4.alloc (.cells #[.int .i64 2,.int .i64 0,.int .i64 0,.int .i64 0] 71)).drew.heap[w4.heap.size]?=_ from heap_alloc_new w4 (.cells #[.int .i64 2,.int .i64 0,.int .i64 0,.int .i64 0] 71))
   have HU5d:=mK (HU4.o.alloc (.cells #[.int .i64 2,.int .i64 0,.int .i64 0,.int .i64 0] 71)).drew
   generalize (w4.alloc (.cells #[.int .i64 2,.int .i64 0,.int .i64 0,.int .i64 0] 71)).drew=wd at *
   have HL4:=mK (lt_of_block HB4.o)
   have hsl:=lt_of_block HS5d.o
   have HKS:=mK (fun v (hu:Upd (fun k=>k=w.heap.size) wd v)=>(by obtain⟨g,g0,g1,g2,g3⟩:=HKX.o wd HU5d.o;have hb9:bA < wd.heap.size:=Nat.lt_of_lt_of_le HBA.o HU5d.o.size;have hne:bA ≠ w.heap.size:=(by have:=HBA.o;omega);have hh:∀ k,v.cell? ⟨bA,k,none⟩=wd.cell? ⟨bA,k,none⟩:=(fun k=>hu.cell hb9 hne);obtain⟨q0,q1,q2,q3,_⟩:=x5g ((hu.block w4.heap.size hsl (by have:=HL4.o;omega)).trans HS5d.o);exact⟨⟨q0,q1,q2,q3⟩,(hh _).trans g0,(hh _).trans g1,(hh _).trans g2,(hh _).trans g3⟩:(fun v=>(v.cell? ⟨w4.heap.size,0,none⟩=some (.int .i64 2)/\v.cell? ⟨w4.heap.size,1,none⟩=some (.int .i64 0)/\v.cell? ⟨w4.heap.size,2,none⟩=some (.int .i64 0)/\v.cell? ⟨w4.heap.size,3,none⟩=some (.int .i64 0))/\v.cell? ⟨bA,oA+li * 4,none⟩=some (.int .i64 yl.k)/\v.cell? ⟨bA,oA+li * 4+1,none⟩=some (.int .i64 yl.t)/\v.cell? ⟨bA,oA+li * 4+2,none⟩=some (.int .i64 yl.n)/\v.cell? ⟨bA,oA+li * 4+3,none⟩=some (.int .i64 yl.m)) v))
   have HX:=mK (heap_alloc_new wd (.cells #[.int .i64 yl.k,.int .i64 yl.t,.int .i64 yl.n,.int .i64 yl.m,.int .i64 2,.int .i64 0,.int .i64 0,.int .i64 0,.int .i64 2,.int .i64 0,.int .i64 0,.int .i64 0] 71))
   have HPd:=mK (show Pure wd wd.drew from rU.drew)
   have HPa:=mK (fun X=>(show Pure wd (wd.alloc X).drew from(rU.alloc _).drew))
   go_wp2
   refine x0m (P:=Tryz.prog) (fun v=>(v.cell? ⟨w4.heap.size,0,none⟩=some (.int .i64 2)/\v.cell? ⟨w4.heap.size,1,none⟩=some (.int .i64 0)/\v.cell? ⟨w4.heap.size,2,none⟩=some (.int .i64 0)/\v.cell? ⟨w4.heap.size,3,none⟩=some (.int .i64 0))/\v.cell? ⟨bA,oA+li * 4,none⟩=some (.int .i64 yl.k)/\v.cell? ⟨bA,oA+li * 4+1,none⟩=some (.int .i64 yl.t)/\v.cell? ⟨bA,oA+li * 4+2,none⟩=some (.int .i64 yl.n)/\v.cell? ⟨bA,oA+li * 4+3,none⟩=some (.int .i64 yl.m)) 19 (by kernel_rfl) ?_ (fun hHeld=>?_)
   ·with_reducible (first | exact HKS.o _ (up1 HPd.o) | exact HKS.o _ (up1 (HPa.o _)) | exact HKS.o _ (up1 HP9.o) | exact HKS.o _ (x0b (up1 HP9.o) _ _ _ _ _ _ _ _))
   refine zT 0 ?_
   refine zT 1 ?_
   refine zT 2 ?_
   (try simp only[Act.put,sA,sB,sC])
   refine zT 3 ?_
   refine zT 4 ?_
   refine zT 5 ?_
   refine zT 6 ?_
   (try simp only[Act.put,sA,sB,sC])
   refine zT 7 ?_
   refine zT 8 ?_
   refine zT 9 ?_
   refine zT 10 ?_
   (try simp only[Act.put,sA,sB,sC])
   refine zT 11 ?_
   refine zT 12 ?_
   refine oT 13 (fun K hK=>?_)
   go_simp
   refine hK.out _ _ (fun _=>by with_reducible (first | exact HKS.o _ (up1 HPd.o) | exact HKS.o _ (up1 (HPa.o _)) | exact HKS.o _ (up1 HP9.o) | exact HKS.o _ (x0b (up1 HP9.o) _ _ _ _ _ _ _ _))) (fun hHeld=>?_)
   replace hHeld:=hHeld (by decide)
   clear hK K
   (try simp only[Act.put,sA,sB,sC])
   refine zT 14 ?_
   refine oT 15 (fun K hK=>?_)
   go_simp
   (go_at_call 112;refine(HT.o _ (some ⟨wd.heap.size,0,none⟩) ((HU5d.o.alloc _).drew) (Rp.x01 (x1a (l:=[yl,shutT,shutT]) HX.o trivial) rU.drew)).mono ?_;rintro r w9 ⟨rfl,hu⟩;have hp9:=((Upd.alloc1 (fun _=>False) wd _).drew).tt hu;have HP9:=mK hp9;have HB9:=mK (kP hp9 HB5d.o);have HU9:=mK (HU5d.o.tt hp9);have HRR:=mK (show tokR.row w9 (fun k=>w.heap.size < k) (toldB (some ⟨wd.heap.size,0,none⟩) e) s'.sl from(x29 (e:=e) HS.o.1 HS.o.2 (Rp.x01 (x1a (F:=fun k=>w.heap.size < k) (l:=[yl,shutT,shutT]) HX.o (lt_of_block HB5d.o)) (rU.drew.tt hu)) (c:=3) (Nat.le_refl 3)).1);have hbl:w.heap.size < w9.heap.size:=lt_of_block HB9.o;have hcf:∀ i,w9.frozen? ⟨w.heap.size,i,none⟩=false:=(fun i=>by simp[World.frozen?,HB9.o]);obtain⟨k0,k1,k2,k3,k4,k5,k6,k7⟩:=x06 HB9.o;clear hu hp9)
   refine hK.out _ _ (fun _=>by with_reducible (first | exact HKS.o _ (up1 HPd.o) | exact HKS.o _ (up1 (HPa.o _)) | exact HKS.o _ (up1 HP9.o) | exact HKS.o _ (x0b (up1 HP9.o) _ _ _ _ _ _ _ _))) (fun hHeld=>?_)
   replace hHeld:=hHeld (by decide)
   clear hK K
   (try simp only[Act.put,sA,sB,sC])
   refine zT 16 ?_
   refine zT 17 ?_
   refine oT 18 (fun K hK=>?_)
   go_simp
   refine hK.out _ _ (fun _=>by with_reducible (first | exact HKS.o _ (up1 HPd.o) | exact HKS.o _ (up1 (HPa.o _)) | exact HKS.o _ (up1 HP9.o) | exact HKS.o _ (x0b (up1 HP9.o) _ _ _ _ _ _ _ _))) (fun hHeld=>?_)
   replace hHeld:=hHeld (by decide)
   clear hK K
   (try simp only[Act.put,sA,sB,sC])
   refine oT 19 (fun K hK=>?_)
   go_simp
   refine hK.out _ _ (fun h=>absurd rfl h) (fun hHeld=>?_)
   clear hK K
   (try simp only[Act.put,sA,sB,sC])
   refine x0l (by kernel_rfl) ?_ _
   go_wp2
   exact bodyPost_ret (step_end (rb:=w.heap.size) rfl _ rfl (set8 (rb:=w.heap.size) HB9.o _ _ _ _ _ _ _ _)) rfl ⟨_,_,⟨rfl,x05 HU9.o (Nat.le_refl _) _ _ _ _ _ _ _ _⟩,Rp.x09 (Rp.x0f HRR.o (x0b rU _ _ _ _ _ _ _ _) (fun k _ h e=>by omega)) (fun _ _=>trivial)⟩
  ·have pl:pp < l.length:=(List.getElem?_eq_some_iff.1 hz).1
   obtain⟨b3,o3,hA3,_,_,e0,e1,e2,e3⟩:=x0j HR.o hz
   simp only[Option.some.injEq,Addr.mk.injEq,and_true] at hA3
   obtain⟨rfl,rfl⟩:=hA3
   have H1:=mK h1
   have ek:(z.k == yl.k)=true:=by simp[hzk,HYK.o]
   have ey:(y.k == 2)=true:=by simp[hk2]
   obtain⟨f,f0,f1,f2,f3⟩:=HKX.o w rU
   have HKY:=mK (fun (v:World) (hu:Pure w v)=>(by have hh:∀ k,v.cell? ⟨bA,k,none⟩=w.cell? ⟨bA,k,none⟩:=(fun k=>hu.cell HBA.o (fun h=>h));exact⟨(hh _).trans d0,(hh _).trans e0,(hh _).trans e1,(hh _).trans e2,(hh _).trans e3,(hh _).trans f0,(hh _).trans f1,(hh _).trans f2,(hh _).trans f3⟩:(fun v=>v.cell? ⟨bA,oA+x2 * 4,none⟩=some (.int .i64 y.k)/\v.cell? ⟨bA,oA+pp * 4,none⟩=some (.int .i64 z.k)/\v.cell? ⟨bA,oA+pp * 4+1,none⟩=some (.int .i64 z.t)/\v.cell? ⟨bA,oA+pp * 4+2,none⟩=some (.int .i64 z.n)/\v.cell? ⟨bA,oA+pp * 4+3,none⟩=some (.int .i64 z.m)/\v.cell? ⟨bA,oA+li * 4,none⟩=some (.int .i64 yl.k)/\v.cell? ⟨bA,oA+li * 4+1,none⟩=some (.int .i64 yl.t)/\v.cell? ⟨bA,oA+li * 4+2,none⟩=some (.int .i64 yl.n)/\v.cell? ⟨bA,oA+li * 4+3,none⟩=some (.int .i64 yl.m)) v))
   clear hy hz hzk hk2 h1 d0 d1 d2 d3 e0 e1 e2 e3 f f0 f1 f2 f3
   have hneq:(z.t == yl.t)=false\/((z.t == yl.t)=true/\(z.n == yl.n)=false):=by
    rcases hne with h | ⟨h,h'⟩
    ·exact .inl (by simpa using h)
    ·exact .inr ⟨by simpa using h,by simpa using h'⟩
   clear hne
   rcases hneq with et | ⟨et,en⟩
   ·go_enter Tryz.func52,Tryz.ntmps52
    go_wp2_with (go_at_call 110;refine(HP.o _ aU).mono ?_;rintro r w1 ⟨rfl,hu⟩;obtain⟨hb1,hu1⟩:=x0i hu;have HB1:=mK hb1;have HU1:=mK hu1;clear hu hb1 hu1;apply As.o)
    refine⟨?_⟩
    go_wp2_with (go_at_call 111;refine(HI.o _ HU1.o).mono ?_;rintro r w2 ⟨rfl,hu⟩;have HB2:=mK (kP hu HB1.o);have HU2:=mK (HU1.o.tt hu);clear hu;apply As.o)
    refine⟨?_⟩
    obtain⟨y0,y1,y2,y3,y4⟩:=HKX.o w2 HU2.o
    go_wp2_with (go_at_call 74;refine(HA1.o _ HU2.o).mono ?_;rintro r w3 ⟨rfl,hu⟩;have HB3:=mK (kP hu HB2.o);have HU3:=mK (HU2.o.tt hu);clear hu;apply As.o)
    refine⟨?_⟩
    clear y0 y1 y2 y3 y4
    go_wp2_with (go_at_call 77;refine(HP1.o _ HU3.o).mono ?_;rintro r w4 ⟨rfl,hu⟩;have HB4:=mK (kP hu HB3.o);have HU4:=mK (HU3.o.tt hu);clear hu;apply As.o)
    refine⟨?_⟩
    have hla:bA < w4.heap.size:=Nat.lt_of_lt_of_le HBA.o HU4.o.size
    obtain⟨z0,_⟩:=HKY.o w4 HU4.o
    have HSX:=mK (heap_alloc_new w4 (.cells #[.int .i64 2,.int .i64 0,.int .i64 0,.int .i64 0] 71))
    go_wp2_with (go_at_call 77;refine(H1.o _ (HU4.o.alloc _)).mono ?_;rintro r w5 ⟨rfl,hu⟩;have HB5:=mK ((((Upd.alloc1 (fun _=>False) w4 _).tt hu).block w.heap.size (lt_of_block HB4.o) (fun h=>h)).trans HB4.o);have HU5:=mK ((HU4.o.alloc _).tt hu);have HS5:=mK ((hu.block w4.heap.size (by simp) (fun h=>h)).trans HSX.o);clear hu;apply As.o)
    refine⟨?_⟩
    clear z0
    go_wp2
    refine wp_region_held_drew (S:=(fun v=>v.cell? ⟨bA,oA+x2 * 4,none⟩=some (.int .i64 y.k)/\v.cell? ⟨bA,oA+pp * 4,none⟩=some (.int .i64 z.k)/\v.cell? ⟨bA,oA+pp * 4+1,none⟩=some (.int .i64 z.t)/\v.cell? ⟨bA,oA+pp * 4+2,none⟩=some (.int .i64 z.n)/\v.cell? ⟨bA,oA+pp * 4+3,none⟩=some (.int .i64 z.m)/\v.cell? ⟨bA,oA+li * 4,none⟩=some (.int .i64 yl.k)/\v.cell? ⟨bA,oA+li * 4+1,none⟩=some (.int .i64 yl.t)/\v.cell? ⟨bA,oA+li * 4+2,none⟩=some (.int .i64 yl.n)/\v.cell? ⟨bA,oA+li * 4+3,none⟩=some (.int .i64 yl.m))) (by kernel_rfl) ?_ (fun hHeld=>?_)
    ·with_reducible (first | exact HKY.o _ HU5.o.drew | exact HKY.o _ HU5.o)
    refine zH 0 ?_
    refine zH 1 ?_
    refine zH 2 ?_
    refine zH 3 ?_
    (try simp only[Act.put,sA,sB,sC])
    refine zH 4 ?_
    refine zH 5 ?_
    refine zH 6 ?_
    refine zH 7 ?_
    (try simp only[Act.put,sA,sB,sC])
    refine zH 8 ?_
    refine zH 9 ?_
    refine zH 10 ?_
    refine zH 11 ?_
    (try simp only[Act.put,sA,sB,sC])
    refine zH 12 ?_
    refine wpAnyH_done (by kernel_rfl) ?_ _
    have HB5d:=mK (show w5.drew.heap[w.heap.size]?=_ from HB5.o)
    have HS5d:=mK (show w5.drew.heap[w4.heap.size]?=_ from HS5.o)
    have HU5d:=mK (HU5.o).drew
    generalize w5.drew=wd at *
    have HL4:=mK (lt_of_block HB4.o)
    have hsl:=lt_of_block HS5d.o
    have HKS:=mK (fun v (hu:Upd (fun k=>k=w.heap.size) wd v)=>(by obtain⟨g,g0,g1,g2,g3⟩:=HKX.o wd HU5d.o;have hb9:bA < wd.heap.size:=Nat.lt_of_lt_of_le HBA.o HU5d.o.size;have hne:bA ≠ w.heap.size:=(by have:=HBA.o;omega);have hh:∀ k,v.cell? ⟨bA,k,none⟩=wd.cell? ⟨bA,k,none⟩:=(fun k=>hu.cell hb9 hne);obtain⟨q0,q1,q2,q3,_⟩:=x5g ((hu.block w4.heap.size hsl (by have:=HL4.o;omega)).trans HS5d.o);exact⟨⟨q0,q1,q2,q3⟩,(hh _).trans g0,(hh _).trans g1,(hh _).trans g2,(hh _).trans g3⟩:(fun v=>(v.cell? ⟨w4.heap.size,0,none⟩=some (.int .i64 2)/\v.cell? ⟨w4.heap.size,1,none⟩=some (.int .i64 0)/\v.cell? ⟨w4.heap.size,2,none⟩=some (.int .i64 0)/\v.cell? ⟨w4.heap.size,3,none⟩=some (.int .i64 0))/\v.cell? ⟨bA,oA+li * 4,none⟩=some (.int .i64 yl.k)/\v.cell? ⟨bA,oA+li * 4+1,none⟩=some (.int .i64 yl.t)/\v.cell? ⟨bA,oA+li * 4+2,none⟩=some (.int .i64 yl.n)/\v.cell? ⟨bA,oA+li * 4+3,none⟩=some (.int .i64 yl.m)) v))
    have HX:=mK (heap_alloc_new wd (.cells #[.int .i64 yl.k,.int .i64 yl.t,.int .i64 yl.n,.int .i64 yl.m,.int .i64 2,.int .i64 0,.int .i64 0,.int .i64 0,.int .i64 2,.int .i64 0,.int .i64 0,.int .i64 0] 71))
    have HPd:=mK (show Pure wd wd.drew from rU.drew)
    have HPa:=mK (fun X=>(show Pure wd (wd.alloc X).drew from(rU.alloc _).drew))
    go_wp2
    refine x0m (P:=Tryz.prog) (fun v=>(v.cell? ⟨w4.heap.size,0,none⟩=some (.int .i64 2)/\v.cell? ⟨w4.heap.size,1,none⟩=some (.int .i64 0)/\v.cell? ⟨w4.heap.size,2,none⟩=some (.int .i64 0)/\v.cell? ⟨w4.heap.size,3,none⟩=some (.int .i64 0))/\v.cell? ⟨bA,oA+li * 4,none⟩=some (.int .i64 yl.k)/\v.cell? ⟨bA,oA+li * 4+1,none⟩=some (.int .i64 yl.t)/\v.cell? ⟨bA,oA+li * 4+2,none⟩=some (.int .i64 yl.n)/\v.cell? ⟨bA,oA+li * 4+3,none⟩=some (.int .i64 yl.m)) 19 (by kernel_rfl) ?_ (fun hHeld=>?_)
    ·with_reducible (first | exact HKS.o _ (up1 HPd.o) | exact HKS.o _ (up1 (HPa.o _)) | exact HKS.o _ (up1 HP9.o) | exact HKS.o _ (x0b (up1 HP9.o) _ _ _ _ _ _ _ _))
    refine zT 0 ?_
    refine zT 1 ?_
    refine zT 2 ?_
    (try simp only[Act.put,sA,sB,sC])
    refine zT 3 ?_
    refine zT 4 ?_
    refine zT 5 ?_
    refine zT 6 ?_
    (try simp only[Act.put,sA,sB,sC])
    refine zT 7 ?_
    refine zT 8 ?_
    refine zT 9 ?_
    refine zT 10 ?_
    (try simp only[Act.put,sA,sB,sC])
    refine zT 11 ?_
    refine zT 12 ?_
    refine oT 13 (fun K hK=>?_)
    go_simp
    refine hK.out _ _ (fun _=>by with_reducible (first | exact HKS.o _ (up1 HPd.o) | exact HKS.o _ (up1 (HPa.o _)) | exact HKS.o _ (up1 HP9.o) | exact HKS.o _ (x0b (up1 HP9.o) _ _ _ _ _ _ _ _))) (fun hHeld=>?_)
    replace hHeld:=hHeld (by decide)
    clear hK K
    (try simp only[Act.put,sA,sB,sC])
    refine zT 14 ?_
    refine oT 15 (fun K hK=>?_)
    go_simp
    (go_at_call 112;refine(HT.o _ (some ⟨wd.heap.size,0,none⟩) ((HU5d.o.alloc _).drew) (Rp.x01 (x1a (l:=[yl,shutT,shutT]) HX.o trivial) rU.drew)).mono ?_;rintro r w9 ⟨rfl,hu⟩;have hp9:=((Upd.alloc1 (fun _=>False) wd _).drew).tt hu;have HP9:=mK hp9;have HB9:=mK (kP hp9 HB5d.o);have HU9:=mK (HU5d.o.tt hp9);have HRR:=mK (show tokR.row w9 (fun k=>w.heap.size < k) (toldB (some ⟨wd.heap.size,0,none⟩) e) s'.sl from(x29 (e:=e) HS.o.1 HS.o.2 (Rp.x01 (x1a (F:=fun k=>w.heap.size < k) (l:=[yl,shutT,shutT]) HX.o (lt_of_block HB5d.o)) (rU.drew.tt hu)) (c:=3) (Nat.le_refl 3)).1);have hbl:w.heap.size < w9.heap.size:=lt_of_block HB9.o;have hcf:∀ i,w9.frozen? ⟨w.heap.size,i,none⟩=false:=(fun i=>by simp[World.frozen?,HB9.o]);obtain⟨k0,k1,k2,k3,k4,k5,k6,k7⟩:=x06 HB9.o;clear hu hp9)
    refine hK.out _ _ (fun _=>by with_reducible (first | exact HKS.o _ (up1 HPd.o) | exact HKS.o _ (up1 (HPa.o _)) | exact HKS.o _ (up1 HP9.o) | exact HKS.o _ (x0b (up1 HP9.o) _ _ _ _ _ _ _ _))) (fun hHeld=>?_)
    replace hHeld:=hHeld (by decide)
    clear hK K
    (try simp only[Act.put,sA,sB,sC])
    refine zT 16 ?_
    refine zT 17 ?_
    refine oT 18 (fun K hK=>?_)
    go_simp
    refine hK.out _ _ (fun _=>by with_reducible (first | exact HKS.o _ (up1 HPd.o) | exact HKS.o _ (up1 (HPa.o _)) | exact HKS.o _ (up1 HP9.o) | exact HKS.o _ (x0b (up1 HP9.o) _ _ _ _ _ _ _ _))) (fun hHeld=>?_)
    replace hHeld:=hHeld (by decide)
    clear hK K
    (try simp only[Act.put,sA,sB,sC])
    refine oT 19 (fun K hK=>?_)
    go_simp
    refine hK.out _ _ (fun h=>absurd rfl h) (fun hHeld=>?_)
    clear hK K
    (try simp only[Act.put,sA,sB,sC])
    refine x0l (by kernel_rfl) ?_ _
    go_wp2
    exact bodyPost_ret (step_end (rb:=w.heap.size) rfl _ rfl (set8 (rb:=w.heap.size) HB9.o _ _ _ _ _ _ _ _)) rfl ⟨_,_,⟨rfl,x05 HU9.o (Nat.le_refl _) _ _ _ _ _ _ _ _⟩,Rp.x09 (Rp.x0f HRR.o (x0b rU _ _ _ _ _ _ _ _) (fun k _ h e=>by omega)) (fun _ _=>trivial)⟩
   ·go_enter Tryz.func52,Tryz.ntmps52
    go_wp2_with (go_at_call 110;refine(HP.o _ aU).mono ?_;rintro r w1 ⟨rfl,hu⟩;obtain⟨hb1,hu1⟩:=x0i hu;have HB1:=mK hb1;have HU1:=mK hu1;clear hu hb1 hu1;apply As.o)
    refine⟨?_⟩
    go_wp2_with (go_at_call 111;refine(HI.o _ HU1.o).mono ?_;rintro r w2 ⟨rfl,hu⟩;have HB2:=mK (kP hu HB1.o);have HU2:=mK (HU1.o.tt hu);clear hu;apply As.o)
    refine⟨?_⟩
    obtain⟨y0,y1,y2,y3,y4⟩:=HKX.o w2 HU2.o
    go_wp2_with (go_at_call 74;refine(HA1.o _ HU2.o).mono ?_;rintro r w3 ⟨rfl,hu⟩;have HB3:=mK (kP hu HB2.o);have HU3:=mK (HU2.o.tt hu);clear hu;apply As.o)
    refine⟨?_⟩
    clear y0 y1 y2 y3 y4
    go_wp2_with (go_at_call 77;refine(HP1.o _ HU3.o).mono ?_;rintro r w4 ⟨rfl,hu⟩;have HB4:=mK (kP hu HB3.o);have HU4:=mK (HU3.o.tt hu);clear hu;apply As.o)
    refine⟨?_⟩
    have hla:bA < w4.heap.size:=Nat.lt_of_lt_of_le HBA.o HU4.o.size
    obtain⟨z0,_⟩:=HKY.o w4 HU4.o
    have HSX:=mK (heap_alloc_new w4 (.cells #[.int .i64 2,.int .i64 0,.int .i64 0,.int .i64 0] 71))
    go_wp2_with (go_at_call 77;refine(H1.o _ (HU4.o.alloc _)).mono ?_;rintro r w5 ⟨rfl,hu⟩;have HB5:=mK ((((Upd.alloc1 (fun _=>False) w4 _).tt hu).block w.heap.size (lt_of_block HB4.o) (fun h=>h)).trans HB4.o);have HU5:=mK ((HU4.o.alloc _).tt hu);have HS5:=mK ((hu.block w4.heap.size (by simp) (fun h=>h)).trans HSX.o);clear hu;apply As.o)
    refine⟨?_⟩
    clear z0
    go_wp2
    refine wp_region_held_drew (S:=(fun v=>v.cell? ⟨bA,oA+x2 * 4,none⟩=some (.int .i64 y.k)/\v.cell? ⟨bA,oA+pp * 4,none⟩=some (.int .i64 z.k)/\v.cell? ⟨bA,oA+pp * 4+1,none⟩=some (.int .i64 z.t)/\v.cell? ⟨bA,oA+pp * 4+2,none⟩=some (.int .i64 z.n)/\v.cell? ⟨bA,oA+pp * 4+3,none⟩=some (.int .i64 z.m)/\v.cell? ⟨bA,oA+li * 4,none⟩=some (.int .i64 yl.k)/\v.cell? ⟨bA,oA+li * 4+1,none⟩=some (.int .i64 yl.t)/\v.cell? ⟨bA,oA+li * 4+2,none⟩=some (.int .i64 yl.n)/\v.cell? ⟨bA,oA+li * 4+3,none⟩=some (.int .i64 yl.m))) (by kernel_rfl) ?_ (fun hHeld=>?_)
    ·with_reducible (first | exact HKY.o _ HU5.o.drew | exact HKY.o _ HU5.o)
    refine zH 0 ?_
    refine zH 1 ?_
    refine zH 2 ?_
    refine zH 3 ?_
    (try simp only[Act.put,sA,sB,sC])
    refine zH 4 ?_
    refine zH 5 ?_
    refine zH 6 ?_
    refine zH 7 ?_
    (try simp only[Act.put,sA,sB,sC])
    refine zH 8 ?_
    refine zH 9 ?_
    refine zH 10 ?_
    refine zH 11 ?_
    (try simp only[Act.put,sA,sB,sC])
    refine zH 12 ?_
    refine wpAnyH_done (by kernel_rfl) ?_ _
    have HB5d:=mK (show w5.drew.heap[w.heap.size]?=_ from HB5.o)
    have HS5d:=mK (show w5.drew.heap[w4.heap.size]?=_ from HS5.o)
    have HU5d:=mK (HU5.o).drew
    generalize w5.drew=wd at *
    have HL4:=mK (lt_of_block HB4.o)
    have hsl:=lt_of_block HS5d.o
    have HKS:=mK (fun v (hu:Upd (fun k=>k=w.heap.size) wd v)=>(by obtain⟨g,g0,g1,g2,g3⟩:=HKX.o wd HU5d.o;have hb9:bA < wd.heap.size:=Nat.lt_of_lt_of_le HBA.o HU5d.o.size;have hne:bA ≠ w.heap.size:=(by have:=HBA.o;omega);have hh:∀ k,v.cell? ⟨bA,k,none⟩=wd.cell? ⟨bA,k,none⟩:=(fun k=>hu.cell hb9 hne);obtain⟨q0,q1,q2,q3,_⟩:=x5g ((hu.block w4.heap.size hsl (by have:=HL4.o;omega)).trans HS5d.o);exact⟨⟨q0,q1,q2,q3⟩,(hh _).trans g0,(hh _).trans g1,(hh _).trans g2,(hh _).trans g3⟩:(fun v=>(v.cell? ⟨w4.heap.size,0,none⟩=some (.int .i64 2)/\v.cell? ⟨w4.heap.size,1,none⟩=some (.int .i64 0)/\v.cell? ⟨w4.heap.size,2,none⟩=some (.int .i64 0)/\v.cell? ⟨w4.heap.size,3,none⟩=some (.int .i64 0))/\v.cell? ⟨bA,oA+li * 4,none⟩=some (.int .i64 yl.k)/\v.cell? ⟨bA,oA+li * 4+1,none⟩=some (.int .i64 yl.t)/\v.cell? ⟨bA,oA+li * 4+2,none⟩=some (.int .i64 yl.n)/\v.cell? ⟨bA,oA+li * 4+3,none⟩=some (.int .i64 yl.m)) v))
    have HX:=mK (heap_alloc_new wd (.cells #[.int .i64 yl.k,.int .i64 yl.t,.int .i64 yl.n,.int .i64 yl.m,.int .i64 2,.int .i64 0,.int .i64 0,.int .i64 0,.int .i64 2,.int .i64 0,.int .i64 0,.int .i64 0] 71))
    have HPd:=mK (show Pure wd wd.drew from rU.drew)
    have HPa:=mK (fun X=>(show Pure wd (wd.alloc X).drew from(rU.alloc _).drew))
    go_wp2
    refine x0m (P:=Tryz.prog) (fun v=>(v.cell? ⟨w4.heap.size,0,none⟩=some (.int .i64 2)/\v.cell? ⟨w4.heap.size,1,none⟩=some (.int .i64 0)/\v.cell? ⟨w4.heap.size,2,none⟩=some (.int .i64 0)/\v.cell? ⟨w4.heap.size,3,none⟩=some (.int .i64 0))/\v.cell? ⟨bA,oA+li * 4,none⟩=some (.int .i64 yl.k)/\v.cell? ⟨bA,oA+li * 4+1,none⟩=some (.int .i64 yl.t)/\v.cell? ⟨bA,oA+li * 4+2,none⟩=some (.int .i64 yl.n)/\v.cell? ⟨bA,oA+li * 4+3,none⟩=some (.int .i64 yl.m)) 19 (by kernel_rfl) ?_ (fun hHeld=>?_)
    ·with_reducible (first | exact HKS.o _ (up1 HPd.o) | exact HKS.o _ (up1 (HPa.o _)) | exact HKS.o _ (up1 HP9.o) | exact HKS.o _ (x0b (up1 HP9.o) _ _ _ _ _ _ _ _))
    refine zT 0 ?_
    refine zT 1 ?_
    refine zT 2 ?_
    (try simp only[Act.put,sA,sB,sC])
    refine zT 3 ?_
    refine zT 4 ?_
    refine zT 5 ?_
    refine zT 6 ?_
    (try simp only[Act.put,sA,sB,sC])
    refine zT 7 ?_
    refine zT 8 ?_
    refine zT 9 ?_
    refine zT 10 ?_
    (try simp only[Act.put,sA,sB,sC])
    refine zT 11 ?_
    refine zT 12 ?_
    refine oT 13 (fun K hK=>?_)
    go_simp
    refine hK.out _ _ (fun _=>by with_reducible (first | exact HKS.o _ (up1 HPd.o) | exact HKS.o _ (up1 (HPa.o _)) | exact HKS.o _ (up1 HP9.o) | exact HKS.o _ (x0b (up1 HP9.o) _ _ _ _ _ _ _ _))) (fun hHeld=>?_)
    replace hHeld:=hHeld (by decide)
    clear hK K
    (try simp only[Act.put,sA,sB,sC])
    refine zT 14 ?_
    refine oT 15 (fun K hK=>?_)
    go_simp
    (go_at_call 112;refine(HT.o _ (some ⟨wd.heap.size,0,none⟩) ((HU5d.o.alloc _).drew) (Rp.x01 (x1a (l:=[yl,shutT,shutT]) HX.o trivial) rU.drew)).mono ?_;rintro r w9 ⟨rfl,hu⟩;have hp9:=((Upd.alloc1 (fun _=>False) wd _).drew).tt hu;have HP9:=mK hp9;have HB9:=mK (kP hp9 HB5d.o);have HU9:=mK (HU5d.o.tt hp9);have HRR:=mK (show tokR.row w9 (fun k=>w.heap.size < k) (toldB (some ⟨wd.heap.size,0,none⟩) e) s'.sl from(x29 (e:=e) HS.o.1 HS.o.2 (Rp.x01 (x1a (F:=fun k=>w.heap.size < k) (l:=[yl,shutT,shutT]) HX.o (lt_of_block HB5d.o)) (rU.drew.tt hu)) (c:=3) (Nat.le_refl 3)).1);have hbl:w.heap.size < w9.heap.size:=lt_of_block HB9.o;have hcf:∀ i,w9.frozen? ⟨w.heap.size,i,none⟩=false:=(fun i=>by simp[World.frozen?,HB9.o]);obtain⟨k0,k1,k2,k3,k4,k5,k6,k7⟩:=x06 HB9.o;clear hu hp9)
    refine hK.out _ _ (fun _=>by with_reducible (first | exact HKS.o _ (up1 HPd.o) | exact HKS.o _ (up1 (HPa.o _)) | exact HKS.o _ (up1 HP9.o) | exact HKS.o _ (x0b (up1 HP9.o) _ _ _ _ _ _ _ _))) (fun hHeld=>?_)
    replace hHeld:=hHeld (by decide)
    clear hK K
    (try simp only[Act.put,sA,sB,sC])
    refine zT 16 ?_
    refine zT 17 ?_
    refine oT 18 (fun K hK=>?_)
    go_simp
    refine hK.out _ _ (fun _=>by with_reducible (first | exact HKS.o _ (up1 HPd.o) | exact HKS.o _ (up1 (HPa.o _)) | exact HKS.o _ (up1 HP9.o) | exact HKS.o _ (x0b (up1 HP9.o) _ _ _ _ _ _ _ _))) (fun hHeld=>?_)
    replace hHeld:=hHeld (by decide)
    clear hK K
    (try simp only[Act.put,sA,sB,sC])
    refine oT 19 (fun K hK=>?_)
    go_simp
    refine hK.out _ _ (fun h=>absurd rfl h) (fun hHeld=>?_)
    clear hK K
    (try simp only[Act.put,sA,sB,sC])
    refine x0l (by kernel_rfl) ?_ _
    go_wp2
    exact bodyPost_ret (step_end (rb:=w.heap.size) rfl _ rfl (set8 (rb:=w.heap.size) HB9.o _ _ _ _ _ _ _ _)) rfl ⟨_,_,⟨rfl,x05 HU9.o (Nat.le_refl _) _ _ _ _ _ _ _ _⟩,Rp.x09 (Rp.x0f HRR.o (x0b rU _ _ _ _ _ _ _ _) (fun k _ h e=>by omega)) (fun _ _=>trivial)⟩
theorem x5q {bA oA:Nat} {l:List Tok} {p pe e xv:Int} (hrow:tokR.row w F (some ⟨bA,oA,none⟩) l) (hb:l.length<=2048)
 (hp:∀ W,Pure w W->Calls Tryz.prog 110 #[.pointer (some ⟨cb,0,none⟩),.slice (some ⟨bA,oA,none⟩) l.length c,.int .i64 p] W (fun r w'=>r=.returned (.int .i64 pe)/\Pure W w'))
 (hi:∀ W,Pure w W->Calls Tryz.prog 111 #[.slice (some ⟨bA,oA,none⟩) l.length c,.int .i64 p] W (fun r w'=>r=.returned (.int .i64 xv)/\Pure W w'))
 (ha:∀ (q:Int) (W:World),Pure w W->Calls Tryz.prog 74 #[.slice (some ⟨bA,oA,none⟩) l.length c,.int .i64 q] W (fun r w'=>r=.returned (.int .i64 (x04 l q))/\Pure W w'))
 (hn:(pe ≠ 0/\e=pe)\/(pe=0/\e=6/\(xv=-1\/∃ (x li:Nat),xv=x/\x04 l x=li/\(x04 l li < 0\/∃ (q:Nat) (y:Tok),x04 l li=q/\l[q]?=some y/\(y.t ≠ 6\/(y.t=6/\∃ (pt pl po:Int),-1<=pt/\pt < l.length/\(∀ W,Pure w W->Calls Tryz.prog 77 #[.slice (some ⟨bA,oA,none⟩) l.length c,.int .i64 (x:Nat)] W (fun r w'=>r=.returned (.int .i64 pt)/\Pure W w'))/\(∀ W,Pure w W->Calls Tryz.prog 77 #[.slice (some ⟨bA,oA,none⟩) l.length c,.int .i64 (li:Nat)] W (fun r w'=>r=.returned (.int .i64 pl)/\Pure W w'))/\(∀ W,Pure w W->Calls Tryz.prog 77 #[.slice (some ⟨bA,oA,none⟩) l.length c,.int .i64 (q:Nat)] W (fun r w'=>r=.returned (.int .i64 po)/\Pure W w'))/\(pl ≠ pt+1\/(pl=pt+1/\po ≠ pt+1+1)))))))) :
 Calls Tryz.prog 54 #[.pointer (some ⟨cb,0,none⟩),.slice (some ⟨bA,oA,none⟩) l.length c,.int .i64 p] w (fun r w'=>r=.returned (.tuple #[step0,.int .i64 e])/\Pure w w'):=by
 have HP:=mK hp
 have HI:=mK hi
 have HA:=mK ha
 have HR:=mK hrow
 clear hp hi ha hrow
 rcases hn with ⟨p0,rfl⟩ | ⟨rfl,rfl,hn⟩
 ·have f0:(e != 0)=true:=by simpa using p0
  clear p0
  go_enter Tryz.func54,Tryz.ntmps54
  go_wp2_with (go_at_call 110;refine(HP.o _ aU).mono ?_;rintro r w1 ⟨rfl,hu⟩;obtain⟨hb1,hu1⟩:=x0i hu;have HB1:=mK hb1;have HU1:=mK hu1;clear hu hb1 hu1;apply As.o)
  refine⟨?_⟩
  have hbl:w.heap.size < w1.heap.size:=lt_of_block HB1.o
  have hcf:=fZ HB1.o
  obtain⟨k0,k1,k2,k3,k4,k5,k6,k7⟩:=x06 HB1.o
  go_wp2
  exact bodyPost_ret (step_end (rb:=w.heap.size) rfl _ rfl (set8 (rb:=w.heap.size) HB1.o _ _ _ _ _ _ _ _)) rfl ⟨rfl,x05 HU1.o (Nat.le_refl _) _ _ _ _ _ _ _ _⟩
 rcases hn with rfl | ⟨x,li,rfl,hli,hn⟩
 ·have hm:max (-1:Int) 0=0:=by decide
  obtain⟨a0,ha0⟩:∃ a0,x04 l 0=a0:=⟨_,rfl⟩
  have HA0:=mK (fun W hu=>HA.o 0 W hu)
  rw[ha0] at HA0
  have HA1:=mK (fun W hu=>HA.o (max a0 0) W hu)
  generalize x04 l (max a0 0)=a1 at *
  generalize hmx:max a0 0=mx at *
  clear ha0
  go_enter Tryz.func54,Tryz.ntmps54
  go_wp2_with (go_at_call 110;refine(HP.o _ aU).mono ?_;rintro r w1 ⟨rfl,hu⟩;obtain⟨hb1,hu1⟩:=x0i hu;have HB1:=mK hb1;have HU1:=mK hu1;clear hu hb1 hu1;apply As.o)
  refine⟨?_⟩
  go_wp2_with (go_at_call 111;refine(HI.o _ HU1.o).mono ?_;rintro r w2 ⟨rfl,hu⟩;have HB2:=mK (kP hu HB1.o);have HU2:=mK (HU1.o.tt hu);clear hu;apply As.o)
  refine⟨?_⟩
  go_wp2_with (go_at_call 74;refine(HA0.o _ HU2.o).mono ?_;rintro r w3 ⟨rfl,hu⟩;have HB3:=mK (kP hu HB2.o);have HU3:=mK (HU2.o.tt hu);clear hu;apply As.o)
  refine⟨?_⟩
  go_wp2_with (go_at_call 74;refine(HA1.o _ HU3.o).mono ?_;rintro r w4 ⟨rfl,hu⟩;have HB4:=mK (kP hu HB3.o);have HU4:=mK (HU3.o.tt hu);clear hu;apply As.o)
  refine⟨?_⟩
  have hbl:w.heap.size < w4.heap.size:=lt_of_block HB4.o
  have hcf:=fZ HB4.o
  obtain⟨k0,k1,k2,k3,k4,k5,k6,k7⟩:=x06 HB4.o
  go_wp2
  exact bodyPost_ret (step_end (rb:=w.heap.size) rfl _ rfl (set8 (rb:=w.heap.size) HB4.o _ _ _ _ _ _ _ _)) rfl ⟨rfl,x05 HU4.o (Nat.le_refl _) _ _ _ _ _ _ _ _⟩
 have hm1:max (x:Int) 0=(x:Int):=by omega
 have hm2:max (li:Int) 0=(li:Int):=by omega
 have HA1:=mK (fun W hu=>HA.o (x:Int) W hu)
 rw[hli] at HA1
 have HA2:=mK (fun W hu=>HA.o (li:Int) W hu)
 have j0:¬ ((x:Int) < 0):=by omega
 have j1:¬ ((li:Int) < 0):=by omega
 rcases hn with hq | ⟨q,y,hq,hy,hn⟩
 ·generalize x04 l li=a1 at *
  clear hli
  go_enter Tryz.func54,Tryz.ntmps54
  go_wp2_with (go_at_call 110;refine(HP.o _ aU).mono ?_;rintro r w1 ⟨rfl,hu⟩;obtain⟨hb1,hu1⟩:=x0i hu;have HB1:=mK hb1;have HU1:=mK hu1;clear hu hb1 hu1;apply As.o)
  refine⟨?_⟩
  go_wp2_with (go_at_call 111;refine(HI.o _ HU1.o).mono ?_;rintro r w2 ⟨rfl,hu⟩;have HB2:=mK (kP hu HB1.o);have HU2:=mK (HU1.o.tt hu);clear hu;apply As.o)
  refine⟨?_⟩
  go_wp2_with (go_at_call 74;refine(HA1.o _ HU2.o).mono ?_;rintro r w3 ⟨rfl,hu⟩;have HB3:=mK (kP hu HB2.o);have HU3:=mK (HU2.o.tt hu);clear hu;apply As.o)
  refine⟨?_⟩
  go_wp2_with (go_at_call 74;refine(HA2.o _ HU3.o).mono ?_;rintro r w4 ⟨rfl,hu⟩;have HB4:=mK (kP hu HB3.o);have HU4:=mK (HU3.o.tt hu);clear hu;apply As.o)
  refine⟨?_⟩
  have hbl:w.heap.size < w4.heap.size:=lt_of_block HB4.o
  have hcf:=fZ HB4.o
  obtain⟨k0,k1,k2,k3,k4,k5,k6,k7⟩:=x06 HB4.o
  go_wp2
  exact bodyPost_ret (step_end (rb:=w.heap.size) rfl _ rfl (set8 (rb:=w.heap.size) HB4.o _ _ _ _ _ _ _ _)) rfl ⟨rfl,x05 HU4.o (Nat.le_refl _) _ _ _ _ _ _ _ _⟩
 rw[hq] at HA2
 have ql:q < l.length:=(List.getElem?_eq_some_iff.1 hy).1
 have j2:¬ ((q:Int) < 0):=by omega
 obtain⟨bA',oA',hA,_,hbA,c0,c1,c2,c3⟩:=x0j HR.o hy
 cases hA
 have HY:=mK (fun (v:World) (hu:Pure w v)=>((hu.cell hbA (fun h=>h)).trans c1:v.cell? ⟨bA,oA+q * 4+1,none⟩=some (.int .i64 y.t)))
 clear hy hbA c0 c1 c2 c3 hli hq
 rcases hn with h6 | ⟨h6,pt,pl,po,hpt0,hpt1,hp1,hp2,hp3,hn⟩
 ·have f0:(y.t != 6)=true:=by simpa using h6
  clear h6
  go_enter Tryz.func54,Tryz.ntmps54
  go_wp2_with (go_at_call 110;refine(HP.o _ aU).mono ?_;rintro r w1 ⟨rfl,hu⟩;obtain⟨hb1,hu1⟩:=x0i hu;have HB1:=mK hb1;have HU1:=mK hu1;clear hu hb1 hu1;apply As.o)
  refine⟨?_⟩
  go_wp2_with (go_at_call 111;refine(HI.o _ HU1.o).mono ?_;rintro r w2 ⟨rfl,hu⟩;have HB2:=mK (kP hu HB1.o);have HU2:=mK (HU1.o.tt hu);clear hu;apply As.o)
  refine⟨?_⟩
  go_wp2_with (go_at_call 74;refine(HA1.o _ HU2.o).mono ?_;rintro r w3 ⟨rfl,hu⟩;have HB3:=mK (kP hu HB2.o);have HU3:=mK (HU2.o.tt hu);clear hu;apply As.o)
  refine⟨?_⟩
  go_wp2_with (go_at_call 74;refine(HA2.o _ HU3.o).mono ?_;rintro r w4 ⟨rfl,hu⟩;have HB4:=mK (kP hu HB3.o);have HU4:=mK (HU3.o.tt hu);clear hu;apply As.o)
  refine⟨?_⟩
  have z0:=HY.o w4 HU4.o
  have hbl:w.heap.size < w4.heap.size:=lt_of_block HB4.o
  have hcf:=fZ HB4.o
  obtain⟨k0,k1,k2,k3,k4,k5,k6,k7⟩:=x06 HB4.o
  go_wp2
  exact bodyPost_ret (step_end (rb:=w.heap.size) rfl _ rfl (set8 (rb:=w.heap.size) HB4.o _ _ _ _ _ _ _ _)) rfl ⟨rfl,x05 HU4.o (Nat.le_refl _) _ _ _ _ _ _ _ _⟩
 have f0:(y.t != 6)=false:=by simp[h6]
 have HP1:=mK hp1
 have HP2:=mK hp2
 have HP3:=mK hp3
 have hw1:IntKind.i64.wrap (pt+1)=pt+1:=IntWalk.i64_in _ (by omega)
 have hw2:IntKind.i64.wrap (pt+1+1)=pt+1+1:=IntWalk.i64_in _ (by omega)
 clear h6 hp1 hp2 hp3 hpt0 hpt1
 rcases hn with hl | ⟨hl,ho⟩
 ·have f1:(pl != pt+1)=true:=by simpa using hl
  clear hl
  go_enter Tryz.func54,Tryz.ntmps54
  go_wp2_with (go_at_call 110;refine(HP.o _ aU).mono ?_;rintro r w1 ⟨rfl,hu⟩;obtain⟨hb1,hu1⟩:=x0i hu;have HB1:=mK hb1;have HU1:=mK hu1;clear hu hb1 hu1;apply As.o)
  refine⟨?_⟩
  go_wp2_with (go_at_call 111;refine(HI.o _ HU1.o).mono ?_;rintro r w2 ⟨rfl,hu⟩;have HB2:=mK (kP hu HB1.o);have HU2:=mK (HU1.o.tt hu);clear hu;apply As.o)
  refine⟨?_⟩
  go_wp2_with (go_at_call 74;refine(HA1.o _ HU2.o).mono ?_;rintro r w3 ⟨rfl,hu⟩;have HB3:=mK (kP hu HB2.o);have HU3:=mK (HU2.o.tt hu);clear hu;apply As.o)
  refine⟨?_⟩
  go_wp2_with (go_at_call 74;refine(HA2.o _ HU3.o).mono ?_;rintro r w4 ⟨rfl,hu⟩;have HB4:=mK (kP hu HB3.o);have HU4:=mK (HU3.o.tt hu);clear hu;apply As.o)
  refine⟨?_⟩
  have z0:=HY.o w4 HU4.o
  go_wp2_with (go_at_call 77;refine(HP1.o _ HU4.o).mono ?_;rintro r w5 ⟨rfl,hu⟩;have HB5:=mK (kP hu HB4.o);have HU5:=mK (HU4.o.tt hu);clear hu;apply As.o)
  refine⟨?_⟩
  clear z0
  go_wp2_with (go_at_call 77;refine(HP2.o _ HU5.o).mono ?_;rintro r w6 ⟨rfl,hu⟩;have HB6:=mK (kP hu HB5.o);have HU6:=mK (HU5.o.tt hu);clear hu;apply As.o)
  refine⟨?_⟩
  have hbl:w.heap.size < w6.heap.size:=lt_of_block HB6.o
  have hcf:=fZ HB6.o
  obtain⟨k0,k1,k2,k3,k4,k5,k6,k7⟩:=x06 HB6.o
  go_wp2
  exact bodyPost_ret (step_end (rb:=w.heap.size) rfl _ rfl (set8 (rb:=w.heap.size) HB6.o _ _ _ _ _ _ _ _)) rfl ⟨rfl,x05 HU6.o (Nat.le_refl _) _ _ _ _ _ _ _ _⟩
 ·have f1:(pl != pt+1)=false:=by simpa using hl
  have f2:(po != pt+1+1)=true:=by simpa using ho
  clear hl ho
  go_enter Tryz.func54,Tryz.ntmps54
  go_wp2_with (go_at_call 110;refine(HP.o _ aU).mono ?_;rintro r w1 ⟨rfl,hu⟩;obtain⟨hb1,hu1⟩:=x0i hu;have HB1:=mK hb1;have HU1:=mK hu1;clear hu hb1 hu1;apply As.o)
  refine⟨?_⟩
  go_wp2_with (go_at_call 111;refine(HI.o _ HU1.o).mono ?_;rintro r w2 ⟨rfl,hu⟩;have HB2:=mK (kP hu HB1.o);have HU2:=mK (HU1.o.tt hu);clear hu;apply As.o)
  refine⟨?_⟩
  go_wp2_with (go_at_call 74;refine(HA1.o _ HU2.o).mono ?_;rintro r w3 ⟨rfl,hu⟩;have HB3:=mK (kP hu HB2.o);have HU3:=mK (HU2.o.tt hu);clear hu;apply As.o)
  refine⟨?_⟩
  go_wp2_with (go_at_call 74;refine(HA2.o _ HU3.o).mono ?_;rintro r w4 ⟨rfl,hu⟩;have HB4:=mK (kP hu HB3.o);have HU4:=mK (HU3.o.tt hu);clear hu;apply As.o)
  refine⟨?_⟩
  have z0:=HY.o w4 HU4.o
  go_wp2_with (go_at_call 77;refine(HP1.o _ HU4.o).mono ?_;rintro r w5 ⟨rfl,hu⟩;have HB5:=mK (kP hu HB4.o);have HU5:=mK (HU4.o.tt hu);clear hu;apply As.o)
  refine⟨?_⟩
  clear z0
  go_wp2_with (go_at_call 77;refine(HP2.o _ HU5.o).mono ?_;rintro r w6 ⟨rfl,hu⟩;have HB6:=mK (kP hu HB5.o);have HU6:=mK (HU5.o.tt hu);clear hu;apply As.o)
  refine⟨?_⟩
  go_wp2_with (go_at_call 77;refine(HP3.o _ HU6.o).mono ?_;rintro r w7 ⟨rfl,hu⟩;have HB7:=mK (kP hu HB6.o);have HU7:=mK (HU6.o.tt hu);clear hu;apply As.o)
  refine⟨?_⟩
  have hbl:w.heap.size < w7.heap.size:=lt_of_block HB7.o
  have hcf:=fZ HB7.o
  obtain⟨k0,k1,k2,k3,k4,k5,k6,k7⟩:=x06 HB7.o
  go_wp2
  exact bodyPost_ret (step_end (rb:=w.heap.size) rfl _ rfl (set8 (rb:=w.heap.size) HB7.o _ _ _ _ _ _ _ _)) rfl ⟨rfl,x05 HU7.o (Nat.le_refl _) _ _ _ _ _ _ _ _⟩
theorem Outdent27_a {bA oA:Nat} {l:List Tok} {p pt e:Int} {x li q:Nat} {y:Tok} {s':StepD} (hrow:tokR.row w F (some ⟨bA,oA,none⟩) l) (hb:l.length<=2048)
 (hp:∀ W,Pure w W->Calls Tryz.prog 110 #[.pointer (some ⟨cb,0,none⟩),.slice (some ⟨bA,oA,none⟩) l.length c,.int .i64 p] W (fun r w'=>r=.returned (.int .i64 0)/\Pure W w'))
 (hi:∀ W,Pure w W->Calls Tryz.prog 111 #[.slice (some ⟨bA,oA,none⟩) l.length c,.int .i64 p] W (fun r w'=>r=.returned (.int .i64 (x:Nat))/\Pure W w'))
 (ha1:∀ W,Pure w W->Calls Tryz.prog 74 #[.slice (some ⟨bA,oA,none⟩) l.length c,.int .i64 (x:Nat)] W (fun r w'=>r=.returned (.int .i64 (li:Nat))/\Pure W w'))
 (ha2:∀ W,Pure w W->Calls Tryz.prog 74 #[.slice (some ⟨bA,oA,none⟩) l.length c,.int .i64 (li:Nat)] W (fun r w'=>r=.returned (.int .i64 (q:Nat))/\Pure W w'))
 (hp1:∀ W,Pure w W->Calls Tryz.prog 77 #[.slice (some ⟨bA,oA,none⟩) l.length c,.int .i64 (x:Nat)] W (fun r w'=>r=.returned (.int .i64 pt)/\Pure W w'))
 (hp2:∀ W,Pure w W->Calls Tryz.prog 77 #[.slice (some ⟨bA,oA,none⟩) l.length c,.int .i64 (li:Nat)] W (fun r w'=>r=.returned (.int .i64 (pt+1))/\Pure W w'))
 (hp3:∀ W,Pure w W->Calls Tryz.prog 77 #[.slice (some ⟨bA,oA,none⟩) l.length c,.int .i64 (q:Nat)] W (fun r w'=>r=.returned (.int .i64 (pt+1+1))/\Pure W w'))
 (hpt:-1<=pt/\pt < (l.length:Int)) (hxl:x < l.length) (hll:li < l.length) (hy:l[q]?=some y) (h6:y.t=6) (hx:x=li+1)
 (ht:∀ W T,Pure w W->tokR.row W (fun _=>True) T [shutT]->Calls Tryz.prog 112 #[.pointer (some ⟨cb,0,none⟩),.slice (some ⟨bA,oA,none⟩) l.length c,(arnd (li:Nat) (pt+3) (x:Nat) (pt+1) 1 [shutT]).val T 1] W (Told s' (toldB T e) (toldC 1 e) e W)) (h2:e=0->s'.sl=[shutT]) (h3:e ≠ 0->s'.sl=[]) :
 Calls Tryz.prog 54 #[.pointer (some ⟨cb,0,none⟩),.slice (some ⟨bA,oA,none⟩) l.length c,.int .i64 p] w (fun r w'=>∃ B' c',Told s' B' c' e w r w'/\tokR.row w' (fun _=>True) B' s'.sl):=by
 have HP:=mK hp
 have HI:=mK hi
 have HA1:=mK ha1
 have HA2:=mK ha2
 have HP1:=mK hp1
 have HP2:=mK hp2
 have HP3:=mK hp3
 have HT:=mK ht
 have HS:=mK (And.intro h2 h3)
 have hm1:max (x:Int) 0=(x:Int):=by omega
 have hm2:max (li:Int) 0=(li:Int):=by omega
 have j0:¬ ((x:Int) < 0):=by omega
 have j1:¬ ((li:Int) < 0):=by omega
 have ql:q < l.length:=(List.getElem?_eq_some_iff.1 hy).1
 have j2:¬ ((q:Int) < 0):=by omega
 have f0:(y.t != 6)=false:=by simp[h6]
 have hw1:IntKind.i64.wrap (pt+1)=pt+1:=IntWalk.i64_in _ (by omega)
 have hw2:IntKind.i64.wrap (pt+1+1)=pt+1+1:=IntWalk.i64_in _ (by omega)
 have hw3:IntKind.i64.wrap (pt+1+2)=pt+3:=by rw[IntWalk.i64_in _ (by omega)];omega
 have hw4:IntKind.i64.wrap ((li:Int)+1)=(li:Int)+1:=IntWalk.i64_in _ (by omega)
 have hxe:((x:Int) == (li:Int)+1)=true:=by simp;omega
 obtain⟨bA',oA',hA,_,hbA,c0,c1,c2,c3⟩:=x0j hrow hy
 cases hA
 have HY:=mK (fun (v:World) (hu:Pure w v)=>((hu.cell hbA (fun h=>h)).trans c1:v.cell? ⟨bA,oA+q * 4+1,none⟩=some (.int .i64 y.t)))
 clear hp hi ha1 hp1 hp2 hp3 ht h2 h3 hrow hpt hxl hll hy h6 hx hbA c0 c1 c2 c3 ha2
 unfold Told StepD.val at *
 unfold arnd at HT
 go_enter Tryz.func54,Tryz.ntmps54
 go_wp2_with (go_at_call 110;refine(HP.o _ aU).mono ?_;rintro r w1 ⟨rfl,hu⟩;obtain⟨hb1,hu1⟩:=x0i hu;have HB1:=mK hb1;have HU1:=mK hu1;clear hu hb1 hu1;apply As.o)
 refine⟨?_⟩
 go_wp2_with (go_at_call 111;refine(HI.o _ HU1.o).mono ?_;rintro r w2 ⟨rfl,hu⟩;have HB2:=mK (kP hu HB1.o);have HU2:=mK (HU1.o.tt hu);clear hu;apply As.o)
 refine⟨?_⟩
 go_wp2_with (go_at_call 74;refine(HA1.o _ HU2.o).mono ?_;rintro r w3 ⟨rfl,hu⟩;have HB3:=mK (kP hu HB2.o);have HU3:=mK (HU2.o.tt hu);clear hu;apply As.o)
 refine⟨?_⟩
 go_wp2_with (go_at_call 74;refine(HA2.o _ HU3.o).mono ?_;rintro r w4 ⟨rfl,hu⟩;have HB4:=mK (kP hu HB3.o);have HU4:=mK (HU3.o.tt hu);clear hu;apply As.o)
 refine⟨?_⟩
 have z0:=HY.o w4 HU4.o
 go_wp2_with (go_at_call 77;refine(HP1.o _ HU4.o).mono ?_;rintro r w5 ⟨rfl,hu⟩;have HB5:=mK (kP hu HB4.o);have HU5:=mK (HU4.o.tt hu);clear hu;apply As.o)
 refine⟨?_⟩
 clear z0
 go_wp2_with (go_at_call 77;refine(HP2.o _ HU5.o).mono ?_;rintro r w6 ⟨rfl,hu⟩;have HB6:=mK (kP hu HB5.o);have HU6:=mK (HU5.o.tt hu);clear hu;apply As.o)
 refine⟨?_⟩
 go_wp2_with (go_at_call 77;refine(HP3.o _ HU6.o).mono ?_;rintro r w7 ⟨rfl,hu⟩;have HB7:=mK (kP hu HB6.o);have HU7:=mK (HU6.o.tt hu);clear hu;apply As.o)
 refine⟨?_⟩
 go_wp2_with (go_at_call 112;apply As.o)
 refine⟨?_⟩
 have hp8:∀ a b c d,Pure w7 ((((w7.alloc a).alloc b).alloc c).alloc d):=fun a b c d=>(((Upd.alloc1 (fun _=>False) w7 a).alloc b).alloc c).alloc d
 have hrw:∀ a b c,tokR.row ((((w7.alloc a).alloc b).alloc c).alloc (.cells #[.int .i64 2,.int .i64 0,.int .i64 0,.int .i64 0] 71)) (fun k=>w7.heap.size<=k) (some ⟨w7.heap.size+1+1+1,0,none⟩) [shutT]:=fun a b c=>by
  have h0:=heap_alloc_new (((w7.alloc a).alloc b).alloc c) (.cells #[.int .i64 2,.int .i64 0,.int .i64 0,.int .i64 0] 71)
  have h1:(((w7.alloc a).alloc b).alloc c).heap.size=w7.heap.size+1+1+1:=by simp
  rw[h1] at h0
  exact x1a (F:=fun k=>w7.heap.size<=k) (l:=[shutT]) h0 (by omega)
 refine(HT.o _ (some ⟨w7.heap.size+1+1+1,0,none⟩) (HU7.o.trans (hp8 _ _ _ _) (fun _ _ h=>h)) (Rp.x09 (hrw _ _ _) (fun _ _=>trivial))).mono ?_
 rintro r w9 ⟨rfl,hu⟩
 have hp9:=(hp8 _ _ _ _).tt hu
 have HB9:=mK (kP hp9 HB7.o)
 have HU9:=mK (HU7.o.tt hp9)
 have HL7:=mK (lt_of_block HB7.o)
 have HRR:=mK (show tokR.row w9 (fun k=>w.heap.size < k) (toldB (some ⟨w7.heap.size+1+1+1,0,none⟩) e) s'.sl from(x29 (e:=e) HS.o.1 HS.o.2 (Rp.x09 (Rp.x01 (hrw _ _ _) hu) (fun k hk=>by have:=HL7.o;omega)) (c:=1) (Nat.le_refl 1)).1)
 clear hu hp9 hp8 hrw
 have hbl:w.heap.size < w9.heap.size:=lt_of_block HB9.o
 have hcf:=fZ HB9.o
 obtain⟨k0,k1,k2,k3,k4,k5,k6,k7⟩:=x06 HB9.o
 go_wp2
 exact bodyPost_ret (step_end (rb:=w.heap.size) rfl _ rfl (set8 (rb:=w.heap.size) HB9.o _ _ _ _ _ _ _ _)) rfl ⟨_,_,⟨rfl,x05 HU9.o (Nat.le_refl _) _ _ _ _ _ _ _ _⟩,Rp.x09 (Rp.x0f HRR.o (x0b rU _ _ _ _ _ _ _ _) (fun k _ h e=>by omega)) (fun _ _=>trivial)⟩
theorem Outdent27_b {bA oA:Nat} {l:List Tok} {p pt e:Int} {x li q:Nat} {y:Tok} {s':StepD} (hrow:tokR.row w F (some ⟨bA,oA,none⟩) l) (hb:l.length<=2048)
 (hp:∀ W,Pure w W->Calls Tryz.prog 110 #[.pointer (some ⟨cb,0,none⟩),.slice (some ⟨bA,oA,none⟩) l.length c,.int .i64 p] W (fun r w'=>r=.returned (.int .i64 0)/\Pure W w'))
 (hi:∀ W,Pure w W->Calls Tryz.prog 111 #[.slice (some ⟨bA,oA,none⟩) l.length c,.int .i64 p] W (fun r w'=>r=.returned (.int .i64 (x:Nat))/\Pure W w'))
 (ha1:∀ W,Pure w W->Calls Tryz.prog 74 #[.slice (some ⟨bA,oA,none⟩) l.length c,.int .i64 (x:Nat)] W (fun r w'=>r=.returned (.int .i64 (li:Nat))/\Pure W w'))
 (ha2:∀ W,Pure w W->Calls Tryz.prog 74 #[.slice (some ⟨bA,oA,none⟩) l.length c,.int .i64 (li:Nat)] W (fun r w'=>r=.returned (.int .i64 (q:Nat))/\Pure W w'))
 (hp1:∀ W,Pure w W->Calls Tryz.prog 77 #[.slice (some ⟨bA,oA,none⟩) l.length c,.int .i64 (x:Nat)] W (fun r w'=>r=.returned (.int .i64 pt)/\Pure W w'))
 (hp2:∀ W,Pure w W->Calls Tryz.prog 77 #[.slice (some ⟨bA,oA,none⟩) l.length c,.int .i64 (li:Nat)] W (fun r w'=>r=.returned (.int .i64 (pt+1))/\Pure W w'))
 (hp3:∀ W,Pure w W->Calls Tryz.prog 77 #[.slice (some ⟨bA,oA,none⟩) l.length c,.int .i64 (q:Nat)] W (fun r w'=>r=.returned (.int .i64 (pt+1+1))/\Pure W w'))
 (hpt:-1<=pt/\pt < (l.length:Int)) (hxl:x < l.length) (hll:li < l.length) (hy:l[q]?=some y) (h6:y.t=6) (hx:x ≠ li+1)
 (ht:∀ W T,Pure w W->tokR.row W (fun _=>True) T [shutT,shutT]->Calls Tryz.prog 112 #[.pointer (some ⟨cb,0,none⟩),.slice (some ⟨bA,oA,none⟩) l.length c,(arnd (x:Nat) (pt+3) (x:Nat) (pt+1) 2 [shutT,shutT]).val T 2] W (Told s' (toldB T e) (toldC 2 e) e W)) (h2:e=0->s'.sl=[shutT,shutT]) (h3:e ≠ 0->s'.sl=[]) :
 Calls Tryz.prog 54 #[.pointer (some ⟨cb,0,none⟩),.slice (some ⟨bA,oA,none⟩) l.length c,.int .i64 p] w (fun r w'=>∃ B' c',Told s' B' c' e w r w'/\tokR.row w' (fun _=>True) B' s'.sl):=by
 have HP:=mK hp
 have HI:=mK hi
 have HA1:=mK ha1
 have HA2:=mK ha2
 have HP1:=mK hp1
 have HP2:=mK hp2
 have HP3:=mK hp3
 have HT:=mK ht
 have HS:=mK (And.intro h2 h3)
 have hm1:max (x:Int) 0=(x:Int):=by omega
 have hm2:max (li:Int) 0=(li:Int):=by omega
 have j0:¬ ((x:Int) < 0):=by omega
 have j1:¬ ((li:Int) < 0):=by omega
 have ql:q < l.length:=(List.getElem?_eq_some_iff.1 hy).1
 have j2:¬ ((q:Int) < 0):=by omega
 have f0:(y.t != 6)=false:=by simp[h6]
 have hw1:IntKind.i64.wrap (pt+1)=pt+1:=IntWalk.i64_in _ (by omega)
 have hw2:IntKind.i64.wrap (pt+1+1)=pt+1+1:=IntWalk.i64_in _ (by omega)
 have hw3:IntKind.i64.wrap (pt+1+2)=pt+3:=by rw[IntWalk.i64_in _ (by omega)];omega
 have hw4:IntKind.i64.wrap ((li:Int)+1)=(li:Int)+1:=IntWalk.i64_in _ (by omega)
 have hxe:((x:Int) == (li:Int)+1)=false:=by simp;omega
 obtain⟨bA',oA',hA,_,hbA,c0,c1,c2,c3⟩:=x0j hrow hy
 cases hA
 have HY:=mK (fun (v:World) (hu:Pure w v)=>((hu.cell hbA (fun h=>h)).trans c1:v.cell? ⟨bA,oA+q * 4+1,none⟩=some (.int .i64 y.t)))
 clear hp hi ha1 hp1 hp2 hp3 ht h2 h3 hrow hpt hxl hll hy h6 hx hbA c0 c1 c2 c3 ha2
 unfold Told StepD.val at *
 unfold arnd at HT
 go_enter Tryz.func54,Tryz.ntmps54
 go_wp2_with (go_at_call 110;refine(HP.o _ aU).mono ?_;rintro r w1 ⟨rfl,hu⟩;obtain⟨hb1,hu1⟩:=x0i hu;have HB1:=mK hb1;have HU1:=mK hu1;clear hu hb1 hu1;apply As.o)
 refine⟨?_⟩
 go_wp2_with (go_at_call 111;refine(HI.o _ HU1.o).mono ?_;rintro r w2 ⟨rfl,hu⟩;have HB2:=mK (kP hu HB1.o);have HU2:=mK (HU1.o.tt hu);clear hu;apply As.o)
 refine⟨?_⟩
 go_wp2_with (go_at_call 74;refine(HA1.o _ HU2.o).mono ?_;rintro r w3 ⟨rfl,hu⟩;have HB3:=mK (kP hu HB2.o);have HU3:=mK (HU2.o.tt hu);clear hu;apply As.o)
 refine⟨?_⟩
 go_wp2_with (go_at_call 74;refine(HA2.o _ HU3.o).mono ?_;rintro r w4 ⟨rfl,hu⟩;have HB4:=mK (kP hu HB3.o);have HU4:=mK (HU3.o.tt hu);clear hu;apply As.o)
 refine⟨?_⟩
 have z0:=HY.o w4 HU4.o
 go_wp2_with (go_at_call 77;refine(HP1.o _ HU4.o).mono ?_;rintro r w5 ⟨rfl,hu⟩;have HB5:=mK (kP hu HB4.o);have HU5:=mK (HU4.o.tt hu);clear hu;apply As.o)
 refine⟨?_⟩
 clear z0
 go_wp2_with (go_at_call 77;refine(HP2.o _ HU5.o).mono ?_;rintro r w6 ⟨rfl,hu⟩;have HB6:=mK (kP hu HB5.o);have HU6:=mK (HU5.o.tt hu);clear hu;apply As.o)
 refine⟨?_⟩
 go_wp2_with (go_at_call 77;refine(HP3.o _ HU6.o).mono ?_;rintro r w7 ⟨rfl,hu⟩;have HB7:=mK (kP hu HB6.o);have HU7:=mK (HU6.o.tt hu);clear hu;apply As.o)
 refine⟨?_⟩
 go_wp2_with (go_at_call 112;apply As.o)
 refine⟨?_⟩
 have hp8:∀ a b c,Pure w7 (((w7.alloc a).alloc b).alloc c):=fun a b c=>((Upd.alloc1 (fun _=>False) w7 a).alloc b).alloc c
 have hrw:∀ a c,tokR.row (((w7.alloc a).alloc (.cells #[.int .i64 2,.int .i64 0,.int .i64 0,.int .i64 0,.int .i64 2,.int .i64 0,.int .i64 0,.int .i64 0] 71)).alloc c) (fun k=>w7.heap.size<=k) (some ⟨w7.heap.size+1,0,none⟩) [shutT,shutT]:=fun a c=>by
  have h0:=heap_alloc_new (w7.alloc a) (.cells #[.int .i64 2,.int .i64 0,.int .i64 0,.int .i64 0,.int .i64 2,.int .i64 0,.int .i64 0,.int .i64 0] 71)
  have h1:(w7.alloc a).heap.size=w7.heap.size+1:=by simp
  rw[h1] at h0
  exact Rp.x01 (x1a (F:=fun k=>w7.heap.size<=k) (l:=[shutT,shutT]) h0 (by omega)) aU
 refine(HT.o _ (some ⟨w7.heap.size+1,0,none⟩) (HU7.o.trans (hp8 _ _ _) (fun _ _ h=>h)) (Rp.x09 (hrw _ _) (fun _ _=>trivial))).mono ?_
 rintro r w9 ⟨rfl,hu⟩
 have hp9:=(hp8 _ _ _).tt hu
 have HB9:=mK (kP hp9 HB7.o)
 have HU9:=mK (HU7.o.tt hp9)
 have HL7:=mK (lt_of_block HB7.o)
 have HRR:=mK (show tokR.row w9 (fun k=>w.heap.size < k) (toldB (some ⟨w7.heap.size+1,0,none⟩) e) s'.sl from(x29 (e:=e) HS.o.1 HS.o.2 (Rp.x09 (Rp.x01 (hrw _ _) hu) (fun k hk=>by have:=HL7.o;omega)) (c:=2) (Nat.le_refl 2)).1)
 clear hu hp9 hp8 hrw
 have hbl:w.heap.size < w9.heap.size:=lt_of_block HB9.o
 have hcf:=fZ HB9.o
 obtain⟨k0,k1,k2,k3,k4,k5,k6,k7⟩:=x06 HB9.o
 go_wp2
 exact bodyPost_ret (step_end (rb:=w.heap.size) rfl _ rfl (set8 (rb:=w.heap.size) HB9.o _ _ _ _ _ _ _ _)) rfl ⟨_,_,⟨rfl,x05 HU9.o (Nat.le_refl _) _ _ _ _ _ _ _ _⟩,Rp.x09 (Rp.x0f HRR.o (x0b rU _ _ _ _ _ _ _ _) (fun k _ h e=>by omega)) (fun _ _=>trivial)⟩
end Go.Proofs.YtofjodppljnlaaaGreatDoor
