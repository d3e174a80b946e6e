/- My own texts, packed: NestI. -/
import Derived.Test.YtofjodppljnlaaaGreatDoorP39
set_option maxRecDepth 100000
set_option maxHeartbeats 4000000
set_option linter.unusedVariables false
set_option linter.unusedSimpArgs false
variable {w w1 W:Go.World} {F G:Nat → Prop} {A B:Option Go.Addr} {cb c:Nat}
namespace Go.Proofs.YtofjodppljnlaaaGreatDoor
open Go.RowKit
theorem Indent_b {l:List Tok} {p en e:Int} {x1 li:Nat} {yl:Tok} (hrow:tokR.row w F A l) (hb:l.length<=2048)
 (hp:∀ W,Pure w W->Calls Tryz.prog 105 #[deskV cb A l.length c,.int .i64 p] W (fun r w'=>r=.returned (.int .i64 0)/\Pure W w'))
 (hi:∀ W,Pure w W->Calls Tryz.prog 106 #[deskV cb A l.length c,.int .i64 p] W (fun r w'=>r=.returned (.tuple #[.int .i64 ((x1+1:Nat):Int),.int .i64 en,.int .i64 (li:Nat),.bool true])/\Pure W w'))
 (hyl:l[li]?=some yl) (hk:yl.k=1) (hx1:l[x1]?=some shutT) (hc:x1=0\/∃ (x2:Nat) (y:Tok),x1=x2+1/\l[x2]?=some y/\(y.k ≠ 2\/(y=shutT/\∃ (pp:Nat) (z:Tok),l[pp]?=some z/\z.k=1/\(∀ W,Pure w W->Calls Tryz.prog 103 #[.slice A l.length c,.int .i64 (x2:Nat)] W (fun r w'=>r=.returned (.int .i64 (pp:Nat))/\Pure W w'))/\(z.t ≠ yl.t\/(z.t=yl.t/\z.n ≠ yl.n)))))
 (ht:∀ W T ct,Pure w W->tokR.row W (fun _=>True) T [yl,shutT,shutT]->Calls Tryz.prog 108 #[deskV cb A l.length c,(arnd ((x1:Nat):Int) en ((x1+1:Nat):Int) en 1 [yl,shutT,shutT]).bare,.slice T 3 ct] W (NTold (arnd ((x1:Nat):Int) en ((x1+1:Nat):Int) en 1 [yl,shutT,shutT]) e W)) :
 Calls Tryz.prog 51 #[.pointer (some ⟨cb,0,none⟩),.slice A l.length c,.int .i64 p] w (NTold (arnd ((x1:Nat):Int) en ((x1+1:Nat):Int) en 1 [yl,shutT,shutT]) e w):=by
 have HP:=mK hp
 have HI:=mK hi
 have HR:=mK hrow
 have HYK:=mK hk
 clear hk
 have xl:x1 < l.length:=(List.getElem?_eq_some_iff.1 hx1).1
 have ll:li < l.length:=(List.getElem?_eq_some_iff.1 hyl).1
 have hw1:IntKind.i64.wrap (((x1+1:Nat):Int) - 1)=((x1:Nat):Int):=by rw[IntWalk.i64_in _ (by omega)];omega
 have hw2:IntKind.i64.wrap (((x1:Nat):Int)+1 - 1)=((x1:Nat):Int):=by rw[IntWalk.i64_in _ (by omega)];omega
 have hw5:IntKind.i64.wrap (x1:Int)=(x1:Int):=IntWalk.i64_in _ (by omega)
 obtain⟨bA,oA,rfl,hF,hbA,c0,c1,c2,c3⟩:=x0j HR.o hx1
 obtain⟨b4,o4,hA4,_,_,f0,f1,f2,f3⟩:=x0j HR.o hyl
 simp only[Option.some.injEq,Addr.mk.injEq,and_true] at hA4
 obtain⟨rfl,rfl⟩:=hA4
 have HBA:=mK hbA
 have HKX:=mK (fun (v:World) (hu:Pure w v)=>(by
  have hh:∀ k,v.cell? ⟨bA,k,none⟩=w.cell? ⟨bA,k,none⟩:=fun k=>hu.cell hbA (fun h=>h)
  exact⟨(hh _).trans c0,(hh _).trans c1,(hh _).trans c2,(hh _).trans c3⟩:(fun v=>v.cell? ⟨bA,oA+x1 * 4,none⟩=some (.int .i64 2)/\v.cell? ⟨bA,oA+x1 * 4+1,none⟩=some (.int .i64 0)/\v.cell? ⟨bA,oA+x1 * 4+2,none⟩=some (.int .i64 0)/\v.cell? ⟨bA,oA+x1 * 4+3,none⟩=some (.int .i64 0)) v))
 have HKL:=mK (fun (v:World) (hu:Pure w v)=>(by
  have hh:∀ k,v.cell? ⟨bA,k,none⟩=w.cell? ⟨bA,k,none⟩:=fun k=>hu.cell hbA (fun h=>h)
  exact⟨(hh _).trans f0,(hh _).trans f1,(hh _).trans f2,(hh _).trans f3⟩:(fun v=>v.cell? ⟨bA,oA+li * 4,none⟩=some (.int .i64 yl.k)/\v.cell? ⟨bA,oA+li * 4+1,none⟩=some (.int .i64 yl.t)/\v.cell? ⟨bA,oA+li * 4+2,none⟩=some (.int .i64 yl.n)/\v.cell? ⟨bA,oA+li * 4+3,none⟩=some (.int .i64 yl.m)) v))
 clear hx1 hyl hF hbA c0 c1 c2 c3 f0 f1 f2 f3
 have HT:=mK (fun W T ct=>ht W T ct)
 clear hp hi hrow ht
 unfold NTold Told StepD.bare StepD.val at HT
 unfold arnd at HT
 simp only at HT
 rcases hc with hx0 | ⟨x2,y,hx12,hy,hc⟩
 ·have hw3:IntKind.i64.wrap (((x1+1:Nat):Int) - 2)=-1:=by rw[IntWalk.i64_in _ (by omega)];omega
  have hw4:IntKind.i64.wrap (((x1:Nat):Int)+1 - 2)=-1:=by rw[IntWalk.i64_in _ (by omega)];omega
  have hw6:IntKind.i64.wrap ((x1:Int) - 1)=-1:=by rw[IntWalk.i64_in _ (by omega)];omega
  clear hx0
  go_enter Tryz.func51,Tryz.ntmps51
  go_wp2_with (first | (go_at_call 106;with_reducible refine(HI.o w1 HU1.o).mono ?_;rintro r w2 ⟨rfl,hu⟩;have HB2:=mK (kP hu HB1.o);have HQ2:=mK (kP hu HQ1.o);have q2:=cells2 HQ2.o;have HU2:=mK (HU1.o.tt hu);clear hu) | (go_at_call 105;refine(HP.o _ (aP.alloc _)).mono ?_;rintro r w1 ⟨rfl,hu⟩;obtain⟨hb1,hb2,hu2⟩:=x0s hu;obtain⟨q0,q1⟩:=cells2 hb2;have HB1:=mK hb1;have HQ1:=mK hb2;have HU1:=mK hu2;clear hu hb1 hb2 hu2))
  obtain⟨wo,rfl⟩:∃ wo:World,wo=w2:=⟨_,rfl⟩
  have HBY:=HB2
  have HQY:=HQ2
  have HUY:=HU2
  have HP0:=mK (show Pure wo wo.drew from rU.drew)
  refine wp_region_held_drew (S:=(fun v=>v.cell? ⟨bA,oA+x1 * 4,none⟩=some (.int .i64 2)/\v.cell? ⟨bA,oA+x1 * 4+1,none⟩=some (.int .i64 0)/\v.cell? ⟨bA,oA+x1 * 4+2,none⟩=some (.int .i64 0)/\v.cell? ⟨bA,oA+x1 * 4+3,none⟩=some (.int .i64 0))) (by kernel_rfl) ?_ (fun hHeld=>?_)
  ·with_reducible (first | exact HKX.o _ HUY.o.drew | exact HKX.o _ HU3.o)
  refine zH 0 ?_
  refine zH 1 ?_
  refine zH 2 ?_
  refine zH 3 ?_
  refine zH 4 ?_
  (try simp only[Act.put,sA,sB,sC])
  refine zH 5 ?_
  refine zH 6 ?_
  refine zH 7 ?_
  refine wpAnyH_ready (rs:=[8]) (by kernel_rfl) (by simp) (AllReadyH.cons (by exact opAt rfl) (fun K hK=>?_) AllReadyH.nil)
  go_simp
  (go_at_call 107;refine(x13 _).mono ?_;rintro r w3 ⟨rfl,hu⟩;have HP3:=mK (HP0.o.tt hu);have HB3:=mK (kP HP3.o HBY.o);have HQ3:=mK (kP HP3.o HQY.o);have HU3:=mK (HUY.o.tt HP3.o);clear hu)
  refine hK.out _ _ (by with_reducible (first | exact HKX.o _ HUY.o.drew | exact HKX.o _ HU3.o)) (fun hHeld=>?_)
  clear hK K
  (try simp only[Act.put,sA,sB,sC])
  refine zH 9 ?_
  refine zH 10 ?_
  refine wpAnyH_done (by kernel_rfl) ?_ _
  go_wp2
  have HP30:=mK (show Pure w3 w3.drew from rU.drew)
  refine wp_region_held_drew (S:=(fun _=>True)) (by kernel_rfl) ?_ (fun hHeld=>?_)
  ·trivial
  refine zH 0 ?_
  refine zH 1 ?_
  (try simp only[Act.put,sA,sB,sC])
  refine zH 2 ?_
  refine sH 3 ?_
  refine sH 4 ?_
  refine sH 5 ?_
  (try simp only[Act.put,sA,sB,sC])
  refine sH 6 ?_
  refine sH 7 ?_
  refine sH 8 ?_
  refine zH 9 ?_
  (try simp only[Act.put,sA,sB,sC])
  refine zH 10 ?_
  refine sH 11 ?_
  refine sH 12 ?_
  refine sH 13 ?_
  (try simp only[Act.put,sA,sB,sC])
  refine sH 14 ?_
  refine sH 15 ?_
  refine sH 16 ?_
  refine sH 17 ?_
  (try simp only[Act.put,sA,sB,sC])
  refine sH 18 ?_
  refine sH 19 ?_
  refine sH 20 ?_
  refine sH 21 ?_
  (try simp only[Act.put,sA,sB,sC])
  refine zH 22 ?_
  refine wpAnyH_done (by kernel_rfl) ?_ _
  have HBZ:=mK (show w3.drew.heap[w.heap.size]?=_ from HB3.o)
  have HQZ:=mK (show w3.drew.heap[w.heap.size+1]?=_ from HQ3.o)
  have HUZ:=mK HU3.o.drew
  generalize w3.drew=wz at *
  have HK8:=mK (fun v (hu:Upd (fun k=>k=w.heap.size) wz v)=>cells2 ((hu.block (w.heap.size+1) (lt_of_block HQZ.o) (by omega)).trans HQZ.o))
  have HPz:=mK (show Pure wz wz.drew from rU.drew)
  go_wp2
  have HK9:=mK (fun v (hu:Upd (fun k=>k=w.heap.size) wz v)=>(by obtain⟨d0,d1⟩:=HK8.o v hu;obtain⟨g0,g1,g2,g3⟩:=HKL.o wz HUZ.o;have hb9:bA < wz.heap.size:=Nat.lt_of_lt_of_le HBA.o HUZ.o.size;have hne:bA ≠ w.heap.size:=(by have:=HBA.o;omega);have hh:∀ k,v.cell? ⟨bA,k,none⟩=wz.cell? ⟨bA,k,none⟩:=(fun k=>hu.cell hb9 hne);exact⟨d0,d1,(hh _).trans g0,(hh _).trans g1,(hh _).trans g2,(hh _).trans g3⟩:(fun v=>v.cell? ⟨w.heap.size+1,0,none⟩=some (.pointer (some ⟨cb,0,none⟩))/\v.cell? ⟨w.heap.size+1,1,none⟩=some (.slice (some ⟨bA,oA,none⟩) l.length c)/\v.cell? ⟨bA,oA+li * 4,none⟩=some (.int .i64 yl.k)/\v.cell? ⟨bA,oA+li * 4+1,none⟩=some (.int .i64 yl.t)/\v.cell? ⟨bA,oA+li * 4+2,none⟩=some (.int .i64 yl.n)/\v.cell? ⟨bA,oA+li * 4+3,none⟩=some (.int .i64 yl.m)) v))
  refine x0m (P:=Tryz.prog) (fun v=>v.cell? ⟨w.heap.size+1,0,none⟩=some (.pointer (some ⟨cb,0,none⟩))/\v.cell? ⟨w.heap.size+1,1,none⟩=some (.slice (some ⟨bA,oA,none⟩) l.length c)/\v.cell? ⟨bA,oA+li * 4,none⟩=some (.int .i64 yl.k)/\v.cell? ⟨bA,oA+li * 4+1,none⟩=some (.int .i64 yl.t)/\v.cell? ⟨bA,oA+li * 4+2,none⟩=some (.int .i64 yl.n)/\v.cell? ⟨bA,oA+li * 4+3,none⟩=some (.int .i64 yl.m)) 18 (by kernel_rfl) ?_ (fun hHeld=>?_)
  ·with_reducible (first | exact HK9.o _ (up1 HPz.o) | exact HK9.o _ (up1 HPa.o) | exact HK9.o _ (up1 HPb.o) | exact HK9.o _ (up1 HPc.o) | exact HK9.o _ (up1 (HPc.o.alloc _)) | exact HK9.o _ (up1 HP9.o) | exact HK9.o _ (x0b (up1 HP9.o) _ _ _ _ _ _ _ _))
  refine zT 0 ?_
  refine zT 1 ?_
  refine zT 2 ?_
  (try simp only[Act.put,sA,sB,sC])
  refine zT 3 ?_
  refine zT 4 ?_
  refine zT 5 ?_
  refine zT 7 ?_
  (try simp only[Act.put,sA,sB,sC])
  refine zT 8 ?_
  refine zT 9 ?_
  refine zT 10 ?_
  refine oT 6 (fun K hK=>?_)
  go_simp
  (go_at_call 109;refine(x4d _ _ _ _ _ _).mono ?_;rintro r wa ⟨rfl,hu⟩;have HPa:=mK (HPz.o.tt hu);clear hu)
  refine hK.out _ _ (fun _=>by with_reducible (first | exact HK9.o _ (up1 HPz.o) | exact HK9.o _ (up1 HPa.o) | exact HK9.o _ (up1 HPb.o) | exact HK9.o _ (up1 HPc.o) | exact HK9.o _ (up1 (HPc.o.alloc _)) | exact HK9.o _ (up1 HP9.o) | exact HK9.o _ (x0b (up1 HP9.o) _ _ _ _ _ _ _ _))) (fun hHeld=>?_)
  replace hHeld:=hHeld (by decide)
  clear hK K
  (try simp only[Act.put,sA,sB,sC])
  refine oT 11 (fun K hK=>?_)
  go_simp
  (go_at_call 107;refine(x13 _).mono ?_;rintro r wb ⟨rfl,hu⟩;have HPb:=mK (HPa.o.tt hu);clear hu)
  refine hK.out _ _ (fun _=>by with_reducible (first | exact HK9.o _ (up1 HPz.o) | exact HK9.o _ (up1 HPa.o) | exact HK9.o _ (up1 HPb.o) | exact HK9.o _ (up1 HPc.o) | exact HK9.o _ (up1 (HPc.o.alloc _)) | exact HK9.o _ (up1 HP9.o) | exact HK9.o _ (x0b (up1 HP9.o) _ _ _ _ _ _ _ _))) (fun hHeld=>?_)
  replace hHeld:=hHeld (by decide)
  clear hK K
  (try simp only[Act.put,sA,sB,sC])
  refine oT 12 (fun K hK=>?_)
  go_simp
  (go_at_call 107;refine(x13 _).mono ?_;rintro r wc ⟨rfl,hu⟩;have HPc:=mK (HPb.o.tt hu);clear hu)
  refine hK.out _ _ (fun _=>by with_reducible (first | exact HK9.o _ (up1 HPz.o) | exact HK9.o _ (up1 HPa.o) | exact HK9.o _ (up1 HPb.o) | exact HK9.o _ (up1 HPc.o) | exact HK9.o _ (up1 (HPc.o.alloc _)) | exact HK9.o _ (up1 HP9.o) | exact HK9.o _ (x0b (up1 HP9.o) _ _ _ _ _ _ _ _))) (fun hHeld=>?_)
  replace hHeld:=hHeld (by decide)
  clear hK K
  (try simp only[Act.put,sA,sB,sC])
  refine oT 13 (fun K hK=>?_)
  go_simp
  refine hK.out _ _ (fun _=>by with_reducible (first | exact HK9.o _ (up1 HPz.o) | exact HK9.o _ (up1 HPa.o) | exact HK9.o _ (up1 HPb.o) | exact HK9.o _ (up1 HPc.o) | exact HK9.o _ (up1 (HPc.o.alloc _)) | exact HK9.o _ (up1 HP9.o) | exact HK9.o _ (x0b (up1 HP9.o) _ _ _ _ _ _ _ _))) (fun hHeld=>?_)
  replace hHeld:=hHeld (by decide)
  clear hK K
  (try simp only[Act.put,sA,sB,sC])
  refine oT 14 (fun K hK=>?_)
  go_simp
  (go_at_call 108;refine(HT.o (wc.alloc _) (some ⟨wc.heap.size,0,none⟩) 3 ((HUZ.o.tt HPc.o).alloc _) (x1a (l:=[yl,shutT,shutT]) (heap_alloc_new wc _) trivial)).mono ?_;rintro r w9 ⟨B9,c9,⟨rfl,hp9⟩,hr9,hn9⟩;have HV9:=mK (fun o=>(HUZ.o.tt HPc.o).alloc o);have HL9:=mK (show w.heap.size < wc.heap.size+1 from by have h7:=HPc.o.size;have h8:=lt_of_block HBZ.o;omega);have HT9:=mK hp9;have HR9:=mK hr9;have HN9:=mK hn9;have HP9:=mK ((HPc.o.alloc _).tt hp9);have HB9:=mK (kP HP9.o HBZ.o);have hbl9:w.heap.size < w9.heap.size:=lt_of_block HB9.o;have hcf9:∀ i,w9.frozen? ⟨w.heap.size,i,none⟩=false:=(fun i=>by simp[World.frozen?,HB9.o]);obtain⟨k0,k1,k2,k3,k4,k5,k6,k7⟩:=x06 HB9.o;clear hp9 hr9 hn9)
  refine hK.out _ _ (fun _=>by with_reducible (first | exact HK9.o _ (up1 HPz.o) | exact HK9.o _ (up1 HPa.o) | exact HK9.o _ (up1 HPb.o) | exact HK9.o _ (up1 HPc.o) | exact HK9.o _ (up1 (HPc.o.alloc _)) | exact HK9.o _ (up1 HP9.o) | exact HK9.o _ (x0b (up1 HP9.o) _ _ _ _ _ _ _ _))) (fun hHeld=>?_)
  replace hHeld:=hHeld (by decide)
  clear hK K
  (try simp only[Act.put,sA,sB,sC])
  refine zT 15 ?_
  refine zT 16 ?_
  refine oT 17 (fun K hK=>?_)
  go_simp
  refine hK.out _ _ (fun _=>by with_reducible (first | exact HK9.o _ (up1 HPz.o) | exact HK9.o _ (up1 HPa.o) | exact HK9.o _ (up1 HPb.o) | exact HK9.o _ (up1 HPc.o) | exact HK9.o _ (up1 (HPc.o.alloc _)) | exact HK9.o _ (up1 HP9.o) | exact HK9.o _ (x0b (up1 HP9.o) _ _ _ _ _ _ _ _))) (fun hHeld=>?_)
  replace hHeld:=hHeld (by decide)
  clear hK K
  (try simp only[Act.put,sA,sB,sC])
  refine oT 18 (fun K hK=>?_)
  go_simp
  refine hK.out _ _ (fun h=>absurd rfl h) (fun hHeld=>?_)
  clear hK K
  (try simp only[Act.put,sA,sB,sC])
  refine x0l (by kernel_rfl) ?_ _
  go_wp2
  exact bodyPost_ret (step_end (rb:=w.heap.size) rfl _ rfl (set8 (rb:=w.heap.size) HB9.o _ _ _ _ _ _ _ _)) rfl ⟨B9,c9,⟨rfl,x05 ((HV9.o _).tt HT9.o) (Nat.le_refl _) _ _ _ _ _ _ _ _⟩,⟨Rp.x09 (Rp.x0f HR9.o.1 (x0b rU _ _ _ _ _ _ _ _) (fun k _ h e=>by have h7:=HL9.o;simp at h;omega)) (fun k h=>by have h7:=HL9.o;simp at h;omega),HR9.o.2⟩,HN9.o⟩
 ·have xl2:x2 < l.length:=by omega
  obtain⟨b2,o2,hA2,_,_,d0,d1,d2,d3⟩:=x0j HR.o hy
  simp only[Option.some.injEq,Addr.mk.injEq,and_true] at hA2
  obtain⟨rfl,rfl⟩:=hA2
  have hw3:IntKind.i64.wrap (((x1+1:Nat):Int) - 2)=(x2:Int):=by rw[IntWalk.i64_in _ (by omega)];omega
  have hw4:IntKind.i64.wrap (((x1:Nat):Int)+1 - 2)=(x2:Int):=by rw[IntWalk.i64_in _ (by omega)];omega
  have hw6:IntKind.i64.wrap ((x1:Int) - 1)=(x2:Int):=by rw[IntWalk.i64_in _ (by omega)];omega
  have hw7:IntKind.i64.wrap (x2:Int)=(x2:Int):=IntWalk.i64_in _ (by omega)
  clear hx12
  rcases hc with hk2 | ⟨rfl,pp,z,hz,hzk,h1,hne⟩
  ·have HKY:=mK (fun (v:World) (hu:Pure w v)=>(by have hh:∀ k,v.cell? ⟨bA,k,none⟩=w.cell? ⟨bA,k,none⟩:=(fun k=>hu.cell HBA.o (fun h=>h));exact⟨(hh _).trans d0,(hh _).trans d1,(hh _).trans d2,(hh _).trans d3⟩:(fun v=>v.cell? ⟨bA,oA+x2 * 4,none⟩=some (.int .i64 y.k)/\v.cell? ⟨bA,oA+x2 * 4+1,none⟩=some (.int .i64 y.t)/\v.cell? ⟨bA,oA+x2 * 4+2,none⟩=some (.int .i64 y.n)/\v.cell? ⟨bA,oA+x2 * 4+3,none⟩=some (.int .i64 y.m)) v))
   have ek:(y.k == 2)=false:=by simpa using hk2
   clear hy hk2 d0 d1 d2 d3
   go_enter Tryz.func51,Tryz.ntmps51
   go_wp2_with (first | (go_at_call 106;with_reducible refine(HI.o w1 HU1.o).mono ?_;rintro r w2 ⟨rfl,hu⟩;have HB2:=mK (kP hu HB1.o);have HQ2:=mK (kP hu HQ1.o);have q2:=cells2 HQ2.o;have HU2:=mK (HU1.o.tt hu);clear hu) | (go_at_call 105;refine(HP.o _ (aP.alloc _)).mono ?_;rintro r w1 ⟨rfl,hu⟩;obtain⟨hb1,hb2,hu2⟩:=x0s hu;obtain⟨q0,q1⟩:=cells2 hb2;have HB1:=mK hb1;have HQ1:=mK hb2;have HU1:=mK hu2;clear hu hb1 hb2 hu2))
   obtain⟨wo,rfl⟩:∃ wo:World,wo=w2:=⟨_,rfl⟩
   have HBY:=HB2
   have HQY:=HQ2
   have HUY:=HU2
   have HP0:=mK (show Pure wo wo.drew from rU.drew)
   refine wp_region_held_drew (S:=(fun v=>v.cell? ⟨bA,oA+x1 * 4,none⟩=some (.int .i64 2)/\v.cell? ⟨bA,oA+x1 * 4+1,none⟩=some (.int .i64 0)/\v.cell? ⟨bA,oA+x1 * 4+2,none⟩=some (.int .i64 0)/\v.cell? ⟨bA,oA+x1 * 4+3,none⟩=some (.int .i64 0))) (by kernel_rfl) ?_ (fun hHeld=>?_)
   ·with_reducible (first | exact HKX.o _ HUY.o.drew | exact HKX.o _ HU3.o)
   refine zH 0 ?_
   refine zH 1 ?_
   refine zH 2 ?_
   refine zH 3 ?_
   (try simp only[Act.put,sA,sB,sC])
   refine zH 4 ?_
   refine zH 5 ?_
   refine zH 6 ?_
   refine zH 7 ?_
   (try simp only[Act.put,sA,sB,sC])
   refine wpAnyH_ready (rs:=[8]) (by kernel_rfl) (by simp) (AllReadyH.cons (by exact opAt rfl) (fun K hK=>?_) AllReadyH.nil)
   go_simp
   (go_at_call 107;refine(x13 _).mono ?_;rintro r w3 ⟨rfl,hu⟩;have HP3:=mK (HP0.o.tt hu);have HB3:=mK (kP HP3.o HBY.o);have HQ3:=mK (kP HP3.o HQY.o);have HU3:=mK (HUY.o.tt HP3.o);clear hu)
   refine hK.out _ _ (by with_reducible (first | exact HKX.o _ HUY.o.drew | exact HKX.o _ HU3.o)) (fun hHeld=>?_)
   clear hK K
   (try simp only[Act.put,sA,sB,sC])
   refine zH 9 ?_
   refine zH 10 ?_
   refine wpAnyH_done (by kernel_rfl) ?_ _
   go_wp2
   have HP30:=mK (show Pure w3 w3.drew from rU.drew)
   refine wp_region_held_drew (S:=(fun v=>v.cell? ⟨bA,oA+x2 * 4,none⟩=some (.int .i64 y.k)/\v.cell? ⟨bA,oA+x2 * 4+1,none⟩=some (.int .i64 y.t)/\v.cell? ⟨bA,oA+x2 * 4+2,none⟩=some (.int .i64 y.n)/\v.cell? ⟨bA,oA+x2 * 4+3,none⟩=some (.int .i64 y.m))) (by kernel_rfl) ?_ (fun hHeld=>?_)
   ·with_reducible (first | exact HKY.o _ HU3.o.drew | exact HKY.o _ HU4.o)
   refine zH 0 ?_
   refine zH 1 ?_
   refine zH 2 ?_
   refine zH 3 ?_
   refine zH 4 ?_
   (try simp only[Act.put,sA,sB,sC])
   refine zH 5 ?_
   refine zH 6 ?_
   refine wpAnyH_ready (rs:=[7]) (by kernel_rfl) (by simp) (AllReadyH.cons (by exact opAt rfl) (fun K hK=>?_) AllReadyH.nil)
   go_simp
   (go_at_call 107;refine(x13 _).mono ?_;rintro r w4 ⟨rfl,hu⟩;have HP4:=mK (HP30.o.tt hu);have HB4:=mK (kP HP4.o HB3.o);have HQ4:=mK (kP HP4.o HQ3.o);have HU4:=mK (HU3.o.tt HP4.o);clear hu)
   refine hK.out _ _ (by with_reducible (first | exact HKY.o _ HU3.o.drew | exact HKY.o _ HU4.o)) (fun hHeld=>?_)
   clear hK K
   (try simp only[Act.put,sA,sB,sC])
   refine zH 8 ?_
   refine zH 9 ?_
   refine zH 10 ?_
   refine sH 11 ?_
   refine sH 12 ?_
   (try simp only[Act.put,sA,sB,sC])
   refine sH 13 ?_
   refine sH 14 ?_
   refine sH 15 ?_
   refine sH 16 ?_
   (try simp only[Act.put,sA,sB,sC])
   refine sH 17 ?_
   refine sH 18 ?_
   refine sH 19 ?_
   refine sH 20 ?_
   (try simp only[Act.put,sA,sB,sC])
   refine sH 21 ?_
   refine zH 22 ?_
   refine wpAnyH_done (by kernel_rfl) ?_ _
   obtain⟨wz,rfl⟩:∃ wz:World,wz=w4:=⟨_,rfl⟩
   have HBZ:=HB4
   have HQZ:=HQ4
   have HUZ:=HU4
   have HK8:=mK (fun v (hu:Upd (fun k=>k=w.heap.size) wz v)=>cells2 ((hu.block (w.heap.size+1) (lt_of_block HQZ.o) (by omega)).trans HQZ.o))
   have HPz:=mK (show Pure wz wz.drew from rU.drew)
   go_wp2
   have HK9:=mK (fun v (hu:Upd (fun k=>k=w.heap.size) wz v)=>(by obtain⟨d0,d1⟩:=HK8.o v hu;obtain⟨g0,g1,g2,g3⟩:=HKL.o wz HUZ.o;have hb9:bA < wz.heap.size:=Nat.lt_of_lt_of_le HBA.o HUZ.o.size;have hne:bA ≠ w.heap.size:=(by have:=HBA.o;omega);have hh:∀ k,v.cell? ⟨bA,k,none⟩=wz.cell? ⟨bA,k,none⟩:=(fun k=>hu.cell hb9 hne);exact⟨d0,d1,(hh _).trans g0,(hh _).trans g1,(hh _).trans g2,(hh _).trans g3⟩:(fun v=>v.cell? ⟨w.heap.size+1,0,none⟩=some (.pointer (some ⟨cb,0,none⟩))/\v.cell? ⟨w.heap.size+1,1,none⟩=some (.slice (some ⟨bA,oA,none⟩) l.length c)/\v.cell? ⟨bA,oA+li * 4,none⟩=some (.int .i64 yl.k)/\v.cell? ⟨bA,oA+li * 4+1,none⟩=some (.int .i64 yl.t)/\v.cell? ⟨bA,oA+li * 4+2,none⟩=some (.int .i64 yl.n)/\v.cell? ⟨bA,oA+li * 4+3,none⟩=some (.int .i64 yl.m)) v))
   refine x0m (P:=Tryz.prog) (fun v=>v.cell? ⟨w.heap.size+1,0,none⟩=some (.pointer (some ⟨cb,0,none⟩))/\v.cell? ⟨w.heap.size+1,1,none⟩=some (.slice (some ⟨bA,oA,none⟩) l.length c)/\v.cell? ⟨bA,oA+li * 4,none⟩=some (.int .i64 yl.k)/\v.cell? ⟨bA,oA+li * 4+1,none⟩=some (.int .i64 yl.t)/\v.cell? ⟨bA,oA+li * 4+2,none⟩=some (.int .i64 yl.n)/\v.cell? ⟨bA,oA+li * 4+3,none⟩=some (.int .i64 yl.m)) 18 (by kernel_rfl) ?_ (fun hHeld=>?_)
   ·with_reducible (first | exact HK9.o _ (up1 HPz.o) | exact HK9.o _ (up1 HPa.o) | exact HK9.o _ (up1 HPb.o) | exact HK9.o _ (up1 HPc.o) | exact HK9.o _ (up1 (HPc.o.alloc _)) | exact HK9.o _ (up1 HP9.o) | exact HK9.o _ (x0b (up1 HP9.o) _ _ _ _ _ _ _ _))
   refine zT 0 ?_
   refine zT 1 ?_
   (try simp only[Act.put,sA,sB,sC])
   refine zT 2 ?_
   refine zT 3 ?_
   refine zT 4 ?_
   refine zT 5 ?_
   (try simp only[Act.put,sA,sB,sC])
   refine zT 7 ?_
   refine zT 8 ?_
   refine zT 9 ?_
   refine zT 10 ?_
   (try simp only[Act.put,sA,sB,sC])
   refine oT 6 (fun K hK=>?_)
   go_simp
   (go_at_call 109;refine(x4d _ _ _ _ _ _).mono ?_;rintro r wa ⟨rfl,hu⟩;have HPa:=mK (HPz.o.tt hu);clear hu)
   refine hK.out _ _ (fun _=>by with_reducible (first | exact HK9.o _ (up1 HPz.o) | exact HK9.o _ (up1 HPa.o) | exact HK9.o _ (up1 HPb.o) | exact HK9.o _ (up1 HPc.o) | exact HK9.o _ (up1 (HPc.o.alloc _)) | exact HK9.o _ (up1 HP9.o) | exact HK9.o _ (x0b (up1 HP9.o) _ _ _ _ _ _ _ _))) (fun hHeld=>?_)
   replace hHeld:=hHeld (by decide)
   clear hK K
   (try simp only[Act.put,sA,sB,sC])
   refine oT 11 (fun K hK=>?_)
   go_simp
   (go_at_call 107;refine(x13 _).mono ?_;rintro r wb ⟨rfl,hu⟩;have HPb:=mK (HPa.o.tt hu);clear hu)
   refine hK.out _ _ (fun _=>by with_reducible (first | exact HK9.o _ (up1 HPz.o) | exact HK9.o _ (up1 HPa.o) | exact HK9.o _ (up1 HPb.o) | exact HK9.o _ (up1 HPc.o) | exact HK9.o _ (up1 (HPc.o.alloc _)) | exact HK9.o _ (up1 HP9.o) | exact HK9.o _ (x0b (up1 HP9.o) _ _ _ _ _ _ _ _))) (fun hHeld=>?_)
   replace hHeld:=hHeld (by decide)
   clear hK K
   (try simp only[Act.put,sA,sB,sC])
   refine oT 12 (fun K hK=>?_)
   go_simp
   (go_at_call 107;refine(x13 _).mono ?_;rintro r wc ⟨rfl,hu⟩;have HPc:=mK (HPb.o.tt hu);clear hu)
   refine hK.out _ _ (fun _=>by with_reducible (first | exact HK9.o _ (up1 HPz.o) | exact HK9.o _ (up1 HPa.o) | exact HK9.o _ (up1 HPb.o) | exact HK9.o _ (up1 HPc.o) | exact HK9.o _ (up1 (HPc.o.alloc _)) | exact HK9.o _ (up1 HP9.o) | exact HK9.o _ (x0b (up1 HP9.o) _ _ _ _ _ _ _ _))) (fun hHeld=>?_)
   replace hHeld:=hHeld (by decide)
   clear hK K
   (try simp only[Act.put,sA,sB,sC])
   refine oT 13 (fun K hK=>?_)
   go_simp
   refine hK.out _ _ (fun _=>by with_reducible (first | exact HK9.o _ (up1 HPz.o) | exact HK9.o _ (up1 HPa.o) | exact HK9.o _ (up1 HPb.o) | exact HK9.o _ (up1 HPc.o) | exact HK9.o _ (up1 (HPc.o.alloc _)) | exact HK9.o _ (up1 HP9.o) | exact HK9.o _ (x0b (up1 HP9.o) _ _ _ _ _ _ _ _))) (fun hHeld=>?_)
   replace hHeld:=hHeld (by decide)
   clear hK K
   (try simp only[Act.put,sA,sB,sC])
   refine oT 14 (fun K hK=>?_)
   go_simp
   (go_at_call 108;refine(HT.o (wc.alloc _) (some ⟨wc.heap.size,0,none⟩) 3 ((HUZ.o.tt HPc.o).alloc _) (x1a (l:=[yl,shutT,shutT]) (heap_alloc_new wc _) trivial)).mono ?_;rintro r w9 ⟨B9,c9,⟨rfl,hp9⟩,hr9,hn9⟩;have HV9:=mK (fun o=>(HUZ.o.tt HPc.o).alloc o);have HL9:=mK (show w.heap.size < wc.heap.size+1 from by have h7:=HPc.o.size;have h8:=lt_of_block HBZ.o;omega);have HT9:=mK hp9;have HR9:=mK hr9;have HN9:=mK hn9;have HP9:=mK ((HPc.o.alloc _).tt hp9);have HB9:=mK (kP HP9.o HBZ.o);have hbl9:w.heap.size < w9.heap.size:=lt_of_block HB9.o;have hcf9:∀ i,w9.frozen? ⟨w.heap.size,i,none⟩=false:=(fun i=>by simp[World.frozen?,HB9.o]);obtain⟨k0,k1,k2,k3,k4,k5,k6,k7⟩:=x06 HB9.o;clear hp9 hr9 hn9)
   refine hK.out _ _ (fun _=>by with_reducible (first | exact HK9.o _ (up1 HPz.o) | exact HK9.o _ (up1 HPa.o) | exact HK9.o _ (up1 HPb.o) | exact HK9.o _ (up1 HPc.o) | exact HK9.o _ (up1 (HPc.o.alloc _)) | exact HK9.o _ (up1 HP9.o) | exact HK9.o _ (x0b (up1 HP9.o) _ _ _ _ _ _ _ _))) (fun hHeld=>?_)
   replace hHeld:=hHeld (by decide)
   clear hK K
   (try simp only[Act.put,sA,sB,sC])
   refine zT 15 ?_
   refine zT 16 ?_
   refine oT 17 (fun K hK=>?_)
   go_simp
   refine hK.out _ _ (fun _=>by with_reducible (first | exact HK9.o _ (up1 HPz.o) | exact HK9.o _ (up1 HPa.o) | exact HK9.o _ (up1 HPb.o) | exact HK9.o _ (up1 HPc.o) | exact HK9.o _ (up1 (HPc.o.alloc _)) | exact HK9.o _ (up1 HP9.o) | exact HK9.o _ (x0b (up1 HP9.o) _ _ _ _ _ _ _ _))) (fun hHeld=>?_)
   replace hHeld:=hHeld (by decide)
   clear hK K
   (try simp only[Act.put,sA,sB,sC])
   refine oT 18 (fun K hK=>?_)
   go_simp
   refine hK.out _ _ (fun h=>absurd rfl h) (fun hHeld=>?_)
   clear hK K
   (try simp only[Act.put,sA,sB,sC])
   refine x0l (by kernel_rfl) ?_ _
   go_wp2
   exact bodyPost_ret (step_end (rb:=w.heap.size) rfl _ rfl (set8 (rb:=w.heap.size) HB9.o _ _ _ _ _ _ _ _)) rfl ⟨B9,c9,⟨rfl,x05 ((HV9.o _).tt HT9.o) (Nat.le_refl _) _ _ _ _ _ _ _ _⟩,⟨Rp.x09 (Rp.x0f HR9.o.1 (x0b rU _ _ _ _ _ _ _ _) (fun k _ h e=>by have h7:=HL9.o;simp at h;omega)) (fun k h=>by have h7:=HL9.o;simp at h;omega),HR9.o.2⟩,HN9.o⟩
  ·have pl:pp < l.length:=(List.getElem?_eq_some_iff.1 hz).1
   obtain⟨b3,o3,hA3,_,_,e0,e1,e2,e3⟩:=x0j HR.o hz
   simp only[Option.some.injEq,Addr.mk.injEq,and_true] at hA3
   obtain⟨rfl,rfl⟩:=hA3
   have H1:=mK h1
   have ek:(z.k == yl.k)=true:=by simp[hzk,HYK.o]
   have HKY0:=HKL
   obtain⟨f0,f1,f2,f3⟩:=HKL.o w rU
   have HKY:=mK (fun (v:World) (hu:Pure w v)=>(by have hh:∀ k,v.cell? ⟨bA,k,none⟩=w.cell? ⟨bA,k,none⟩:=(fun k=>hu.cell HBA.o (fun h=>h));exact⟨(hh _).trans d0,(hh _).trans d1,(hh _).trans d2,(hh _).trans d3,(hh _).trans e0,(hh _).trans e1,(hh _).trans e2,(hh _).trans e3,(hh _).trans f0,(hh _).trans f1,(hh _).trans f2,(hh _).trans f3⟩:(fun v=>v.cell? ⟨bA,oA+x2 * 4,none⟩=some (.int .i64 2)/\v.cell? ⟨bA,oA+x2 * 4+1,none⟩=some (.int .i64 0)/\v.cell? ⟨bA,oA+x2 * 4+2,none⟩=some (.int .i64 0)/\v.cell? ⟨bA,oA+x2 * 4+3,none⟩=some (.int .i64 0)/\v.cell? ⟨bA,oA+pp * 4,none⟩=some (.int .i64 z.k)/\v.cell? ⟨bA,oA+pp * 4+1,none⟩=some (.int .i64 z.t)/\v.cell? ⟨bA,oA+pp * 4+2,none⟩=some (.int .i64 z.n)/\v.cell? ⟨bA,oA+pp * 4+3,none⟩=some (.int .i64 z.m)/\v.cell? ⟨bA,oA+li * 4,none⟩=some (.int .i64 yl.k)/\v.cell? ⟨bA,oA+li * 4+1,none⟩=some (.int .i64 yl.t)/\v.cell? ⟨bA,oA+li * 4+2,none⟩=some (.int .i64 yl.n)/\v.cell? ⟨bA,oA+li * 4+3,none⟩=some (.int .i64 yl.m)) v))
   clear hy hz hzk h1 HKY0 d0 d1 d2 d3 e0 e1 e2 e3 f0 f1 f2 f3
   rcases hne with hne | ⟨het,hne⟩
   ·have et:(z.t == yl.t)=false:=by simpa using hne
    clear hne
    go_enter Tryz.func51,Tryz.ntmps51
    go_wp2_with (first | (go_at_call 106;with_reducible refine(HI.o w1 HU1.o).mono ?_;rintro r w2 ⟨rfl,hu⟩;have HB2:=mK (kP hu HB1.o);have HQ2:=mK (kP hu HQ1.o);have q2:=cells2 HQ2.o;have HU2:=mK (HU1.o.tt hu);clear hu) | (go_at_call 105;refine(HP.o _ (aP.alloc _)).mono ?_;rintro r w1 ⟨rfl,hu⟩;obtain⟨hb1,hb2,hu2⟩:=x0s hu;obtain⟨q0,q1⟩:=cells2 hb2;have HB1:=mK hb1;have HQ1:=mK hb2;have HU1:=mK hu2;clear hu hb1 hb2 hu2))
    obtain⟨wo,rfl⟩:∃ wo:World,wo=w2:=⟨_,rfl⟩
    have HBY:=HB2
    have HQY:=HQ2
    have HUY:=HU2
    have HP0:=mK (show Pure wo wo.drew from rU.drew)
    refine wp_region_held_drew (S:=(fun v=>v.cell? ⟨bA,oA+x1 * 4,none⟩=some (.int .i64 2)/\v.cell? ⟨bA,oA+x1 * 4+1,none⟩=some (.int .i64 0)/\v.cell? ⟨bA,oA+x1 * 4+2,none⟩=some (.int .i64 0)/\v.cell? ⟨bA,oA+x1 * 4+3,none⟩=some (.int .i64 0))) (by kernel_rfl) ?_ (fun hHeld=>?_)
    ·with_reducible (first | exact HKX.o _ HUY.o.drew | exact HKX.o _ HU3.o)
    refine zH 0 ?_
    refine zH 1 ?_
    refine zH 2 ?_
    refine zH 3 ?_
    refine zH 4 ?_
    refine zH 5 ?_
    refine zH 6 ?_
    (try simp only[Act.put,sA,sB,sC])
    refine zH 7 ?_
    refine wpAnyH_ready (rs:=[8]) (by kernel_rfl) (by simp) (AllReadyH.cons (by exact opAt rfl) (fun K hK=>?_) AllReadyH.nil)
    go_simp
    (go_at_call 107;refine(x13 _).mono ?_;rintro r w3 ⟨rfl,hu⟩;have HP3:=mK (HP0.o.tt hu);have HB3:=mK (kP HP3.o HBY.o);have HQ3:=mK (kP HP3.o HQY.o);have HU3:=mK (HUY.o.tt HP3.o);clear hu)
    refine hK.out _ _ (by with_reducible (first | exact HKX.o _ HUY.o.drew | exact HKX.o _ HU3.o)) (fun hHeld=>?_)
    clear hK K
    (try simp only[Act.put,sA,sB,sC])
    refine zH 9 ?_
    refine zH 10 ?_
    refine wpAnyH_done (by kernel_rfl) ?_ _
    go_wp2
    have HP30:=mK (show Pure w3 w3.drew from rU.drew)
    refine wp_region_held_drew (S:=(fun v=>v.cell? ⟨bA,oA+x2 * 4,none⟩=some (.int .i64 2)/\v.cell? ⟨bA,oA+x2 * 4+1,none⟩=some (.int .i64 0)/\v.cell? ⟨bA,oA+x2 * 4+2,none⟩=some (.int .i64 0)/\v.cell? ⟨bA,oA+x2 * 4+3,none⟩=some (.int .i64 0)/\v.cell? ⟨bA,oA+pp * 4,none⟩=some (.int .i64 z.k)/\v.cell? ⟨bA,oA+pp * 4+1,none⟩=some (.int .i64 z.t)/\v.cell? ⟨bA,oA+pp * 4+2,none⟩=some (.int .i64 z.n)/\v.cell? ⟨bA,oA+pp * 4+3,none⟩=some (.int .i64 z.m)/\v.cell? ⟨bA,oA+li * 4,none⟩=some (.int .i64 yl.k)/\v.cell? ⟨bA,oA+li * 4+1,none⟩=some (.int .i64 yl.t)/\v.cell? ⟨bA,oA+li * 4+2,none⟩=some (.int .i64 yl.n)/\v.cell? ⟨bA,oA+li * 4+3,none⟩=some (.int .i64 yl.m))) (by kernel_rfl) ?_ (fun hHeld=>?_)
    ·with_reducible (first | exact HKY.o _ HU3.o.drew | exact HKY.o _ HU4.o | exact HKY.o _ HU5.o)
    refine zH 0 ?_
    refine zH 1 ?_
    refine zH 2 ?_
    refine zH 3 ?_
    (try simp only[Act.put,sA,sB,sC])
    refine zH 4 ?_
    refine zH 5 ?_
    refine zH 6 ?_
    refine wpAnyH_ready (rs:=[7]) (by kernel_rfl) (by simp) (AllReadyH.cons (by exact opAt rfl) (fun K hK=>?_) AllReadyH.nil)
    go_simp
    (first | (go_at_call 103;refine(H1.o w4 HU4.o).mono ?_;rintro r w5 ⟨rfl,hu⟩;have HP5:=mK hu;have HB5:=mK (kP HP5.o HB4.o);have HQ5:=mK (kP HP5.o HQ4.o);have HU5:=mK (HU4.o.tt HP5.o);clear hu) | (go_at_call 107;refine(x13 _).mono ?_;rintro r w4 ⟨rfl,hu⟩;have HP4:=mK (HP30.o.tt hu);have HB4:=mK (kP HP4.o HB3.o);have HQ4:=mK (kP HP4.o HQ3.o);have HU4:=mK (HU3.o.tt HP4.o);clear hu))
    refine hK.out _ _ (by with_reducible (first | exact HKY.o _ HU3.o.drew | exact HKY.o _ HU4.o | exact HKY.o _ HU5.o)) (fun hHeld=>?_)
    clear hK K
    (try simp only[Act.put,sA,sB,sC])
    refine zH 8 ?_
    refine zH 9 ?_
    refine zH 10 ?_
    refine zH 11 ?_
    (try simp only[Act.put,sA,sB,sC])
    refine zH 12 ?_
    refine zH 13 ?_
    refine zH 17 ?_
    refine zH 18 ?_
    (try simp only[Act.put,sA,sB,sC])
    refine zH 19 ?_
    refine zH 20 ?_
    refine wpAnyH_ready (rs:=[14]) (by kernel_rfl) (by simp) (AllReadyH.cons (by exact opAt rfl) (fun K hK=>?_) AllReadyH.nil)
    go_simp
    (first | (go_at_call 103;refine(H1.o w4 HU4.o).mono ?_;rintro r w5 ⟨rfl,hu⟩;have HP5:=mK hu;have HB5:=mK (kP HP5.o HB4.o);have HQ5:=mK (kP HP5.o HQ4.o);have HU5:=mK (HU4.o.tt HP5.o);clear hu) | (go_at_call 107;refine(x13 _).mono ?_;rintro r w4 ⟨rfl,hu⟩;have HP4:=mK (HP30.o.tt hu);have HB4:=mK (kP HP4.o HB3.o);have HQ4:=mK (kP HP4.o HQ3.o);have HU4:=mK (HU3.o.tt HP4.o);clear hu))
    refine hK.out _ _ (by with_reducible (first | exact HKY.o _ HU3.o.drew | exact HKY.o _ HU4.o | exact HKY.o _ HU5.o)) (fun hHeld=>?_)
    clear hK K
    (try simp only[Act.put,sA,sB,sC])
    refine zH 15 ?_
    refine zH 16 ?_
    refine zH 21 ?_
    refine zH 22 ?_
    refine wpAnyH_done (by kernel_rfl) ?_ _
    obtain⟨wz,rfl⟩:∃ wz:World,wz=w5:=⟨_,rfl⟩
    have HBZ:=HB5
    have HQZ:=HQ5
    have HUZ:=HU5
    have HK8:=mK (fun v (hu:Upd (fun k=>k=w.heap.size) wz v)=>cells2 ((hu.block (w.heap.size+1) (lt_of_block HQZ.o) (by omega)).trans HQZ.o))
    have HPz:=mK (show Pure wz wz.drew from rU.drew)
    go_wp2
    have HK9:=mK (fun v (hu:Upd (fun k=>k=w.heap.size) wz v)=>(by obtain⟨d0,d1⟩:=HK8.o v hu;obtain⟨g0,g1,g2,g3⟩:=HKL.o wz HUZ.o;have hb9:bA < wz.heap.size:=Nat.lt_of_lt_of_le HBA.o HUZ.o.size;have hne:bA ≠ w.heap.size:=(by have:=HBA.o;omega);have hh:∀ k,v.cell? ⟨bA,k,none⟩=wz.cell? ⟨bA,k,none⟩:=(fun k=>hu.cell hb9 hne);exact⟨d0,d1,(hh _).trans g0,(hh _).trans g1,(hh _).trans g2,(hh _).trans g3⟩:(fun v=>v.cell? ⟨w.heap.size+1,0,none⟩=some (.pointer (some ⟨cb,0,none⟩))/\v.cell? ⟨w.heap.size+1,1,none⟩=some (.slice (some ⟨bA,oA,none⟩) l.length c)/\v.cell? ⟨bA,oA+li * 4,none⟩=some (.int .i64 yl.k)/\v.cell? ⟨bA,oA+li * 4+1,none⟩=some (.int .i64 yl.t)/\v.cell? ⟨bA,oA+li * 4+2,none⟩=some (.int .i64 yl.n)/\v.cell? ⟨bA,oA+li * 4+3,none⟩=some (.int .i64 yl.m)) v))
    refine x0m (P:=Tryz.prog) (fun v=>v.cell? ⟨w.heap.size+1,0,none⟩=some (.pointer (some ⟨cb,0,none⟩))/\v.cell? ⟨w.heap.size+1,1,none⟩=some (.slice (some ⟨bA,oA,none⟩) l.length c)/\v.cell? ⟨bA,oA+li * 4,none⟩=some (.int .i64 yl.k)/\v.cell? ⟨bA,oA+li * 4+1,none⟩=some (.int .i64 yl.t)/\v.cell? ⟨bA,oA+li * 4+2,none⟩=some (.int .i64 yl.n)/\v.cell? ⟨bA,oA+li * 4+3,none⟩=some (.int .i64 yl.m)) 18 (by kernel_rfl) ?_ (fun hHeld=>?_)
    ·with_reducible (first | exact HK9.o _ (up1 HPz.o) | exact HK9.o _ (up1 HPa.o) | exact HK9.o _ (up1 HPb.o) | exact HK9.o _ (up1 HPc.o) | exact HK9.o _ (up1 (HPc.o.alloc _)) | exact HK9.o _ (up1 HP9.o) | exact HK9.o _ (x0b (up1 HP9.o) _ _ _ _ _ _ _ _))
    refine zT 0 ?_
    (try simp only[Act.put,sA,sB,sC])
    refine zT 1 ?_
    refine zT 2 ?_
    refine zT 3 ?_
    refine zT 4 ?_
    (try simp only[Act.put,sA,sB,sC])
    refine zT 5 ?_
    refine zT 7 ?_
    refine zT 8 ?_
    refine zT 9 ?_
    (try simp only[Act.put,sA,sB,sC])
    refine zT 10 ?_
    refine oT 6 (fun K hK=>?_)
    go_simp
    (go_at_call 109;refine(x4d _ _ _ _ _ _).mono ?_;rintro r wa ⟨rfl,hu⟩;have HPa:=mK (HPz.o.tt hu);clear hu)
    refine hK.out _ _ (fun _=>by with_reducible (first | exact HK9.o _ (up1 HPz.o) | exact HK9.o _ (up1 HPa.o) | exact HK9.o _ (up1 HPb.o) | exact HK9.o _ (up1 HPc.o) | exact HK9.o _ (up1 (HPc.o.alloc _)) | exact HK9.o _ (up1 HP9.o) | exact HK9.o _ (x0b (up1 HP9.o) _ _ _ _ _ _ _ _))) (fun hHeld=>?_)
    replace hHeld:=hHeld (by decide)
    clear hK K
    (try simp only[Act.put,sA,sB,sC])
    refine oT 11 (fun K hK=>?_)
    go_simp
    (go_at_call 107;refine(x13 _).mono ?_;rintro r wb ⟨rfl,hu⟩;have HPb:=mK (HPa.o.tt hu);clear hu)
    refine hK.out _ _ (fun _=>by with_reducible (first | exact HK9.o _ (up1 HPz.o) | exact HK9.o _ (up1 HPa.o) | exact HK9.o _ (up1 HPb.o) | exact HK9.o _ (up1 HPc.o) | exact HK9.o _ (up1 (HPc.o.alloc _)) | exact HK9.o _ (up1 HP9.o) | exact HK9.o _ (x0b (up1 HP9.o) _ _ _ _ _ _ _ _))) (fun hHeld=>?_)
    replace hHeld:=hHeld (by decide)
    clear hK K
    (try simp only[Act.put,sA,sB,sC])
    refine oT 12 (fun K hK=>?_)
    go_simp
    (go_at_call 107;refine(x13 _).mono ?_;rintro r wc ⟨rfl,hu⟩;have HPc:=mK (HPb.o.tt hu);clear hu)
    refine hK.out _ _ (fun _=>by with_reducible (first | exact HK9.o _ (up1 HPz.o) | exact HK9.o _ (up1 HPa.o) | exact HK9.o _ (up1 HPb.o) | exact HK9.o _ (up1 HPc.o) | exact HK9.o _ (up1 (HPc.o.alloc _)) | exact HK9.o _ (up1 HP9.o) | exact HK9.o _ (x0b (up1 HP9.o) _ _ _ _ _ _ _ _))) (fun hHeld=>?_)
    replace hHeld:=hHeld (by decide)
    clear hK K
    (try simp only[Act.put,sA,sB,sC])
    refine oT 13 (fun K hK=>?_)
    go_simp
    refine hK.out _ _ (fun _=>by with_reducible (first | exact HK9.o _ (up1 HPz.o) | exact HK9.o _ (up1 HPa.o) | exact HK9.o _ (up1 HPb.o) | exact HK9.o _ (up1 HPc.o) | exact HK9.o _ (up1 (HPc.o.alloc _)) | exact HK9.o _ (up1 HP9.o) | exact HK9.o _ (x0b (up1 HP9.o) _ _ _ _ _ _ _ _))) (fun hHeld=>?_)
    replace hHeld:=hHeld (by decide)
    clear hK K
    (try simp only[Act.put,sA,sB,sC])
    refine oT 14 (fun K hK=>?_)
    go_simp
    (go_at_call 108;refine(HT.o (wc.alloc _) (some ⟨wc.heap.size,0,none⟩) 3 ((HUZ.o.tt HPc.o).alloc _) (x1a (l:=[yl,shutT,shutT]) (heap_alloc_new wc _) trivial)).mono ?_;rintro r w9 ⟨B9,c9,⟨rfl,hp9⟩,hr9,hn9⟩;have HV9:=mK (fun o=>(HUZ.o.tt HPc.o).alloc o);have HL9:=mK (show w.heap.size < wc.heap.size+1 from by have h7:=HPc.o.size;have h8:=lt_of_block HBZ.o;omega);have HT9:=mK hp9;have HR9:=mK hr9;have HN9:=mK hn9;have HP9:=mK ((HPc.o.alloc _).tt hp9);have HB9:=mK (kP HP9.o HBZ.o);have hbl9:w.heap.size < w9.heap.size:=lt_of_block HB9.o;have hcf9:∀ i,w9.frozen? ⟨w.heap.size,i,none⟩=false:=(fun i=>by simp[World.frozen?,HB9.o]);obtain⟨k0,k1,k2,k3,k4,k5,k6,k7⟩:=x06 HB9.o;clear hp9 hr9 hn9)
    refine hK.out _ _ (fun _=>by with_reducible (first | exact HK9.o _ (up1 HPz.o) | exact HK9.o _ (up1 HPa.o) | exact HK9.o _ (up1 HPb.o) | exact HK9.o _ (up1 HPc.o) | exact HK9.o _ (up1 (HPc.o.alloc _)) | exact HK9.o _ (up1 HP9.o) | exact HK9.o _ (x0b (up1 HP9.o) _ _ _ _ _ _ _ _))) (fun hHeld=>?_)
    replace hHeld:=hHeld (by decide)
    clear hK K
    (try simp only[Act.put,sA,sB,sC])
    refine zT 15 ?_
    refine zT 16 ?_
    refine oT 17 (fun K hK=>?_)
    go_simp
    refine hK.out _ _ (fun _=>by with_reducible (first | exact HK9.o _ (up1 HPz.o) | exact HK9.o _ (up1 HPa.o) | exact HK9.o _ (up1 HPb.o) | exact HK9.o _ (up1 HPc.o) | exact HK9.o _ (up1 (HPc.o.alloc _)) | exact HK9.o _ (up1 HP9.o) | exact HK9.o _ (x0b (up1 HP9.o) _ _ _ _ _ _ _ _))) (fun hHeld=>?_)
    replace hHeld:=hHeld (by decide)
    clear hK K
    (try simp only[Act.put,sA,sB,sC])
    refine oT 18 (fun K hK=>?_)
    go_simp
    refine hK.out _ _ (fun h=>absurd rfl h) (fun hHeld=>?_)
    clear hK K
    (try simp only[Act.put,sA,sB,sC])
    refine x0l (by kernel_rfl) ?_ _
    go_wp2
    exact bodyPost_ret (step_end (rb:=w.heap.size) rfl _ rfl (set8 (rb:=w.heap.size) HB9.o _ _ _ _ _ _ _ _)) rfl ⟨B9,c9,⟨rfl,x05 ((HV9.o _).tt HT9.o) (Nat.le_refl _) _ _ _ _ _ _ _ _⟩,⟨Rp.x09 (Rp.x0f HR9.o.1 (x0b rU _ _ _ _ _ _ _ _) (fun k _ h e=>by have h7:=HL9.o;simp at h;omega)) (fun k h=>by have h7:=HL9.o;simp at h;omega),HR9.o.2⟩,HN9.o⟩
   ·have et:(z.t == yl.t)=true:=by simpa using het
    have en2:(z.n == yl.n)=false:=by simpa using hne
    clear hne het
    go_enter Tryz.func51,Tryz.ntmps51
    go_wp2_with (first | (go_at_call 106;with_reducible refine(HI.o w1 HU1.o).mono ?_;rintro r w2 ⟨rfl,hu⟩;have HB2:=mK (kP hu HB1.o);have HQ2:=mK (kP hu HQ1.o);have q2:=cells2 HQ2.o;have HU2:=mK (HU1.o.tt hu);clear hu) | (go_at_call 105;refine(HP.o _ (aP.alloc _)).mono ?_;rintro r w1 ⟨rfl,hu⟩;obtain⟨hb1,hb2,hu2⟩:=x0s hu;obtain⟨q0,q1⟩:=cells2 hb2;have HB1:=mK hb1;have HQ1:=mK hb2;have HU1:=mK hu2;clear hu hb1 hb2 hu2))
    obtain⟨wo,rfl⟩:∃ wo:World,wo=w2:=⟨_,rfl⟩
    have HBY:=HB2
    have HQY:=HQ2
    have HUY:=HU2
    have HP0:=mK (show Pure wo wo.drew from rU.drew)
    refine wp_region_held_drew (S:=(fun v=>v.cell? ⟨bA,oA+x1 * 4,none⟩=some (.int .i64 2)/\v.cell? ⟨bA,oA+x1 * 4+1,none⟩=some (.int .i64 0)/\v.cell? ⟨bA,oA+x1 * 4+2,none⟩=some (.int .i64 0)/\v.cell? ⟨bA,oA+x1 * 4+3,none⟩=some (.int .i64 0))) (by kernel_rfl) ?_ (fun hHeld=>?_)
    ·with_reducible (first | exact HKX.o _ HUY.o.drew | exact HKX.o _ HU3.o)
    refine zH 0 ?_
    refine zH 1 ?_
    refine zH 2 ?_
    refine zH 3 ?_
    refine zH 4 ?_
    refine zH 5 ?_
    (try simp only[Act.put,sA,sB,sC])
    refine zH 6 ?_
    refine zH 7 ?_
    refine wpAnyH_ready (rs:=[8]) (by kernel_rfl) (by simp) (AllReadyH.cons (by exact opAt rfl) (fun K hK=>?_) AllReadyH.nil)
    go_simp
    (go_at_call 107;refine(x13 _).mono ?_;rintro r w3 ⟨rfl,hu⟩;have HP3:=mK (HP0.o.tt hu);have HB3:=mK (kP HP3.o HBY.o);have HQ3:=mK (kP HP3.o HQY.o);have HU3:=mK (HUY.o.tt HP3.o);clear hu)
    refine hK.out _ _ (by with_reducible (first | exact HKX.o _ HUY.o.drew | exact HKX.o _ HU3.o)) (fun hHeld=>?_)
    clear hK K
    (try simp only[Act.put,sA,sB,sC])
    refine zH 9 ?_
    refine zH 10 ?_
    refine wpAnyH_done (by kernel_rfl) ?_ _
    go_wp2
    have HP30:=mK (show Pure w3 w3.drew from rU.drew)
    refine wp_region_held_drew (S:=(fun v=>v.cell? ⟨bA,oA+x2 * 4,none⟩=some (.int .i64 2)/\v.cell? ⟨bA,oA+x2 * 4+1,none⟩=some (.int .i64 0)/\v.cell? ⟨bA,oA+x2 * 4+2,none⟩=some (.int .i64 0)/\v.cell? ⟨bA,oA+x2 * 4+3,none⟩=some (.int .i64 0)/\v.cell? ⟨bA,oA+pp * 4,none⟩=some (.int .i64 z.k)/\v.cell? ⟨bA,oA+pp * 4+1,none⟩=some (.int .i64 z.t)/\v.cell? ⟨bA,oA+pp * 4+2,none⟩=some (.int .i64 z.n)/\v.cell? ⟨bA,oA+pp * 4+3,none⟩=some (.int .i64 z.m)/\v.cell? ⟨bA,oA+li * 4,none⟩=some (.int .i64 yl.k)/\v.cell? ⟨bA,oA+li * 4+1,none⟩=some (.int .i64 yl.t)/\v.cell? ⟨bA,oA+li * 4+2,none⟩=some (.int .i64 yl.n)/\v.cell? ⟨bA,oA+li * 4+3,none⟩=some (.int .i64 yl.m))) (by kernel_rfl) ?_ (fun hHeld=>?_)
    ·with_reducible (first | exact HKY.o _ HU3.o.drew | exact HKY.o _ HU4.o | exact HKY.o _ HU5.o)
    refine zH 0 ?_
    refine zH 1 ?_
    refine zH 2 ?_
    (try simp only[Act.put,sA,sB,sC])
    refine zH 3 ?_
    refine zH 4 ?_
    refine zH 5 ?_
    refine zH 6 ?_
    (try simp only[Act.put,sA,sB,sC])
    refine wpAnyH_ready (rs:=[7]) (by kernel_rfl) (by simp) (AllReadyH.cons (by exact opAt rfl) (fun K hK=>?_) AllReadyH.nil)
    go_simp
    (first | (go_at_call 103;refine(H1.o w4 HU4.o).mono ?_;rintro r w5 ⟨rfl,hu⟩;have HP5:=mK hu;have HB5:=mK (kP HP5.o HB4.o);have HQ5:=mK (kP HP5.o HQ4.o);have HU5:=mK (HU4.o.tt HP5.o);clear hu) | (go_at_call 107;refine(x13 _).mono ?_;rintro r w4 ⟨rfl,hu⟩;have HP4:=mK (HP30.o.tt hu);have HB4:=mK (kP HP4.o HB3.o);have HQ4:=mK (kP HP4.o HQ3.o);have HU4:=mK (HU3.o.tt HP4.o);clear hu))
    refine hK.out _ _ (by with_reducible (first | exact HKY.o _ HU3.o.drew | exact HKY.o _ HU4.o | exact HKY.o _ HU5.o)) (fun hHeld=>?_)
    clear hK K
    (try simp only[Act.put,sA,sB,sC])
    refine zH 8 ?_
    refine zH 9 ?_
    refine zH 10 ?_
    refine zH 11 ?_
    refine zH 12 ?_
    refine zH 13 ?_
    refine zH 17 ?_
    (try simp only[Act.put,sA,sB,sC])
    refine zH 18 ?_
    refine zH 19 ?_
    refine zH 20 ?_
    refine wpAnyH_ready (rs:=[14]) (by kernel_rfl) (by simp) (AllReadyH.cons (by exact opAt rfl) (fun K hK=>?_) AllReadyH.nil)
    go_simp
    (first | (go_at_call 103;refine(H1.o w4 HU4.o).mono ?_;rintro r w5 ⟨rfl,hu⟩;have HP5:=mK hu;have HB5:=mK (kP HP5.o HB4.o);have HQ5:=mK (kP HP5.o HQ4.o);have HU5:=mK (HU4.o.tt HP5.o);clear hu) | (go_at_call 107;refine(x13 _).mono ?_;rintro r w4 ⟨rfl,hu⟩;have HP4:=mK (HP30.o.tt hu);have HB4:=mK (kP HP4.o HB3.o);have HQ4:=mK (kP HP4.o HQ3.o);have HU4:=mK (HU3.o.tt HP4.o);clear hu))
    refine hK.out _ _ (by with_reducible (first | exact HKY.o _ HU3.o.drew | exact HKY.o _ HU4.o | exact HKY.o _ HU5.o)) (fun hHeld=>?_)
    clear hK K
    (try simp only[Act.put,sA,sB,sC])
    refine zH 15 ?_
    refine zH 16 ?_
    refine zH 21 ?_
    refine zH 22 ?_
    (try simp only[Act.put,sA,sB,sC])
    refine wpAnyH_done (by kernel_rfl) ?_ _
    obtain⟨wz,rfl⟩:∃ wz:World,wz=w5:=⟨_,rfl⟩
    have HBZ:=HB5
    have HQZ:=HQ5
    have HUZ:=HU5
    have HK8:=mK (fun v (hu:Upd (fun k=>k=w.heap.size) wz v)=>cells2 ((hu.block (w.heap.size+1) (lt_of_block HQZ.o) (by omega)).trans HQZ.o))
    have HPz:=mK (show Pure wz wz.drew from rU.drew)
    go_wp2
    have HK9:=mK (fun v (hu:Upd (fun k=>k=w.heap.size) wz v)=>(by obtain⟨d0,d1⟩:=HK8.o v hu;obtain⟨g0,g1,g2,g3⟩:=HKL.o wz HUZ.o;have hb9:bA < wz.heap.size:=Nat.lt_of_lt_of_le HBA.o HUZ.o.size;have hne:bA ≠ w.heap.size:=(by have:=HBA.o;omega);have hh:∀ k,v.cell? ⟨bA,k,none⟩=wz.cell? ⟨bA,k,none⟩:=(fun k=>hu.cell hb9 hne);exact⟨d0,d1,(hh _).trans g0,(hh _).trans g1,(hh _).trans g2,(hh _).trans g3⟩:(fun v=>v.cell? ⟨w.heap.size+1,0,none⟩=some (.pointer (some ⟨cb,0,none⟩))/\v.cell? ⟨w.heap.size+1,1,none⟩=some (.slice (some ⟨bA,oA,none⟩) l.length c)/\v.cell? ⟨bA,oA+li * 4,none⟩=some (.int .i64 yl.k)/\v.cell? ⟨bA,oA+li * 4+1,none⟩=some (.int .i64 yl.t)/\v.cell? ⟨bA,oA+li * 4+2,none⟩=some (.int .i64 yl.n)/\v.cell? ⟨bA,oA+li * 4+3,none⟩=some (.int .i64 yl.m)) v))
    refine x0m (P:=Tryz.prog) (fun v=>v.cell? ⟨w.heap.size+1,0,none⟩=some (.pointer (some ⟨cb,0,none⟩))/\v.cell? ⟨w.heap.size+1,1,none⟩=some (.slice (some ⟨bA,oA,none⟩) l.length c)/\v.cell? ⟨bA,oA+li * 4,none⟩=some (.int .i64 yl.k)/\v.cell? ⟨bA,oA+li * 4+1,none⟩=some (.int .i64 yl.t)/\v.cell? ⟨bA,oA+li * 4+2,none⟩=some (.int .i64 yl.n)/\v.cell? ⟨bA,oA+li * 4+3,none⟩=some (.int .i64 yl.m)) 18 (by kernel_rfl) ?_ (fun hHeld=>?_)
    ·with_reducible (first | exact HK9.o _ (up1 HPz.o) | exact HK9.o _ (up1 HPa.o) | exact HK9.o _ (up1 HPb.o) | exact HK9.o _ (up1 HPc.o) | exact HK9.o _ (up1 (HPc.o.alloc _)) | exact HK9.o _ (up1 HP9.o) | exact HK9.o _ (x0b (up1 HP9.o) _ _ _ _ _ _ _ _))
    refine zT 0 ?_
    refine zT 1 ?_
    refine zT 2 ?_
    refine zT 3 ?_
    (try simp only[Act.put,sA,sB,sC])
    refine zT 4 ?_
    refine zT 5 ?_
    refine zT 7 ?_
    refine zT 8 ?_
    (try simp only[Act.put,sA,sB,sC])
    refine zT 9 ?_
    refine zT 10 ?_
    refine oT 6 (fun K hK=>?_)
    go_simp
    (go_at_call 109;refine(x4d _ _ _ _ _ _).mono ?_;rintro r wa ⟨rfl,hu⟩;have HPa:=mK (HPz.o.tt hu);clear hu)
    refine hK.out _ _ (fun _=>by with_reducible (first | exact HK9.o _ (up1 HPz.o) | exact HK9.o _ (up1 HPa.o) | exact HK9.o _ (up1 HPb.o) | exact HK9.o _ (up1 HPc.o) | exact HK9.o _ (up1 (HPc.o.alloc _)) | exact HK9.o _ (up1 HP9.o) | exact HK9.o _ (x0b (up1 HP9.o) _ _ _ _ _ _ _ _))) (fun hHeld=>?_)
    replace hHeld:=hHeld (by decide)
    clear hK K
    (try simp only[Act.put,sA,sB,sC])
    refine oT 11 (fun K hK=>?_)
    go_simp
    (go_at_call 107;refine(x13 _).mono ?_;rintro r wb ⟨rfl,hu⟩;have HPb:=mK (HPa.o.tt hu);clear hu)
    refine hK.out _ _ (fun _=>by with_reducible (first | exact HK9.o _ (up1 HPz.o) | exact HK9.o _ (up1 HPa.o) | exact HK9.o _ (up1 HPb.o) | exact HK9.o _ (up1 HPc.o) | exact HK9.o _ (up1 (HPc.o.alloc _)) | exact HK9.o _ (up1 HP9.o) | exact HK9.o _ (x0b (up1 HP9.o) _ _ _ _ _ _ _ _))) (fun hHeld=>?_)
    replace hHeld:=hHeld (by decide)
    clear hK K
    (try simp only[Act.put,sA,sB,sC])
    refine oT 12 (fun K hK=>?_)
    go_simp
    (go_at_call 107;refine(x13 _).mono ?_;rintro r wc ⟨rfl,hu⟩;have HPc:=mK (HPb.o.tt hu);clear hu)
    refine hK.out _ _ (fun _=>by with_reducible (first | exact HK9.o _ (up1 HPz.o) | exact HK9.o _ (up1 HPa.o) | exact HK9.o _ (up1 HPb.o) | exact HK9.o _ (up1 HPc.o) | exact HK9.o _ (up1 (HPc.o.alloc _)) | exact HK9.o _ (up1 HP9.o) | exact HK9.o _ (x0b (up1 HP9.o) _ _ _ _ _ _ _ _))) (fun hHeld=>?_)
    replace hHeld:=hHeld (by decide)
    clear hK K
    (try simp only[Act.put,sA,sB,sC])
    refine oT 13 (fun K hK=>?_)
    go_simp
    refine hK.out _ _ (fun _=>by with_reducible (first | exact HK9.o _ (up1 HPz.o) | exact HK9.o _ (up1 HPa.o) | exact HK9.o _ (up1 HPb.o) | exact HK9.o _ (up1 HPc.o) | exact HK9.o _ (up1 (HPc.o.alloc _)) | exact HK9.o _ (up1 HP9.o) | exact HK9.o _ (x0b (up1 HP9.o) _ _ _ _ _ _ _ _))) (fun hHeld=>?_)
    replace hHeld:=hHeld (by decide)
    clear hK K
    (try simp only[Act.put,sA,sB,sC])
    refine oT 14 (fun K hK=>?_)
    go_simp
    (go_at_call 108;refine(HT.o (wc.alloc _) (some ⟨wc.heap.size,0,none⟩) 3 ((HUZ.o.tt HPc.o).alloc _) (x1a (l:=[yl,shutT,shutT]) (heap_alloc_new wc _) trivial)).mono ?_;rintro r w9 ⟨B9,c9,⟨rfl,hp9⟩,hr9,hn9⟩;have HV9:=mK (fun o=>(HUZ.o.tt HPc.o).alloc o);have HL9:=mK (show w.heap.size < wc.heap.size+1 from by have h7:=HPc.o.size;have h8:=lt_of_block HBZ.o;omega);have HT9:=mK hp9;have HR9:=mK hr9;have HN9:=mK hn9;have HP9:=mK ((HPc.o.alloc _).tt hp9);have HB9:=mK (kP HP9.o HBZ.o);have hbl9:w.heap.size < w9.heap.size:=lt_of_block HB9.o;have hcf9:∀ i,w9.frozen? ⟨w.heap.size,i,none⟩=false:=(fun i=>by simp[World.frozen?,HB9.o]);obtain⟨k0,k1,k2,k3,k4,k5,k6,k7⟩:=x06 HB9.o;clear hp9 hr9 hn9)
    refine hK.out _ _ (fun _=>by with_reducible (first | exact HK9.o _ (up1 HPz.o) | exact HK9.o _ (up1 HPa.o) | exact HK9.o _ (up1 HPb.o) | exact HK9.o _ (up1 HPc.o) | exact HK9.o _ (up1 (HPc.o.alloc _)) | exact HK9.o _ (up1 HP9.o) | exact HK9.o _ (x0b (up1 HP9.o) _ _ _ _ _ _ _ _))) (fun hHeld=>?_)
    replace hHeld:=hHeld (by decide)
    clear hK K
    (try simp only[Act.put,sA,sB,sC])
    refine zT 15 ?_
    refine zT 16 ?_
    refine oT 17 (fun K hK=>?_)
    go_simp
    refine hK.out _ _ (fun _=>by with_reducible (first | exact HK9.o _ (up1 HPz.o) | exact HK9.o _ (up1 HPa.o) | exact HK9.o _ (up1 HPb.o) | exact HK9.o _ (up1 HPc.o) | exact HK9.o _ (up1 (HPc.o.alloc _)) | exact HK9.o _ (up1 HP9.o) | exact HK9.o _ (x0b (up1 HP9.o) _ _ _ _ _ _ _ _))) (fun hHeld=>?_)
    replace hHeld:=hHeld (by decide)
    clear hK K
    (try simp only[Act.put,sA,sB,sC])
    refine oT 18 (fun K hK=>?_)
    go_simp
    refine hK.out _ _ (fun h=>absurd rfl h) (fun hHeld=>?_)
    clear hK K
    (try simp only[Act.put,sA,sB,sC])
    refine x0l (by kernel_rfl) ?_ _
    go_wp2
    exact bodyPost_ret (step_end (rb:=w.heap.size) rfl _ rfl (set8 (rb:=w.heap.size) HB9.o _ _ _ _ _ _ _ _)) rfl ⟨B9,c9,⟨rfl,x05 ((HV9.o _).tt HT9.o) (Nat.le_refl _) _ _ _ _ _ _ _ _⟩,⟨Rp.x09 (Rp.x0f HR9.o.1 (x0b rU _ _ _ _ _ _ _ _) (fun k _ h e=>by have h7:=HL9.o;simp at h;omega)) (fun k h=>by have h7:=HL9.o;simp at h;omega),HR9.o.2⟩,HN9.o⟩
end Go.Proofs.YtofjodppljnlaaaGreatDoor
