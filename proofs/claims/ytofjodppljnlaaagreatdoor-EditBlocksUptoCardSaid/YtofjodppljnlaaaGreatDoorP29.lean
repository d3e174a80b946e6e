/- My own texts, packed: MarkL, EdS, EdR, Ed12d, Ed12j, EdJ, Ed12k, Ed12l. -/
import Derived.Test.YtofjodppljnlaaaGreatDoorP27
import Derived.Test.YtofjodppljnlaaaGreatDoorP28
set_option maxRecDepth 100000
set_option maxHeartbeats 4000000
set_option linter.unusedVariables false
set_option linter.unusedSimpArgs false
variable {w w1 W:Go.World} {F G:Nat → Prop} {A B:Option Go.Addr} {cb c:Nat}
namespace Go.Proofs.YtofjodppljnlaaaGreatDoor
open Go.RowKit
theorem house_len_le {l:List Tok} (h:(x0d l).2=0):l.length<=2048:=((x4w l).1 h).1
/-- The step that lifts what begins at b out of what begins at q. -/
def liftS (l:List Tok) (b q:Nat) (y:Tok):StepD:=
 arnd (if (b:Int)=q+1 then (q:Int) else b) (if partL l b+1=partL l q then partL l q+1 else partL l b+1) b (partL l b+1) (if (b:Int)=q+1 then 0 else 1)
  ((if (b:Int)=q+1 then [] else [shutT]) ++ (if partL l b+1=partL l q then [] else [y]))
theorem Split_at {l:List Tok} {p e pe ar:Int} {s':StepD} (hrow:tokR.row w F A l) (hlc:l.length<=c) (hb:l.length<=1048576 * 4)
 (hp:∀ W,Pure w W->Calls Tryz.prog 83 #[deskV cb A l.length c,.int .i64 p,.int .i64 p] W (fun r w'=>r=.returned (.int .i64 pe)/\Pure W w'))
 (ha:∀ W,Pure w W->Calls Tryz.prog 72 #[.slice A l.length c,.int .i64 p] W (fun r w'=>r=.returned (.int .i64 ar)/\Pure W w'))
 (hr:∀ (i:Nat) (y:Tok),pe=0->ar=(i:Int)->l[i]?=some y->∀ V A1 c1,Pure w V->tokR.row V (fun _=>True) A1 [shutT,y]->2<=c1->Calls Tryz.prog 85 #[deskV cb A l.length c,.int .i64 p,.int .i64 p,.slice A1 2 c1] V (Told s' (toldB A1 e) (toldC c1 e) e V))
 (hi:pe=0->0<=ar->∃ (i:Nat) (y:Tok),ar=(i:Int)/\l[i]?=some y/\(e=0->s'.sl=[shutT,y]))
 (h0:pe ≠ 0->s'=repl 0 0 []/\e=pe) (h1:pe=0->ar < 0->s'=repl 0 0 []/\e=6) (h3:e ≠ 0->s'.sl=[]) :
 Calls Tryz.prog 42 #[.pointer (some ⟨cb,0,none⟩),.slice A l.length c,.int .i64 p] w (fun r w'=>∃ B' c',Told s' B' c' e w r w'/\(tokR.row w' (fun k=>w.heap.size<=k) B' s'.sl/\s'.sl.length<=c')/\(e ≠ 0->B'=none/\c'=0)):=by
 have HP:=mK hp
 have HAR:=mK ha
 clear hp ha
 by_cases p0:pe=0
 ·by_cases a0:ar < 0
  ·obtain⟨rfl,rfl⟩:=h1 p0 a0
   subst p0
   clear hr hi h0 h1 h3 hrow
   unfold Told StepD.val at *
   go_enter Tryz.func42,Tryz.ntmps42
   go_wp2_with (first | (go_at_call 84;refine(x0x _).mono ?_;rintro r w2 ⟨rfl,hu⟩;have HB2:=mK (kP hu HBA.o);have HU2:=mK (HUA.o.tt hu);clear hu;apply As.o) | (go_at_call 72;refine(HAR.o w1 HU1.o).mono ?_;rintro r wa ⟨rfl,hu⟩;have HBA:=mK (kP hu HB1.o);have HUA:=mK (HU1.o.tt hu);have HPA:=mK hu;have qa:=cells2 (kP hu HQ1.o);clear hu) | (go_at_call 83;refine(HP.o _ (aP.alloc _)).mono ?_;rintro r w1 ⟨rfl,hu⟩;obtain⟨hb1,hb2,hu2⟩:=x0s hu;obtain⟨q0,q1⟩:=cells2 hb2;have HB1:=mK hb1;have HQ1:=mK hb2;have HU1:=mK hu2;clear hu hb1 hb2 hu2))
   refine⟨?_⟩
   have hbl:w.heap.size < w2.heap.size:=lB HB2.o
   have hcf:=fZ HB2.o
   obtain⟨k0,k1,k2,k3,k4,k5,k6,k7⟩:=x06 HB2.o
   go_wp2
   exact bodyPost_ret (step_end (rb:=w.heap.size) rfl _ rfl (set8 (rb:=w.heap.size) HB2.o _ _ _ _ _ _ _ _)) rfl ⟨none,0,⟨rfl,x05 HU2.o (Nat.le_refl _) _ _ _ _ _ _ _ _⟩,⟨.inl rfl,Nat.zero_le _⟩,fun _=>⟨rfl,rfl⟩⟩
  ·obtain⟨i,y,rfl,hy,hsl⟩:=hi p0 (by omega)
   have HR:=mK (hr i y p0 rfl hy)
   have HT:=mK (And.intro hsl h3)
   obtain⟨b,o,rfl,hF,hbl0,c0,c1,c2,c3⟩:=x0j hrow hy
   have il:i < l.length:=(List.getElem?_eq_some_iff.1 hy).1
   have HBL:=mK hbl0
   have HCS:=mK (And.intro c0 (And.intro c1 (And.intro c2 c3)))
   subst p0
   clear hr hi h0 h1 h3 hrow hsl hy hF hbl0 c0 c1 c2 c3
   unfold Told StepD.val at *
   go_enter Tryz.func42,Tryz.ntmps42
   go_wp2_with (first | (go_at_call 72;refine(HAR.o w1 HU1.o).mono ?_;rintro r wa ⟨rfl,hu⟩;have HBA:=mK (kP hu HB1.o);have HUA:=mK (HU1.o.tt hu);have HPA:=mK hu;have qa:=cells2 (kP hu HQ1.o);clear hu) | (go_at_call 83;refine(HP.o _ (aP.alloc _)).mono ?_;rintro r w1 ⟨rfl,hu⟩;obtain⟨hb1,hb2,hu2⟩:=x0s hu;obtain⟨q0,q1⟩:=cells2 hb2;have HB1:=mK hb1;have HQ1:=mK hb2;have HU1:=mK hu2;clear hu hb1 hb2 hu2))
   have HK8:=mK (fun v (hu:Upd (fun k=>k=w.heap.size) w1 v)=>(by
    obtain⟨d0,d1⟩:=cells2 ((hu.block (w.heap.size+1) (lt_of_block HQ1.o) (by omega)).trans HQ1.o)
    obtain⟨e0,e1,e2,e3⟩:=HCS.o
    have hb9:=HBL.o
    have hh:∀ k,v.cell? ⟨b,k,none⟩=w.cell? ⟨b,k,none⟩:=fun k=>(hu.cell (Nat.lt_of_lt_of_le hb9 HU1.o.size) (by omega)).trans (HU1.o.cell hb9 (fun h=>h))
    exact⟨d0,d1,(hh _).trans e0,(hh _).trans e1,(hh _).trans e2,(hh _).trans e3⟩:(fun v=>v.cell? ⟨w.heap.size+1,0,none⟩=some (.pointer (some ⟨cb,0,none⟩))/\v.cell? ⟨w.heap.size+1,1,none⟩=some (.slice (some ⟨b,o,none⟩) l.length c)/\v.cell? ⟨b,o+i * 4,none⟩=some (.int .i64 y.k)/\v.cell? ⟨b,o+i * 4+1,none⟩=some (.int .i64 y.t)/\v.cell? ⟨b,o+i * 4+2,none⟩=some (.int .i64 y.n)/\v.cell? ⟨b,o+i * 4+3,none⟩=some (.int .i64 y.m)) v))
   refine x0m (P:=Tryz.prog) (fun v=>v.cell? ⟨w.heap.size+1,0,none⟩=some (.pointer (some ⟨cb,0,none⟩))/\v.cell? ⟨w.heap.size+1,1,none⟩=some (.slice (some ⟨b,o,none⟩) l.length c)/\v.cell? ⟨b,o+i * 4,none⟩=some (.int .i64 y.k)/\v.cell? ⟨b,o+i * 4+1,none⟩=some (.int .i64 y.t)/\v.cell? ⟨b,o+i * 4+2,none⟩=some (.int .i64 y.n)/\v.cell? ⟨b,o+i * 4+3,none⟩=some (.int .i64 y.m)) 13 (by kernel_rfl) ?_ (fun hHeld=>?_)
   ·with_reducible (first | exact HK8.o _ (up1 HPA.o.drew) | exact HK8.o _ (up1 HP3.o) | exact HK8.o _ (up1 (HP3.o.alloc _)) | exact HK8.o _ (up1 HP4.o) | exact HK8.o _ (x0b (up1 HP4.o) _ _ _ _ _ _ _ _))
   refine zT 0 ?_
   refine zT 1 ?_
   refine zT 2 ?_
   refine zT 4 ?_
   (try simp only[Act.put,sA,sB,sC])
   refine zT 5 ?_
   refine zT 6 ?_
   refine zT 7 ?_
   refine oT 3 (fun K hK=>?_)
   go_simp
   (go_at_call 93;refine(x2q _).mono ?_;rintro r w3 ⟨rfl,hu3⟩;have HP3:=mK (HPA.o.drew.tt hu3);clear hu3)
   refine hK.out _ _ (fun _=>by with_reducible (first | exact HK8.o _ (up1 HPA.o.drew) | exact HK8.o _ (up1 HP3.o) | exact HK8.o _ (up1 (HP3.o.alloc _)) | exact HK8.o _ (up1 HP4.o) | exact HK8.o _ (x0b (up1 HP4.o) _ _ _ _ _ _ _ _))) (fun hHeld=>?_)
   replace hHeld:=hHeld (by decide)
   clear hK K
   (try simp only[Act.put,sA,sB,sC])
   refine oT 8 (fun K hK=>?_)
   go_simp
   refine hK.out _ _ (fun _=>by with_reducible (first | exact HK8.o _ (up1 HPA.o.drew) | exact HK8.o _ (up1 HP3.o) | exact HK8.o _ (up1 (HP3.o.alloc _)) | exact HK8.o _ (up1 HP4.o) | exact HK8.o _ (x0b (up1 HP4.o) _ _ _ _ _ _ _ _))) (fun hHeld=>?_)
   replace hHeld:=hHeld (by decide)
   clear hK K
   (try simp only[Act.put,sA,sB,sC])
   refine oT 9 (fun K hK=>?_)
   go_simp
   (go_at_call 85;refine(HR.o (w3.alloc _) (some ⟨w3.heap.size,0,none⟩) 2 ((HU1.o.tt HP3.o).alloc _) (x1a (l:=[shutT,y]) (heap_alloc_new w3 _) trivial) (Nat.le_refl _)).mono ?_;rintro r w4 ⟨rfl,hu4⟩;have HP4:=mK ((HP3.o.alloc _).tt hu4);have HP4w:=mK (HU1.o.tt HP4.o);have HR4:=mK (Rp.x01 (x1a (F:=fun k=>w.heap.size < k) (l:=[shutT,y]) (heap_alloc_new w3 _) (by have h7:=HP3.o.size;have h8:=lt_of_block HB1.o;omega)) hu4);have HB4:=mK (kP HP4.o HB1.o);have hbl4:w.heap.size < w4.heap.size:=(lB HB4.o);have hcf4:∀ i,w4.frozen? ⟨w.heap.size,i,none⟩=false:=(fun i=>by simp[World.frozen?,HB4.o]);obtain⟨k0,k1,k2,k3,k4,k5,k6,k7⟩:=x06 HB4.o;clear hu4)
   refine hK.out _ _ (fun _=>by with_reducible (first | exact HK8.o _ (up1 HPA.o.drew) | exact HK8.o _ (up1 HP3.o) | exact HK8.o _ (up1 (HP3.o.alloc _)) | exact HK8.o _ (up1 HP4.o) | exact HK8.o _ (x0b (up1 HP4.o) _ _ _ _ _ _ _ _))) (fun hHeld=>?_)
   replace hHeld:=hHeld (by decide)
   clear hK K
   (try simp only[Act.put,sA,sB,sC])
   refine zT 10 ?_
   refine zT 11 ?_
   refine oT 12 (fun K hK=>?_)
   go_simp
   refine hK.out _ _ (fun _=>by with_reducible (first | exact HK8.o _ (up1 HPA.o.drew) | exact HK8.o _ (up1 HP3.o) | exact HK8.o _ (up1 (HP3.o.alloc _)) | exact HK8.o _ (up1 HP4.o) | exact HK8.o _ (x0b (up1 HP4.o) _ _ _ _ _ _ _ _))) (fun hHeld=>?_)
   replace hHeld:=hHeld (by decide)
   clear hK K
   (try simp only[Act.put,sA,sB,sC])
   refine oT 13 (fun K hK=>?_)
   go_simp
   refine hK.out _ _ (fun h=>absurd rfl h) (fun hHeld=>?_)
   clear hK K
   (try simp only[Act.put,sA,sB,sC])
   refine x0l (by kernel_rfl) ?_ _
   go_wp2
   exact bodyPost_ret (step_end (rb:=w.heap.size) rfl _ rfl (set8 (rb:=w.heap.size) HB4.o _ _ _ _ _ _ _ _)) rfl ⟨_,_,⟨rfl,x05 HP4w.o (Nat.le_refl _) _ _ _ _ _ _ _ _⟩,x29 (e:=e) HT.o.1 HT.o.2 (Rp.x09 (G:=fun k=>w.heap.size<=k) (Rp.x0f HR4.o (x0b rU _ _ _ _ _ _ _ _) (fun k _ h e=>by omega)) (fun _ h=>by (try have h8:=HL.o);omega)) (Nat.le_refl 2),fun h=>⟨if_neg h,if_neg h⟩⟩
 ·obtain⟨rfl,rfl⟩:=h0 p0
  have f0:(e != 0)=true:=by simpa using p0
  clear hr hi h0 h1 h3 hrow p0 HAR
  unfold Told StepD.val at *
  go_enter Tryz.func42,Tryz.ntmps42
  go_wp2_with (first | (go_at_call 84;refine(x0x _).mono ?_;rintro r w2 ⟨rfl,hu⟩;have HB2:=mK (kP hu HB1.o);have HU2:=mK (HU1.o.tt hu);clear hu;apply As.o) | (go_at_call 83;refine(HP.o _ (aP.alloc _)).mono ?_;rintro r w1 ⟨rfl,hu⟩;obtain⟨hb1,hb2,hu2⟩:=x0s hu;obtain⟨q0,q1⟩:=cells2 hb2;have HB1:=mK hb1;have HQ1:=mK hb2;have HU1:=mK hu2;clear hu hb1 hb2 hu2))
  refine⟨?_⟩
  have hbl:w.heap.size < w2.heap.size:=lB HB2.o
  have hcf:=fZ HB2.o
  obtain⟨k0,k1,k2,k3,k4,k5,k6,k7⟩:=x06 HB2.o
  go_wp2
  exact bodyPost_ret (step_end (rb:=w.heap.size) rfl _ rfl (set8 (rb:=w.heap.size) HB2.o _ _ _ _ _ _ _ _)) rfl ⟨none,0,⟨rfl,x05 HU2.o (Nat.le_refl _) _ _ _ _ _ _ _ _⟩,⟨.inl rfl,Nat.zero_le _⟩,fun _=>⟨rfl,rfl⟩⟩
def x26 (l:List Tok) (p:Int):Int:=if x0e l p p ≠ 0 then x0e l p p else if x04 l p < 0 then 6 else x08 l (repl p p [shutT,(l[(x04 l p).toNat]?).getD shutT])
def splS (l:List Tok) (p:Int):StepD:=repl p p [shutT,(l[(x04 l p).toNat]?).getD shutT]
theorem Split_new {l:List Tok} {p:Int} (h:SchR w cb x02 x07) (hr:tokR.row w F A l) (hlc:l.length<=c) (hb:l.length<=1048576 * 4) :
 Calls Tryz.prog 42 #[.pointer (some ⟨cb,0,none⟩),.slice A l.length c,.int .i64 p] w (fun r w'=>∃ B' c',Told (toldS (splS l p) (x26 l p)) B' c' (x26 l p) w r w'/\(tokR.row w' (fun k=>w.heap.size<=k) B' (toldS (splS l p) (x26 l p)).sl/\(toldS (splS l p) (x26 l p)).sl.length<=c')/\(x26 l p ≠ 0->B'=none/\c'=0)):=by
 refine Split_at (pe:=x0e l p p) (ar:=x04 l p) hr hlc hb (fun W hW=>x34 (h.pure hW) (Rp.x01 hr hW) hb) (fun W hW=>x2g (Rp.x01 hr hW) hb hlc) (fun i y p0 ha hy V A1 c1 hV hrow hc1=>?_) (fun p0 ha=>?_) (fun hp=>?_) (fun p0 ha=>?_) (fun he=>by rw[x0g he];rfl)
 ·have h1:(l[(x04 l p).toNat]?).getD shutT=y:=by rw[ha,show ((i:Int)).toNat=i by omega,hy];rfl
  have he:x26 l p=x08 l (repl p p [shutT,y]):=by unfold x26;rw[if_neg (by omega),if_neg (by omega),h1]
  have hs:splS l p=repl p p [shutT,y]:=by unfold splS;rw[h1]
  rw[he,hs]
  exact x60 (sl:=[shutT,y]) (h.pure hV) (x3b (x16.1 p0).1) (Rp.x01 hr hV) hlc hb hrow hc1 (by simp)
 ·obtain⟨i,y,h1,h2,_,_⟩:=x20 (l:=l) (p:=p) (by omega)
  refine⟨i,y,h1,h2,fun he=>?_⟩
  rw[he,toldS_zero]
  unfold splS
  rw[h1,show ((i:Int)).toNat=i by omega,h2]
  rfl
 ·have he:x26 l p=x0e l p p:=by unfold x26;rw[if_pos hp]
  rw[he]
  exact⟨x0g hp,rfl⟩
 ·have he:x26 l p=6:=by unfold x26;rw[if_neg (by omega),if_pos ha]
  rw[he]
  exact⟨x0g (by decide),rfl⟩
theorem Split_calls {l:List Tok} {p:Int} (h:SchR w cb x02 x07) (hr:tokR.row w F A l) (hlc:l.length<=c) (hb:l.length<=1048576 * 4) :
 Calls Tryz.prog 42 #[.pointer (some ⟨cb,0,none⟩),.slice A l.length c,.int .i64 p] w (fun r w'=>∃ B' c',Told (toldS (splS l p) (x26 l p)) B' c' (x26 l p) w r w'/\(tokR.row w' (fun _=>True) B' (toldS (splS l p) (x26 l p)).sl/\(toldS (splS l p) (x26 l p)).sl.length<=c')/\(x26 l p ≠ 0->B'=none/\c'=0)):=
 (Split_new h hr hlc hb).mono fun r w' ⟨B',c',h1,⟨h2,h3⟩,h4⟩=>⟨B',c',h1,⟨Rp.x09 h2 (fun _ _=>trivial),h3⟩,h4⟩
theorem cells4 {k:Nat} {x0 x1 x2 x3:Value} {t:TypeId} (h:w.heap[k]?=some (.cells #[x0,x1,x2,x3] t (0,0))):w.cell? ⟨k,0,none⟩=some x0/\w.cell? ⟨k,1,none⟩=some x1/\w.cell? ⟨k,2,none⟩=some x2/\w.cell? ⟨k,3,none⟩=some x3:=by
 refine⟨?_,?_,?_,?_⟩ <;> simp[World.cell?,h]
def x1u (l:List Tok) (p t n:Int):Int:=if x0e l p p ≠ 0 then x0e l p p else if x04 l p < 0 then 6 else if x0p (openT t n)=false then 1 else x08 l (repl (x04 l p) (x04 l p+1) [openT t n])
theorem around_lt (l:List Tok) (p:Int):x04 l p < l.length:=by
 by_cases h:x04 l p=-1
 ·omega
 ·obtain⟨i,y,h1,h2,_,_⟩:=x20 h
  have:=(List.getElem?_eq_some_iff.1 h2).1
  omega
theorem open_right {t n:Int} (h:x0p (openT t n)=true):0 < t/\t < 16/\0<=n/\n < 16:=by
 have h:=of_decide_eq_true h
 rcases h with ⟨h,_⟩ | ⟨h,_⟩ | ⟨_,h1,h2,h3,h4,_⟩
 ·exact absurd (show (1:Int)=0 from h) (by decide)
 ·exact absurd (show (1:Int)=2 from h) (by decide)
 ·exact⟨h1,h2,h3,h4⟩
theorem open_wrong {t n:Int} (h:x0p (openT t n)=false):t < 1\/(¬ t < 1/\16<=t)\/(¬ t < 1/\¬ 16<=t/\n < 0)\/(¬ t < 1/\¬ 16<=t/\¬ n < 0/\15 < n):=by
 have h:=of_decide_eq_false h
 have:¬ (0 < t/\t < 16/\0<=n/\n < 16):=fun ⟨h1,h2,h3,h4⟩=>h (.inr (.inr ⟨.inl rfl,h1,h2,h3,h4,rfl⟩))
 omega
/-- May be joined here: what shuts is ahead, what opens is behind. -/
def joinAt (l:List Tok) (p:Int):Prop:=∃ (q:Nat) (x y:Tok),p=(q:Int)+1/\l[q]?=some x/\l[q+1]?=some y/\x.k=2/\y.k=1
theorem join_cases (l:List Tok) {p:Int} (h1:0<=p) (h2:p<=l.length):p=0\/(p ≠ 0/\p=l.length)\/∃ (q:Nat) (x y:Tok),p=(q:Int)+1/\l[q]?=some x/\l[q+1]?=some y:=by
 by_cases h3:p=0
 ·exact .inl h3
 ·by_cases h4:p=l.length
  ·exact .inr (.inl ⟨h3,h4⟩)
  ·refine .inr (.inr ⟨(p - 1).toNat,l[(p - 1).toNat]'(by omega),l[(p - 1).toNat+1]'(by omega),by omega,List.getElem?_eq_getElem _,List.getElem?_eq_getElem _⟩)
open Classical in
noncomputable def x22 (l:List Tok) (p:Int):Int:=if x0e l p p ≠ 0 then x0e l p p else if joinAt l p then x08 l (repl (p - 1) (p+1) []) else 6
end Go.Proofs.YtofjodppljnlaaaGreatDoor
namespace Go.Proofs.YtofjodppljnlaaaGreatDoor
open Go.RowKit
theorem Join_far {n:Nat} {p pe e:Int}
 (hp:∀ W,Pure w W->Calls Tryz.prog 83 #[deskV cb A n c,.int .i64 p,.int .i64 p] W (fun r w'=>r=.returned (.int .i64 pe)/\Pure W w'))
 (hn:(pe ≠ 0/\e=pe)\/(pe=0/\p=0/\e=6)\/(pe=0/\p ≠ 0/\p=(n:Int)/\e=6)) :
 Calls Tryz.prog 44 #[.pointer (some ⟨cb,0,none⟩),.slice A n c,.int .i64 p] w (Told (repl 0 0 []) none 0 e w):=by
 have HP:=mK hp
 clear hp
 unfold Told StepD.val repl at *
 rcases hn with ⟨p0,rfl⟩ | ⟨rfl,rfl,rfl⟩ | ⟨rfl,p1,rfl,rfl⟩
 ·have f0:(e != 0)=true:=by simpa using p0
  clear p0
  go_enter Tryz.func44,Tryz.ntmps44
  go_wp2_with (first | (go_at_call 84;refine(x0x _).mono ?_;rintro r w2 ⟨rfl,hu⟩;have HB2:=mK (kP hu HB1.o);have HU2:=mK (HU1.o.tt hu);clear hu;apply As.o) | (go_at_call 83;refine(HP.o _ (aP.alloc _)).mono ?_;rintro r w1 ⟨rfl,hu⟩;obtain⟨hb1,hb2,hu2⟩:=x0s hu;obtain⟨q0,q1⟩:=cells2 hb2;have HB1:=mK hb1;have HQ1:=mK hb2;have HU1:=mK hu2;clear hu hb1 hb2 hu2))
  refine⟨?_⟩
  have hbl:w.heap.size < w2.heap.size:=lB HB2.o
  have hcf:=fZ HB2.o
  obtain⟨k0,k1,k2,k3,k4,k5,k6,k7⟩:=x06 HB2.o
  go_wp2
  exact bodyPost_ret (step_end (rb:=w.heap.size) rfl _ rfl (set8 (rb:=w.heap.size) HB2.o _ _ _ _ _ _ _ _)) rfl ⟨rfl,x05 HU2.o (Nat.le_refl _) _ _ _ _ _ _ _ _⟩
 ·go_enter Tryz.func44,Tryz.ntmps44
  go_wp2_with (go_at_call 83;refine(HP.o _ (aP.alloc _)).mono ?_;rintro r w1 ⟨rfl,hu⟩;obtain⟨hb1,hb2,hu2⟩:=x0s hu;obtain⟨q0,q1⟩:=cells2 hb2;have HB1:=mK hb1;have HQ1:=mK hb2;have HU1:=mK hu2;clear hu hb1 hb2 hu2)
  refine wp_region_held_drew (S:=(fun _=>True)) (by kernel_rfl) ?_ (fun hHeld=>?_)
  ·trivial
  refine zH 0 ?_
  refine zH 1 ?_
  refine zH 2 ?_
  refine sH 3 ?_
  (try simp only[Act.put,sA,sB,sC])
  refine sH 4 ?_
  refine sH 5 ?_
  refine sH 6 ?_
  refine zH 7 ?_
  (try simp only[Act.put,sA,sB,sC])
  refine zH 8 ?_
  refine sH 9 ?_
  refine sH 10 ?_
  refine sH 11 ?_
  (try simp only[Act.put,sA,sB,sC])
  refine sH 12 ?_
  refine sH 13 ?_
  refine sH 14 ?_
  refine sH 15 ?_
  (try simp only[Act.put,sA,sB,sC])
  refine zH 16 ?_
  refine zH 17 ?_
  refine sH 18 ?_
  refine sH 19 ?_
  (try simp only[Act.put,sA,sB,sC])
  refine sH 20 ?_
  refine sH 21 ?_
  refine sH 22 ?_
  refine sH 23 ?_
  (try simp only[Act.put,sA,sB,sC])
  refine zH 24 ?_
  refine wpAnyH_done (by kernel_rfl) ?_ _
  go_wp2_with (go_at_call 84;refine(x0x _).mono ?_;rintro r w2 ⟨rfl,hu⟩;have HB2:=mK (kP hu HB1.o);have HU2:=mK (HU1.o.drew.tt hu);clear hu;apply As.o)
  refine⟨?_⟩
  have hbl:w.heap.size < w2.heap.size:=lB HB2.o
  have hcf:=fZ HB2.o
  obtain⟨k0,k1,k2,k3,k4,k5,k6,k7⟩:=x06 HB2.o
  go_wp2
  exact bodyPost_ret (step_end (rb:=w.heap.size) rfl _ rfl (set8 (rb:=w.heap.size) HB2.o _ _ _ _ _ _ _ _)) rfl ⟨rfl,x05 HU2.o (Nat.le_refl _) _ _ _ _ _ _ _ _⟩
 ·have j1:((n:Int) == 0)=false:=by simpa using p1
  have j2:(n == 0)=false:=by simp;omega
  clear p1
  go_enter Tryz.func44,Tryz.ntmps44
  go_wp2_with (go_at_call 83;refine(HP.o _ (aP.alloc _)).mono ?_;rintro r w1 ⟨rfl,hu⟩;obtain⟨hb1,hb2,hu2⟩:=x0s hu;obtain⟨q0,q1⟩:=cells2 hb2;have HB1:=mK hb1;have HQ1:=mK hb2;have HU1:=mK hu2;clear hu hb1 hb2 hu2)
  refine wp_region_held_drew (S:=(fun _=>True)) (by kernel_rfl) ?_ (fun hHeld=>?_)
  ·trivial
  refine zH 0 ?_
  refine zH 1 ?_
  refine zH 2 ?_
  (try simp only[Act.put,sA,sB,sC])
  refine zH 3 ?_
  refine zH 4 ?_
  refine zH 5 ?_
  refine zH 6 ?_
  (try simp only[Act.put,sA,sB,sC])
  refine zH 7 ?_
  refine zH 8 ?_
  refine sH 9 ?_
  refine sH 10 ?_
  (try simp only[Act.put,sA,sB,sC])
  refine sH 11 ?_
  refine sH 12 ?_
  refine sH 13 ?_
  refine sH 14 ?_
  (try simp only[Act.put,sA,sB,sC])
  refine sH 15 ?_
  refine zH 16 ?_
  refine zH 17 ?_
  refine sH 18 ?_
  (try simp only[Act.put,sA,sB,sC])
  refine sH 19 ?_
  refine sH 20 ?_
  refine sH 21 ?_
  refine sH 22 ?_
  (try simp only[Act.put,sA,sB,sC])
  refine sH 23 ?_
  refine zH 24 ?_
  refine wpAnyH_done (by kernel_rfl) ?_ _
  go_wp2_with (go_at_call 84;refine(x0x _).mono ?_;rintro r w2 ⟨rfl,hu⟩;have HB2:=mK (kP hu HB1.o);have HU2:=mK (HU1.o.drew.tt hu);clear hu;apply As.o)
  refine⟨?_⟩
  have hbl:w.heap.size < w2.heap.size:=lB HB2.o
  have hcf:=fZ HB2.o
  obtain⟨k0,k1,k2,k3,k4,k5,k6,k7⟩:=x06 HB2.o
  go_wp2
  exact bodyPost_ret (step_end (rb:=w.heap.size) rfl _ rfl (set8 (rb:=w.heap.size) HB2.o _ _ _ _ _ _ _ _)) rfl ⟨rfl,x05 HU2.o (Nat.le_refl _) _ _ _ _ _ _ _ _⟩
theorem Join_left {b o:Nat} {l:List Tok} {q m:Nat} {x:Tok} (hrow:tokR.row w F (some ⟨b,o,none⟩) l) (hm:m=q+1) (hq:l[q]?=some x) (hx:x ≠ shutT) (hml:m ≠ l.length) (hb:l.length<=1048576 * 4)
 (hp:∀ W,Pure w W->Calls Tryz.prog 83 #[deskV cb (some ⟨b,o,none⟩) l.length c,.int .i64 (m:Nat),.int .i64 (m:Nat)] W (fun r w'=>r=.returned (.int .i64 0)/\Pure W w')) :
 Calls Tryz.prog 44 #[.pointer (some ⟨cb,0,none⟩),.slice (some ⟨b,o,none⟩) l.length c,.int .i64 (m:Nat)] w (Told (repl 0 0 []) none 0 6 w):=by
 have HP:=mK hp
 obtain⟨b1,o1,hA,hF,hbl0,c0,c1,c2,c3⟩:=x0j hrow hq
 cases hA
 have HBL:=mK hbl0
 have HCS:=mK (And.intro c0 (And.intro c1 (And.intro c2 c3)))
 have hql:=(List.getElem?_eq_some_iff.1 hq).1
 have j1:((m:Int) == 0)=false:=by simp;omega
 have j2:((m:Int) == (l.length:Int))=false:=by simp;omega
 have j3:(m == l.length)=false:=by simpa using hml
 have j4:(m == 0)=false:=by simp;omega
 have i3:q < l.length:=hql
 have hw1:IntKind.i64.wrap ((m:Int) - 1)=(q:Int):=by rw[IntWalk.i64_in _ (by omega)];omega
 have hne:=tok_diff hx
 clear hp hrow hq hF hbl0 c0 c1 c2 c3 hm hql hml hx
 unfold Told StepD.val repl at *
 rcases hne with h9 | ⟨h8,h9⟩ | ⟨h8,h7,h9⟩ | ⟨h8,h7,h6,h9⟩
 ·have n1:(x.k == 2)=false:=by simpa[shutT] using h9
  clear h9
  go_enter Tryz.func44,Tryz.ntmps44
  go_wp2_with (go_at_call 83;refine(HP.o _ (aP.alloc _)).mono ?_;rintro r w1 ⟨rfl,hu⟩;obtain⟨hb1,hb2,hu2⟩:=x0s hu;obtain⟨q0,q1⟩:=cells2 hb2;have HB1:=mK hb1;have HQ1:=mK hb2;have HU1:=mK hu2;clear hu hb1 hb2 hu2)
  have HK8:=mK (fun v (hu:Pure w1 v)=>(by
   obtain⟨e0,e1,e2,e3⟩:=HCS.o
   have hb9:=HBL.o
   have hh:∀ k,v.cell? ⟨b,k,none⟩=w.cell? ⟨b,k,none⟩:=fun k=>(hu.cell (Nat.lt_of_lt_of_le hb9 HU1.o.size) (fun h=>h)).trans (HU1.o.cell hb9 (fun h=>h))
   exact⟨(hh _).trans e0,(hh _).trans e1,(hh _).trans e2,(hh _).trans e3⟩:(fun v=>v.cell? ⟨b,o+q * 4,none⟩=some (.int .i64 x.k)/\v.cell? ⟨b,o+q * 4+1,none⟩=some (.int .i64 x.t)/\v.cell? ⟨b,o+q * 4+2,none⟩=some (.int .i64 x.n)/\v.cell? ⟨b,o+q * 4+3,none⟩=some (.int .i64 x.m)) v))
  refine wp_region_held_drew (S:=(fun v=>v.cell? ⟨b,o+q * 4,none⟩=some (.int .i64 x.k)/\v.cell? ⟨b,o+q * 4+1,none⟩=some (.int .i64 x.t)/\v.cell? ⟨b,o+q * 4+2,none⟩=some (.int .i64 x.n)/\v.cell? ⟨b,o+q * 4+3,none⟩=some (.int .i64 x.m))) (by kernel_rfl) ?_ (fun hHeld=>?_)
  ·with_reducible (first | exact HK8.o _ rU.drew | exact HK8.o _ HP3.o)
  refine zH 0 ?_
  refine zH 1 ?_
  (try simp only[Act.put,sA,sB,sC])
  refine zH 2 ?_
  refine zH 3 ?_
  refine zH 4 ?_
  refine zH 5 ?_
  (try simp only[Act.put,sA,sB,sC])
  refine zH 6 ?_
  refine zH 7 ?_
  refine zH 8 ?_
  refine zH 9 ?_
  (try simp only[Act.put,sA,sB,sC])
  refine zH 10 ?_
  refine zH 11 ?_
  refine zH 12 ?_
  refine zH 13 ?_
  (try simp only[Act.put,sA,sB,sC])
  refine wpAnyH_ready (rs:=[14]) (by kernel_rfl) (by simp) (AllReadyH.cons (by exact opAt rfl) (fun K hK=>?_) AllReadyH.nil)
  go_simp
  (go_at_call 93;refine(x2q _).mono ?_;rintro r w3 ⟨rfl,hu3⟩;have HP3:=mK (rU.drew.tt hu3);have HU3:=mK (HU1.o.tt HP3.o);have HB3:=mK (kP HP3.o HB1.o);clear hu3)
  refine hK.out _ _ (by with_reducible (first | exact HK8.o _ rU.drew | exact HK8.o _ HP3.o)) (fun hHeld=>?_)
  clear hK K
  (try simp only[Act.put,sA,sB,sC])
  refine zH 15 ?_
  refine zH 16 ?_
  refine zH 17 ?_
  refine sH 18 ?_
  refine sH 19 ?_
  refine sH 20 ?_
  refine sH 21 ?_
  (try simp only[Act.put,sA,sB,sC])
  refine sH 22 ?_
  refine sH 23 ?_
  refine zH 24 ?_
  refine wpAnyH_done (by kernel_rfl) ?_ _
  go_wp2_with (go_at_call 84;refine(x0x _).mono ?_;rintro r w2 ⟨rfl,hu⟩;have HB2:=mK (kP hu HB3.o);have HU2:=mK (HU3.o.tt hu);clear hu;apply As.o)
  refine⟨?_⟩
  have hbl:w.heap.size < w2.heap.size:=lB HB2.o
  have hcf:=fZ HB2.o
  obtain⟨k0,k1,k2,k3,k4,k5,k6,k7⟩:=x06 HB2.o
  go_wp2
  exact bodyPost_ret (step_end (rb:=w.heap.size) rfl _ rfl (set8 (rb:=w.heap.size) HB2.o _ _ _ _ _ _ _ _)) rfl ⟨rfl,x05 HU2.o (Nat.le_refl _) _ _ _ _ _ _ _ _⟩
 ·have n0:x.k=2:=h8
  have n1:(x.t == 0)=false:=by simpa[shutT] using h9
  rw[n0] at HCS
  clear h9 h8 n0
  go_enter Tryz.func44,Tryz.ntmps44
  go_wp2_with (go_at_call 83;refine(HP.o _ (aP.alloc _)).mono ?_;rintro r w1 ⟨rfl,hu⟩;obtain⟨hb1,hb2,hu2⟩:=x0s hu;obtain⟨q0,q1⟩:=cells2 hb2;have HB1:=mK hb1;have HQ1:=mK hb2;have HU1:=mK hu2;clear hu hb1 hb2 hu2)
  have HK8:=mK (fun v (hu:Pure w1 v)=>(by
   obtain⟨e0,e1,e2,e3⟩:=HCS.o
   have hb9:=HBL.o
   have hh:∀ k,v.cell? ⟨b,k,none⟩=w.cell? ⟨b,k,none⟩:=fun k=>(hu.cell (Nat.lt_of_lt_of_le hb9 HU1.o.size) (fun h=>h)).trans (HU1.o.cell hb9 (fun h=>h))
   exact⟨(hh _).trans e0,(hh _).trans e1,(hh _).trans e2,(hh _).trans e3⟩:(fun v=>v.cell? ⟨b,o+q * 4,none⟩=some (.int .i64 2)/\v.cell? ⟨b,o+q * 4+1,none⟩=some (.int .i64 x.t)/\v.cell? ⟨b,o+q * 4+2,none⟩=some (.int .i64 x.n)/\v.cell? ⟨b,o+q * 4+3,none⟩=some (.int .i64 x.m)) v))
  refine wp_region_held_drew (S:=(fun v=>v.cell? ⟨b,o+q * 4,none⟩=some (.int .i64 2)/\v.cell? ⟨b,o+q * 4+1,none⟩=some (.int .i64 x.t)/\v.cell? ⟨b,o+q * 4+2,none⟩=some (.int .i64 x.n)/\v.cell? ⟨b,o+q * 4+3,none⟩=some (.int .i64 x.m))) (by kernel_rfl) ?_ (fun hHeld=>?_)
  ·with_reducible (first | exact HK8.o _ rU.drew | exact HK8.o _ HP3.o)
  refine zH 0 ?_
  (try simp only[Act.put,sA,sB,sC])
  refine zH 1 ?_
  refine zH 2 ?_
  refine zH 3 ?_
  refine zH 4 ?_
  (try simp only[Act.put,sA,sB,sC])
  refine zH 5 ?_
  refine zH 6 ?_
  refine zH 7 ?_
  refine zH 8 ?_
  (try simp only[Act.put,sA,sB,sC])
  refine zH 9 ?_
  refine zH 10 ?_
  refine zH 11 ?_
  refine zH 12 ?_
  (try simp only[Act.put,sA,sB,sC])
  refine zH 13 ?_
  refine wpAnyH_ready (rs:=[14]) (by kernel_rfl) (by simp) (AllReadyH.cons (by exact opAt rfl) (fun K hK=>?_) AllReadyH.nil)
  go_simp
  (go_at_call 93;refine(x2q _).mono ?_;rintro r w3 ⟨rfl,hu3⟩;have HP3:=mK (rU.drew.tt hu3);have HU3:=mK (HU1.o.tt HP3.o);have HB3:=mK (kP HP3.o HB1.o);clear hu3)
  refine hK.out _ _ (by with_reducible (first | exact HK8.o _ rU.drew | exact HK8.o _ HP3.o)) (fun hHeld=>?_)
  clear hK K
  (try simp only[Act.put,sA,sB,sC])
  refine zH 15 ?_
  refine zH 16 ?_
  refine zH 17 ?_
  refine sH 18 ?_
  refine sH 19 ?_
  refine sH 20 ?_
  (try simp only[Act.put,sA,sB,sC])
  refine sH 21 ?_
  refine sH 22 ?_
  refine sH 23 ?_
  refine zH 24 ?_
  (try simp only[Act.put,sA,sB,sC])
  refine wpAnyH_done (by kernel_rfl) ?_ _
  go_wp2_with (go_at_call 84;refine(x0x _).mono ?_;rintro r w2 ⟨rfl,hu⟩;have HB2:=mK (kP hu HB3.o);have HU2:=mK (HU3.o.tt hu);clear hu;apply As.o)
  refine⟨?_⟩
  have hbl:w.heap.size < w2.heap.size:=lB HB2.o
  have hcf:=fZ HB2.o
  obtain⟨k0,k1,k2,k3,k4,k5,k6,k7⟩:=x06 HB2.o
  go_wp2
  exact bodyPost_ret (step_end (rb:=w.heap.size) rfl _ rfl (set8 (rb:=w.heap.size) HB2.o _ _ _ _ _ _ _ _)) rfl ⟨rfl,x05 HU2.o (Nat.le_refl _) _ _ _ _ _ _ _ _⟩
 ·have n0:x.k=2:=h8
  have n2:x.t=0:=h7
  have n1:(x.n == 0)=false:=by simpa[shutT] using h9
  rw[n0,n2] at HCS
  clear h9 h8 h7 n0 n2
  go_enter Tryz.func44,Tryz.ntmps44
  go_wp2_with (go_at_call 83;refine(HP.o _ (aP.alloc _)).mono ?_;rintro r w1 ⟨rfl,hu⟩;obtain⟨hb1,hb2,hu2⟩:=x0s hu;obtain⟨q0,q1⟩:=cells2 hb2;have HB1:=mK hb1;have HQ1:=mK hb2;have HU1:=mK hu2;clear hu hb1 hb2 hu2)
  have HK8:=mK (fun v (hu:Pure w1 v)=>(by
   obtain⟨e0,e1,e2,e3⟩:=HCS.o
   have hb9:=HBL.o
   have hh:∀ k,v.cell? ⟨b,k,none⟩=w.cell? ⟨b,k,none⟩:=fun k=>(hu.cell (Nat.lt_of_lt_of_le hb9 HU1.o.size) (fun h=>h)).trans (HU1.o.cell hb9 (fun h=>h))
   exact⟨(hh _).trans e0,(hh _).trans e1,(hh _).trans e2,(hh _).trans e3⟩:(fun v=>v.cell? ⟨b,o+q * 4,none⟩=some (.int .i64 2)/\v.cell? ⟨b,o+q * 4+1,none⟩=some (.int .i64 0)/\v.cell? ⟨b,o+q * 4+2,none⟩=some (.int .i64 x.n)/\v.cell? ⟨b,o+q * 4+3,none⟩=some (.int .i64 x.m)) v))
  refine wp_region_held_drew (S:=(fun v=>v.cell? ⟨b,o+q * 4,none⟩=some (.int .i64 2)/\v.cell? ⟨b,o+q * 4+1,none⟩=some (.int .i64 0)/\v.cell? ⟨b,o+q * 4+2,none⟩=some (.int .i64 x.n)/\v.cell? ⟨b,o+q * 4+3,none⟩=some (.int .i64 x.m))) (by kernel_rfl) ?_ (fun hHeld=>?_)
  ·with_reducible (first | exact HK8.o _ rU.drew | exact HK8.o _ HP3.o)
  refine zH 0 ?_
  refine zH 1 ?_
  refine zH 2 ?_
  refine zH 3 ?_
  (try simp only[Act.put,sA,sB,sC])
  refine zH 4 ?_
  refine zH 5 ?_
  refine zH 6 ?_
  refine zH 7 ?_
  (try simp only[Act.put,sA,sB,sC])
  refine zH 8 ?_
  refine zH 9 ?_
  refine zH 10 ?_
  refine zH 11 ?_
  (try simp only[Act.put,sA,sB,sC])
  refine zH 12 ?_
  refine zH 13 ?_
  refine wpAnyH_ready (rs:=[14]) (by kernel_rfl) (by simp) (AllReadyH.cons (by exact opAt rfl) (fun K hK=>?_) AllReadyH.nil)
  go_simp
  (go_at_call 93;refine(x2q _).mono ?_;rintro r w3 ⟨rfl,hu3⟩;have HP3:=mK (rU.drew.tt hu3);have HU3:=mK (HU1.o.tt HP3.o);have HB3:=mK (kP HP3.o HB1.o);clear hu3)
  refine hK.out _ _ (by with_reducible (first | exact HK8.o _ rU.drew | exact HK8.o _ HP3.o)) (fun hHeld=>?_)
  clear hK K
  (try simp only[Act.put,sA,sB,sC])
  refine zH 15 ?_
  refine zH 16 ?_
  refine zH 17 ?_
  refine sH 18 ?_
  refine sH 19 ?_
  (try simp only[Act.put,sA,sB,sC])
  refine sH 20 ?_
  refine sH 21 ?_
  refine sH 22 ?_
  refine sH 23 ?_
  (try simp only[Act.put,sA,sB,sC])
  refine zH 24 ?_
  refine wpAnyH_done (by kernel_rfl) ?_ _
  go_wp2_with (go_at_call 84;refine(x0x _).mono ?_;rintro r w2 ⟨rfl,hu⟩;have HB2:=mK (kP hu HB3.o);have HU2:=mK (HU3.o.tt hu);clear hu;apply As.o)
  refine⟨?_⟩
  have hbl:w.heap.size < w2.heap.size:=lB HB2.o
  have hcf:=fZ HB2.o
  obtain⟨k0,k1,k2,k3,k4,k5,k6,k7⟩:=x06 HB2.o
  go_wp2
  exact bodyPost_ret (step_end (rb:=w.heap.size) rfl _ rfl (set8 (rb:=w.heap.size) HB2.o _ _ _ _ _ _ _ _)) rfl ⟨rfl,x05 HU2.o (Nat.le_refl _) _ _ _ _ _ _ _ _⟩
 ·have n0:x.k=2:=h8
  have n2:x.t=0:=h7
  have n3:x.n=0:=h6
  have n1:(x.m == 0)=false:=by simpa[shutT] using h9
  rw[n0,n2,n3] at HCS
  clear h9 h8 h7 h6 n0 n2 n3
  go_enter Tryz.func44,Tryz.ntmps44
  go_wp2_with (go_at_call 83;refine(HP.o _ (aP.alloc _)).mono ?_;rintro r w1 ⟨rfl,hu⟩;obtain⟨hb1,hb2,hu2⟩:=x0s hu;obtain⟨q0,q1⟩:=cells2 hb2;have HB1:=mK hb1;have HQ1:=mK hb2;have HU1:=mK hu2;clear hu hb1 hb2 hu2)
  have HK8:=mK (fun v (hu:Pure w1 v)=>(by
   obtain⟨e0,e1,e2,e3⟩:=HCS.o
   have hb9:=HBL.o
   have hh:∀ k,v.cell? ⟨b,k,none⟩=w.cell? ⟨b,k,none⟩:=fun k=>(hu.cell (Nat.lt_of_lt_of_le hb9 HU1.o.size) (fun h=>h)).trans (HU1.o.cell hb9 (fun h=>h))
   exact⟨(hh _).trans e0,(hh _).trans e1,(hh _).trans e2,(hh _).trans e3⟩:(fun v=>v.cell? ⟨b,o+q * 4,none⟩=some (.int .i64 2)/\v.cell? ⟨b,o+q * 4+1,none⟩=some (.int .i64 0)/\v.cell? ⟨b,o+q * 4+2,none⟩=some (.int .i64 0)/\v.cell? ⟨b,o+q * 4+3,none⟩=some (.int .i64 x.m)) v))
  refine wp_region_held_drew (S:=(fun v=>v.cell? ⟨b,o+q * 4,none⟩=some (.int .i64 2)/\v.cell? ⟨b,o+q * 4+1,none⟩=some (.int .i64 0)/\v.cell? ⟨b,o+q * 4+2,none⟩=some (.int .i64 0)/\v.cell? ⟨b,o+q * 4+3,none⟩=some (.int .i64 x.m))) (by kernel_rfl) ?_ (fun hHeld=>?_)
  ·with_reducible (first | exact HK8.o _ rU.drew | exact HK8.o _ HP3.o)
  refine zH 0 ?_
  refine zH 1 ?_
  refine zH 2 ?_
  (try simp only[Act.put,sA,sB,sC])
  refine zH 3 ?_
  refine zH 4 ?_
  refine zH 5 ?_
  refine zH 6 ?_
  (try simp only[Act.put,sA,sB,sC])
  refine zH 7 ?_
  refine zH 8 ?_
  refine zH 9 ?_
  refine zH 10 ?_
  (try simp only[Act.put,sA,sB,sC])
  refine zH 11 ?_
  refine zH 12 ?_
  refine zH 13 ?_
  refine wpAnyH_ready (rs:=[14]) (by kernel_rfl) (by simp) (AllReadyH.cons (by exact opAt rfl) (fun K hK=>?_) AllReadyH.nil)
  go_simp
  (go_at_call 93;refine(x2q _).mono ?_;rintro r w3 ⟨rfl,hu3⟩;have HP3:=mK (rU.drew.tt hu3);have HU3:=mK (HU1.o.tt HP3.o);have HB3:=mK (kP HP3.o HB1.o);clear hu3)
  refine hK.out _ _ (by with_reducible (first | exact HK8.o _ rU.drew | exact HK8.o _ HP3.o)) (fun hHeld=>?_)
  clear hK K
  (try simp only[Act.put,sA,sB,sC])
  refine zH 15 ?_
  refine zH 16 ?_
  refine zH 17 ?_
  refine sH 18 ?_
  (try simp only[Act.put,sA,sB,sC])
  refine sH 19 ?_
  refine sH 20 ?_
  refine sH 21 ?_
  refine sH 22 ?_
  (try simp only[Act.put,sA,sB,sC])
  refine sH 23 ?_
  refine zH 24 ?_
  refine wpAnyH_done (by kernel_rfl) ?_ _
  go_wp2_with (go_at_call 84;refine(x0x _).mono ?_;rintro r w2 ⟨rfl,hu⟩;have HB2:=mK (kP hu HB3.o);have HU2:=mK (HU3.o.tt hu);clear hu;apply As.o)
  refine⟨?_⟩
  have hbl:w.heap.size < w2.heap.size:=lB HB2.o
  have hcf:=fZ HB2.o
  obtain⟨k0,k1,k2,k3,k4,k5,k6,k7⟩:=x06 HB2.o
  go_wp2
  exact bodyPost_ret (step_end (rb:=w.heap.size) rfl _ rfl (set8 (rb:=w.heap.size) HB2.o _ _ _ _ _ _ _ _)) rfl ⟨rfl,x05 HU2.o (Nat.le_refl _) _ _ _ _ _ _ _ _⟩
theorem Join_right {b o:Nat} {l:List Tok} {q m:Nat} {y:Tok} (hrow:tokR.row w F (some ⟨b,o,none⟩) l) (hm:m=q+1) (hq:l[q]?=some shutT) (hy:l[m]?=some y) (hyk:y.k ≠ 1) (hb:l.length<=1048576 * 4)
 (hp:∀ W,Pure w W->Calls Tryz.prog 83 #[deskV cb (some ⟨b,o,none⟩) l.length c,.int .i64 (m:Nat),.int .i64 (m:Nat)] W (fun r w'=>r=.returned (.int .i64 0)/\Pure W w')) :
 Calls Tryz.prog 44 #[.pointer (some ⟨cb,0,none⟩),.slice (some ⟨b,o,none⟩) l.length c,.int .i64 (m:Nat)] w (Told (repl 0 0 []) none 0 6 w):=by
 have HP:=mK hp
 obtain⟨b1,o1,hA,hF,hbl0,c0,c1,c2,c3⟩:=x0j hrow hq
 obtain⟨b2,o2,hA2,_,_,d0,_,_,_⟩:=x0j hrow hy
 cases hA
 cases hA2
 have ml:m < l.length:=(List.getElem?_eq_some_iff.1 hy).1
 have HBL:=mK hbl0
 have HCS:=mK (And.intro c0 (And.intro c1 (And.intro c2 (And.intro c3 d0))))
 have i3:q < l.length:=by omega
 have j1:((m:Int) == 0)=false:=by simp;omega
 have j2:((m:Int) == (l.length:Int))=false:=by simp;omega
 have j3:(m == l.length)=false:=by simp;omega
 have j4:(m == 0)=false:=by simp;omega
 have j5:(y.k != 1)=true:=by simpa using hyk
 have hw1:IntKind.i64.wrap ((m:Int) - 1)=(q:Int):=by rw[IntWalk.i64_in _ (by omega)];omega
 clear hp hrow hq hy hyk hF hbl0 c0 c1 c2 c3 d0 hm
 unfold Told StepD.val repl at *
 go_enter Tryz.func44,Tryz.ntmps44
 go_wp2_with (go_at_call 83;refine(HP.o _ (aP.alloc _)).mono ?_;rintro r w1 ⟨rfl,hu⟩;obtain⟨hb1,hb2,hu2⟩:=x0s hu;obtain⟨q0,q1⟩:=cells2 hb2;have HB1:=mK hb1;have HQ1:=mK hb2;have HU1:=mK hu2;clear hu hb1 hb2 hu2)
 have HK8:=mK (fun v (hu:Pure w1 v)=>(by
  obtain⟨e0,e1,e2,e3,e4⟩:=HCS.o
  have hb9:=HBL.o
  have hh:∀ k,v.cell? ⟨b,k,none⟩=w.cell? ⟨b,k,none⟩:=fun k=>(hu.cell (Nat.lt_of_lt_of_le hb9 HU1.o.size) (fun h=>h)).trans (HU1.o.cell hb9 (fun h=>h))
  exact⟨(hh _).trans e0,(hh _).trans e1,(hh _).trans e2,(hh _).trans e3,(hh _).trans e4⟩:(fun v=>v.cell? ⟨b,o+q * 4,none⟩=some (.int .i64 2)/\v.cell? ⟨b,o+q * 4+1,none⟩=some (.int .i64 0)/\v.cell? ⟨b,o+q * 4+2,none⟩=some (.int .i64 0)/\v.cell? ⟨b,o+q * 4+3,none⟩=some (.int .i64 0)/\v.cell? ⟨b,o+m * 4,none⟩=some (.int .i64 y.k)) v))
 refine wp_region_held_drew (S:=(fun v=>v.cell? ⟨b,o+q * 4,none⟩=some (.int .i64 2)/\v.cell? ⟨b,o+q * 4+1,none⟩=some (.int .i64 0)/\v.cell? ⟨b,o+q * 4+2,none⟩=some (.int .i64 0)/\v.cell? ⟨b,o+q * 4+3,none⟩=some (.int .i64 0)/\v.cell? ⟨b,o+m * 4,none⟩=some (.int .i64 y.k))) (by kernel_rfl) ?_ (fun hHeld=>?_)
 ·with_reducible (first | exact HK8.o _ rU.drew | exact HK8.o _ HP3.o)
 refine zH 0 ?_
 refine zH 1 ?_
 (try simp only[Act.put,sA,sB,sC])
 refine zH 2 ?_
 refine zH 3 ?_
 refine zH 4 ?_
 refine zH 5 ?_
 (try simp only[Act.put,sA,sB,sC])
 refine zH 6 ?_
 refine zH 7 ?_
 refine zH 8 ?_
 refine zH 9 ?_
 (try simp only[Act.put,sA,sB,sC])
 refine zH 10 ?_
 refine zH 11 ?_
 refine zH 12 ?_
 refine zH 13 ?_
 (try simp only[Act.put,sA,sB,sC])
 refine wpAnyH_ready (rs:=[14]) (by kernel_rfl) (by simp) (AllReadyH.cons (by exact opAt rfl) (fun K hK=>?_) AllReadyH.nil)
 go_simp
 (go_at_call 93;refine(x2q _).mono ?_;rintro r w3 ⟨rfl,hu3⟩;have HP3:=mK (rU.drew.tt hu3);have HU3:=mK (HU1.o.tt HP3.o);have HB3:=mK (kP HP3.o HB1.o);clear hu3)
 refine hK.out _ _ (by with_reducible (first | exact HK8.o _ rU.drew | exact HK8.o _ HP3.o)) (fun hHeld=>?_)
 clear hK K
 (try simp only[Act.put,sA,sB,sC])
 refine zH 15 ?_
 refine zH 16 ?_
 refine zH 17 ?_
 refine zH 18 ?_
 refine zH 19 ?_
 refine zH 20 ?_
 refine zH 21 ?_
 (try simp only[Act.put,sA,sB,sC])
 refine zH 22 ?_
 refine zH 23 ?_
 refine zH 24 ?_
 refine wpAnyH_done (by kernel_rfl) ?_ _
 go_wp2_with (go_at_call 84;refine(x0x _).mono ?_;rintro r w2 ⟨rfl,hu⟩;have HB2:=mK (kP hu HB3.o);have HU2:=mK (HU3.o.tt hu);clear hu;apply As.o)
 refine⟨?_⟩
 have hbl:w.heap.size < w2.heap.size:=lB HB2.o
 have hcf:=fZ HB2.o
 obtain⟨k0,k1,k2,k3,k4,k5,k6,k7⟩:=x06 HB2.o
 go_wp2
 exact bodyPost_ret (step_end (rb:=w.heap.size) rfl _ rfl (set8 (rb:=w.heap.size) HB2.o _ _ _ _ _ _ _ _)) rfl ⟨rfl,x05 HU2.o (Nat.le_refl _) _ _ _ _ _ _ _ _⟩
theorem Join_go {b o:Nat} {l:List Tok} {q m:Nat} {y:Tok} {e:Int} {s':StepD} (hrow:tokR.row w F (some ⟨b,o,none⟩) l) (hm:m=q+1) (hq:l[q]?=some shutT) (hy:l[m]?=some y) (hyk:y.k=1) (hb:l.length<=1048576 * 4)
 (hp:∀ W,Pure w W->Calls Tryz.prog 83 #[deskV cb (some ⟨b,o,none⟩) l.length c,.int .i64 (m:Nat),.int .i64 (m:Nat)] W (fun r w'=>r=.returned (.int .i64 0)/\Pure W w'))
 (hr:∀ W,Pure w W->Calls Tryz.prog 85 #[deskV cb (some ⟨b,o,none⟩) l.length c,.int .i64 (q:Nat),.int .i64 ((m:Nat)+1),.slice none 0 0] W (Told s' none 0 e W)) :
 Calls Tryz.prog 44 #[.pointer (some ⟨cb,0,none⟩),.slice (some ⟨b,o,none⟩) l.length c,.int .i64 (m:Nat)] w (Told s' none 0 e w):=by
 have HP:=mK hp
 have HR:=mK hr
 obtain⟨b1,o1,hA,hF,hbl0,c0,c1,c2,c3⟩:=x0j hrow hq
 obtain⟨b2,o2,hA2,_,_,d0,_,_,_⟩:=x0j hrow hy
 cases hA
 cases hA2
 rw[hyk] at d0
 have ml:m < l.length:=(List.getElem?_eq_some_iff.1 hy).1
 have HBL:=mK hbl0
 have HCS:=mK (And.intro c0 (And.intro c1 (And.intro c2 (And.intro c3 d0))))
 have i1:¬ ((m:Int)=0):=by omega
 have i2:¬ ((m:Int)=(l.length:Int)):=by omega
 have i3:q < l.length:=by omega
 have j1:((m:Int) == 0)=false:=by simpa using i1
 have j2:((m:Int) == (l.length:Int))=false:=by simp;omega
 have hw1:IntKind.i64.wrap ((m:Int) - 1)=(q:Int):=by rw[IntWalk.i64_in _ (by omega)];omega
 have hw2:IntKind.i64.wrap ((m:Int)+1)=(m:Int)+1:=IntWalk.i64_in _ (by omega)
 clear hp hr hrow hq hy hyk hF hbl0 c0 c1 c2 c3 d0 hm
 unfold Told StepD.val at *
 go_enter Tryz.func44,Tryz.ntmps44
 go_wp2_with (go_at_call 83;refine(HP.o _ (aP.alloc _)).mono ?_;rintro r w1 ⟨rfl,hu⟩;obtain⟨hb1,hb2,hu2⟩:=x0s hu;obtain⟨q0,q1⟩:=cells2 hb2;have HB1:=mK hb1;have HQ1:=mK hb2;have HU1:=mK hu2;clear hu hb1 hb2 hu2)
 have HK8:=mK (fun v (hu:Pure w1 v)=>(by
  obtain⟨e0,e1,e2,e3,e4⟩:=HCS.o
  have hb9:=HBL.o
  have hh:∀ k,v.cell? ⟨b,k,none⟩=w.cell? ⟨b,k,none⟩:=fun k=>(hu.cell (Nat.lt_of_lt_of_le hb9 HU1.o.size) (fun h=>h)).trans (HU1.o.cell hb9 (fun h=>h))
  exact⟨(hh _).trans e0,(hh _).trans e1,(hh _).trans e2,(hh _).trans e3,(hh _).trans e4⟩:v.cell? ⟨b,o+q * 4,none⟩=some (.int .i64 2)/\v.cell? ⟨b,o+q * 4+1,none⟩=some (.int .i64 0)/\v.cell? ⟨b,o+q * 4+2,none⟩=some (.int .i64 0)/\v.cell? ⟨b,o+q * 4+3,none⟩=some (.int .i64 0)/\v.cell? ⟨b,o+m * 4,none⟩=some (.int .i64 1)))
 refine wp_region_held_drew (S:=(fun v=>v.cell? ⟨b,o+q * 4,none⟩=some (.int .i64 2)/\v.cell? ⟨b,o+q * 4+1,none⟩=some (.int .i64 0)/\v.cell? ⟨b,o+q * 4+2,none⟩=some (.int .i64 0)/\v.cell? ⟨b,o+q * 4+3,none⟩=some (.int .i64 0)/\v.cell? ⟨b,o+m * 4,none⟩=some (.int .i64 1))) (by kernel_rfl) ?_ (fun hHeld=>?_)
 ·with_reducible (first | exact HK8.o _ rU.drew | exact HK8.o _ HP3.o)
 refine zH 0 ?_
 (try simp only[Act.put,sA,sB,sC])
 refine zH 1 ?_
 refine zH 2 ?_
 refine zH 3 ?_
 refine zH 4 ?_
 (try simp only[Act.put,sA,sB,sC])
 refine zH 5 ?_
 refine zH 6 ?_
 refine zH 7 ?_
 refine zH 8 ?_
 (try simp only[Act.put,sA,sB,sC])
 refine zH 9 ?_
 refine zH 10 ?_
 refine zH 11 ?_
 refine zH 12 ?_
 (try simp only[Act.put,sA,sB,sC])
 refine zH 13 ?_
 refine wpAnyH_ready (rs:=[14]) (by kernel_rfl) (by simp) (AllReadyH.cons (by exact opAt rfl) (fun K hK=>?_) AllReadyH.nil)
 go_simp
 (go_at_call 93;refine(x2q _).mono ?_;rintro r w3 ⟨rfl,hu3⟩;have HP3:=mK (rU.drew.tt hu3);have HU3:=mK (HU1.o.tt HP3.o);have HB3:=mK (kP HP3.o HB1.o);obtain⟨z0,z1⟩:=cells2 (kP HP3.o HQ1.o);clear hu3)
 refine hK.out _ _ (by with_reducible (first | exact HK8.o _ rU.drew | exact HK8.o _ HP3.o)) (fun hHeld=>?_)
 clear hK K
 (try simp only[Act.put,sA,sB,sC])
 refine zH 15 ?_
 refine zH 16 ?_
 refine zH 17 ?_
 refine zH 18 ?_
 refine zH 19 ?_
 refine zH 20 ?_
 (try simp only[Act.put,sA,sB,sC])
 refine zH 21 ?_
 refine zH 22 ?_
 refine zH 23 ?_
 refine zH 24 ?_
 (try simp only[Act.put,sA,sB,sC])
 refine wpAnyH_done (by kernel_rfl) ?_ _
 go_wp2_with (go_at_call 85;refine(HR.o _ HU3.o).mono ?_;rintro r w2 ⟨rfl,hu⟩;have HB2:=mK (kP hu HB3.o);have HU2:=mK (HU3.o.tt hu);clear hu;apply As.o)
 refine⟨?_⟩
 have hbl:w.heap.size < w2.heap.size:=lB HB2.o
 have hcf:=fZ HB2.o
 obtain⟨k0,k1,k2,k3,k4,k5,k6,k7⟩:=x06 HB2.o
 go_wp2
 exact bodyPost_ret (step_end (rb:=w.heap.size) rfl _ rfl (set8 (rb:=w.heap.size) HB2.o _ _ _ _ _ _ _ _)) rfl ⟨rfl,x05 HU2.o (Nat.le_refl _) _ _ _ _ _ _ _ _⟩
theorem shut_of {x:Tok} (h:x0p x=true) (hk:x.k=2):x=shutT:=by
 have h:=of_decide_eq_true h
 obtain⟨k,t,n,m⟩:=x
 obtain rfl:k=2:=hk
 rcases h with ⟨h,_⟩ | ⟨_,h1,h2,h3⟩ | ⟨h | h,_⟩
 ·exact absurd (show (2:Int)=0 from h) (by decide)
 ·obtain rfl:t=0:=h1
  obtain rfl:n=0:=h2
  obtain rfl:m=0:=h3
  rfl
 ·exact absurd (show (2:Int)=1 from h) (by decide)
 ·exact absurd (show (2:Int)=3 from h) (by decide)
theorem Lift12_nn {bA oA:Nat} {b q:Nat} {l:List Tok} {y:Tok} {p pb pq e:Int} {s':StepD}
 (hp:∀ W,Pure w W->Calls Tryz.prog 86 #[.pointer (some ⟨cb,0,none⟩),.slice (some ⟨bA,oA,none⟩) l.length c,.int .i64 p,.int .i64 p] W (fun r w'=>r=.returned (.int .i64 0)/\Pure W w'))
 (ha1:∀ W,Pure w W->Calls Tryz.prog 74 #[.slice (some ⟨bA,oA,none⟩) l.length c,.int .i64 p] W (fun r w'=>r=.returned (.int .i64 (b:Nat))/\Pure W w'))
 (ha2:∀ W,Pure w W->Calls Tryz.prog 74 #[.slice (some ⟨bA,oA,none⟩) l.length c,.int .i64 (b:Nat)] W (fun r w'=>r=.returned (.int .i64 (q:Nat))/\Pure W w'))
 (hp1:∀ W,Pure w W->Calls Tryz.prog 77 #[.slice (some ⟨bA,oA,none⟩) l.length c,.int .i64 (b:Nat)] W (fun r w'=>r=.returned (.int .i64 pb)/\Pure W w'))
 (hp2:∀ W,Pure w W->Calls Tryz.prog 77 #[.slice (some ⟨bA,oA,none⟩) l.length c,.int .i64 (q:Nat)] W (fun r w'=>r=.returned (.int .i64 pq)/\Pure W w'))
 (hrow:tokR.row w F (some ⟨bA,oA,none⟩) l) (hnb:l.length<=1048576 * 4) (hbl:b < l.length) (hy:l[q]?=some y) (hpb:-1<=pb/\pb < l.length) (hpq:-1<=pq/\pq < l.length)
 (hf:(b:Int) ≠ (q:Int)+1) (hl:pb+1 ≠ pq)
 (ht:∀ V A1 c1,Pure w V->tokR.row V (fun _=>True) A1 [shutT,y]->([shutT,y]:List Tok).length<=c1->(([shutT,y]:List Tok)=[]->A1=none/\c1=0)->Calls Tryz.prog 87 #[.pointer (some ⟨cb,0,none⟩),.slice (some ⟨bA,oA,none⟩) l.length c,(arnd b (pb+1) b (pb+1) 1 [shutT,y]).val A1 c1] V (Told s' (toldB A1 e) (toldC c1 e) e V))
 (h2:e=0->s'.sl=[shutT,y]) (h3:e ≠ 0->s'.sl=[]) :
 Calls Tryz.prog 49 #[.pointer (some ⟨cb,0,none⟩),.slice (some ⟨bA,oA,none⟩) l.length c,.int .i64 p] w (fun r w'=>∃ B' c',Told s' B' c' e w r w'/\tokR.row w' (fun _=>True) B' s'.sl):=by
 have HP:=mK hp
 have HA1:=mK ha1
 have HA2:=mK ha2
 have HP1:=mK hp1
 have HP2:=mK hp2
 have HT:=mK ht
 have HS:=mK (And.intro h2 h3)
 obtain⟨bA2,oA2,hA,_,hbt,q0,q1,q2,q3⟩:=x0j hrow hy
 cases hA
 have hql:=(List.getElem?_eq_some_iff.1 hy).1
 have HQ:=mK (And.intro q0 (And.intro q1 (And.intro q2 q3)))
 have HBT:=mK hbt
 have hm:max (b:Int) 0=(b:Int):=by omega
 have d0:decide ((b:Int) < 0)=false:=decide_eq_false (by omega)
 have d1:decide ((q:Int) < 0)=false:=decide_eq_false (by omega)
 have hw1:IntKind.i64.wrap ((q:Int)+1)=(q:Int)+1:=IntWalk.i64_in _ (by omega)
 have hw2:IntKind.i64.wrap (pb+1)=pb+1:=IntWalk.i64_in _ (by omega)
 have hw3:IntKind.i64.wrap (pq+1)=pq+1:=IntWalk.i64_in _ (by omega)
 have y1:((b:Int) == (q:Int)+1)=false:=by simpa using hf
 have y2:(pb+1 == pq)=false:=by simpa using hl
 clear hp ha1 ha2 hp1 hp2 ht h2 h3 hf hl hrow hy q0 q1 q2 q3 hbt
 unfold Told StepD.val at *
 unfold arnd at HT
 go_enter Tryz.func49,Tryz.ntmps49
 go_wp2_with (go_at_call 86;refine(HP.o _ aU).mono ?_;rintro r w1 ⟨rfl,hu⟩;obtain⟨hb1,hu1⟩:=x0i hu;have HB1:=mK hb1;have HU1:=mK hu1;clear hu hb1 hu1;apply As.o)
 refine⟨?_⟩
 go_wp2_with (go_at_call 74;refine(HA1.o _ HU1.o).mono ?_;rintro r wa ⟨rfl,hu⟩;have HBa:=mK (kP hu HB1.o);have HUa:=mK (HU1.o.tt hu);clear hu;apply As.o)
 refine⟨?_⟩
 go_wp2_with (go_at_call 74;refine(HA2.o _ HUa.o).mono ?_;rintro r wb ⟨rfl,hu⟩;have HBb:=mK (kP hu HBa.o);have HUb:=mK (HUa.o.tt hu);clear hu;apply As.o)
 refine⟨?_⟩
 go_wp2_with (go_at_call 77;refine(HP1.o _ HUb.o).mono ?_;rintro r wc ⟨rfl,hu⟩;have HBc:=mK (kP hu HBb.o);have HUc:=mK (HUb.o.tt hu);clear hu;apply As.o)
 refine⟨?_⟩
 go_wp2_with (go_at_call 77;refine(HP2.o _ HUc.o).mono ?_;rintro r wd ⟨rfl,hu⟩;have HBd:=mK (kP hu HBc.o);have HUd:=mK (HUc.o.tt hu);clear hu;apply As.o)
 refine⟨?_⟩
 have z0:=(HUd.o.cell HBT.o (fun h=>h)).trans HQ.o.1
 have z1:=(HUd.o.cell HBT.o (fun h=>h)).trans HQ.o.2.1
 have z2:=(HUd.o.cell HBT.o (fun h=>h)).trans HQ.o.2.2.1
 have z3:=(HUd.o.cell HBT.o (fun h=>h)).trans HQ.o.2.2.2
 have hbt2:=Nat.lt_of_lt_of_le HBT.o HUd.o.size
 go_wp2
 have HQ8:=mK (fun v (hu:Pure ((wd.alloc (.cells #[.int .i64 1,.int .i64 (b:Nat),.int .i64 (pb+1),.int .i64 (b:Nat),.int .i64 (pb+1),.int .i64 0,.slice none 0 0,.int .i64 0] 46)).alloc (.cells #[.int .i64 2,.int .i64 0,.int .i64 0,.int .i64 0] 71)) v)=>(by
  have hn:=heap_alloc_new (wd.alloc (.cells #[.int .i64 1,.int .i64 (b:Nat),.int .i64 (pb+1),.int .i64 (b:Nat),.int .i64 (pb+1),.int .i64 0,.slice none 0 0,.int .i64 0] 46)) (.cells #[.int .i64 2,.int .i64 0,.int .i64 0,.int .i64 0] 71)
  have hsz:(wd.alloc (.cells #[.int .i64 1,.int .i64 (b:Nat),.int .i64 (pb+1),.int .i64 (b:Nat),.int .i64 (pb+1),.int .i64 0,.slice none 0 0,.int .i64 0] 46)).heap.size=wd.heap.size+1:=by simp
  rw[hsz] at hn
  have hw:=((Upd.alloc1 (fun _=>False) wd (.cells #[.int .i64 1,.int .i64 (b:Nat),.int .i64 (pb+1),.int .i64 (b:Nat),.int .i64 (pb+1),.int .i64 0,.slice none 0 0,.int .i64 0] 46)).alloc (.cells #[.int .i64 2,.int .i64 0,.int .i64 0,.int .i64 0] 71)).tt hu
  exact⟨cells4 ((hu.block (wd.heap.size+1) (by simp) (fun h=>h)).trans hn),(hw.cell hbt2 (fun h=>h)).trans z0,(hw.cell hbt2 (fun h=>h)).trans z1,(hw.cell hbt2 (fun h=>h)).trans z2,(hw.cell hbt2 (fun h=>h)).trans z3⟩:(fun v=>(v.cell? ⟨wd.heap.size+1,0,none⟩=some (.int .i64 2)/\v.cell? ⟨wd.heap.size+1,1,none⟩=some (.int .i64 0)/\v.cell? ⟨wd.heap.size+1,2,none⟩=some (.int .i64 0)/\v.cell? ⟨wd.heap.size+1,3,none⟩=some (.int .i64 0))/\v.cell? ⟨bA,oA+q * 4,none⟩=some (.int .i64 y.k)/\v.cell? ⟨bA,oA+q * 4+1,none⟩=some (.int .i64 y.t)/\v.cell? ⟨bA,oA+q * 4+2,none⟩=some (.int .i64 y.n)/\v.cell? ⟨bA,oA+q * 4+3,none⟩=some (.int .i64 y.m)) v))
 clear z0 z1 z2 z3
 refine x0m (P:=Tryz.prog) (fun v=>(v.cell? ⟨wd.heap.size+1,0,none⟩=some (.int .i64 2)/\v.cell? ⟨wd.heap.size+1,1,none⟩=some (.int .i64 0)/\v.cell? ⟨wd.heap.size+1,2,none⟩=some (.int .i64 0)/\v.cell? ⟨wd.heap.size+1,3,none⟩=some (.int .i64 0))/\v.cell? ⟨bA,oA+q * 4,none⟩=some (.int .i64 y.k)/\v.cell? ⟨bA,oA+q * 4+1,none⟩=some (.int .i64 y.t)/\v.cell? ⟨bA,oA+q * 4+2,none⟩=some (.int .i64 y.n)/\v.cell? ⟨bA,oA+q * 4+3,none⟩=some (.int .i64 y.m)) 7 (by kernel_rfl) ?_ (fun hHeld=>?_)
 ·first | exact HQ8.o _ (rU.drew) | exact HQ8.o _ ((rU.drew).alloc _) | exact HQ8.o _ ((rU.alloc _).drew)
 refine zT 0 ?_
 refine zT 1 ?_
 refine zT 2 ?_
 refine zT 3 ?_
 (try simp only[Act.put,sA,sB,sC])
 refine zT 4 ?_
 refine oT 5 (fun K hK=>?_)
 go_simp
 refine hK.out _ _ (fun _=>by first | exact HQ8.o _ (rU.drew) | exact HQ8.o _ ((rU.drew).alloc _) | exact HQ8.o _ ((rU.alloc _).drew)) (fun hHeld=>?_)
 replace hHeld:=hHeld (by decide)
 clear hK K
 (try simp only[Act.put,sA,sB,sC])
 refine zT 6 ?_
 refine oT 7 (fun K hK=>?_)
 go_simp
 refine hK.out _ _ (fun h=>absurd rfl h) (fun hHeld=>?_)
 clear hK K
 (try simp only[Act.put,sA,sB,sC])
 refine x0l (by kernel_rfl) ?_ _
 go_wp2_with (go_at_call 87;apply As.o)
 refine⟨?_⟩
 have hp8:∀ x y z,Pure wd (((wd.alloc x).alloc y).alloc z).drew:=fun x y z=>(((Upd.alloc1 (fun _=>False) wd x).alloc y).alloc z).drew
 have hrw:∀ x y',tokR.row (((wd.alloc x).alloc y').alloc (.cells #[.int .i64 2,.int .i64 0,.int .i64 0,.int .i64 0,.int .i64 y.k,.int .i64 y.t,.int .i64 y.n,.int .i64 y.m] 71)).drew (fun k=>wd.heap.size+1+1<=k) (some ⟨wd.heap.size+1+1,0,none⟩) [shutT,y]:=fun x y'=>by
  have h0:=heap_alloc_new ((wd.alloc x).alloc y') (.cells #[.int .i64 2,.int .i64 0,.int .i64 0,.int .i64 0,.int .i64 y.k,.int .i64 y.t,.int .i64 y.n,.int .i64 y.m] 71)
  have h1:((wd.alloc x).alloc y').heap.size=wd.heap.size+1+1:=by simp
  rw[h1] at h0
  exact Rp.x01 (x1a (F:=fun k=>wd.heap.size+1+1<=k) (l:=[shutT,y]) h0 (Nat.le_refl _)) rU.drew
 refine(HT.o _ (some ⟨wd.heap.size+1+1,0,none⟩) 2 (HUd.o.trans (hp8 _ _ _) (fun _ _ h=>h)) (Rp.x09 (hrw _ _) (fun _ _=>trivial)) (Nat.le_refl 2) (fun h=>absurd h (by simp))).mono ?_
 rintro r w9 ⟨rfl,hu⟩
 have hp9:=(hp8 _ _ _).tt hu
 have HB9:=mK (kP hp9 HBd.o)
 have HU9:=mK (HUd.o.tt hp9)
 have HLd:=mK (lt_of_block HBd.o)
 have HRR:=mK (show tokR.row w9 (fun k=>w.heap.size < k) (toldB (some ⟨wd.heap.size+1+1,0,none⟩) e) s'.sl from(x29 (e:=e) HS.o.1 HS.o.2 (Rp.x09 (Rp.x01 (hrw _ _) hu) (fun k hk=>by have:=HLd.o;omega)) (c:=2) (Nat.le_refl 2)).1)
 clear hu hp8 hp9
 have hbl:w.heap.size < w9.heap.size:=lB HB9.o
 have hcf:=fZ HB9.o
 obtain⟨k0,k1,k2,k3,k4,k5,k6,k7⟩:=x06 HB9.o
 go_wp2
 exact bodyPost_ret (step_end (rb:=w.heap.size) rfl _ rfl (set8 (rb:=w.heap.size) HB9.o _ _ _ _ _ _ _ _)) rfl ⟨_,_,⟨rfl,x05 HU9.o (Nat.le_refl _) _ _ _ _ _ _ _ _⟩,Rp.x09 (Rp.x0f HRR.o (x0b rU _ _ _ _ _ _ _ _) (fun k _ h e=>by omega)) (fun _ _=>trivial)⟩
end Go.Proofs.YtofjodppljnlaaaGreatDoor
