/- My own texts, packed: MarkL, EdAw, Ed12a, EdN, EdT, Same12. -/
import Derived.Test.YtofjodppljnlaaaGreatDoorP24
import Derived.Test.YtofjodppljnlaaaGreatDoorP25
import Derived.Test.YtofjodppljnlaaaGreatDoorP26
set_option maxRecDepth 100000
set_option maxHeartbeats 4000000
set_option linter.unusedVariables false
set_option linter.unusedSimpArgs false
variable {w w1 W:Go.World} {F G:Nat → Prop} {A B:Option Go.Addr} {cb c:Nat}
namespace Go.Proofs.YtofjodppljnlaaaGreatDoor
open Go.RowKit
theorem flat_of_house {l:List Tok} (h:(x0d l).2=0):(x0a l).2=0:=by
 unfold x0d x12 at h
 split at h
 ·assumption
 ·rename_i hn
  exact absurd h hn
theorem x0x {e:Int} (w:World):Calls Tryz.prog 84 #[.int .i64 e] w (fun r w'=>r=.returned (.tuple #[step0,.int .i64 e])/\Pure w w'):=by
 go_enter Tryz.func84,Tryz.ntmps84
 go_wp2
 exact bodyPost_ret (step_end rfl _ rfl (heap_alloc_new w _)) rfl ⟨rfl,(by repeat (first | exact Upd.refl _ _ | exact HU1.o | (refine Upd.alloc ?_ _) | (refine Upd.setCell ?_ (by intro h;simp at h;try omega) _) | (refine Upd.drew ?_) | (refine Upd.drewN ?_ _) | (refine Upd.trans ?_ HU1.o (fun _ _ h=>h))))⟩
theorem x2q (w:World):Calls Tryz.prog 93 #[] w (fun r w'=>r=.returned shutT.val/\Pure w w'):=by
 go_enter Tryz.func93,Tryz.ntmps93
 go_wp2
 exact bodyPost_ret (tok_end rfl _ rfl (heap_alloc_new w _)) rfl ⟨rfl,(by repeat (first | exact Upd.refl _ _ | exact HU1.o | (refine Upd.alloc ?_ _) | (refine Upd.setCell ?_ (by intro h;simp at h;try omega) _) | (refine Upd.drew ?_) | (refine Upd.drewN ?_ _) | (refine Upd.trans ?_ HU1.o (fun _ _ h=>h))))⟩
theorem x34 {l:List Tok} {f t:Int} (h:SchR w cb x02 x07) (hr:tokR.row w F A l) (hb:l.length<=1048576 * 4) :
 Calls Tryz.prog 83 #[deskV cb A l.length c,.int .i64 f,.int .i64 t] w (fun r w'=>r=.returned (.int .i64 (x0e l f t))/\Pure w w'):=by
 have HC:=mK (fun W (hu:Pure w W)=>x3g (c:=c) (h.pure hu) (Rp.x01 hr hu) hb)
 have HE:=mK (show x0e l f t=if (x0d l).2 ≠ 0 then (x0d l).2 else if f < 0\/t < f\/(l.length:Int) < t then 1 else 0 from rfl)
 clear h hr hb
 generalize x0e l f t=pe at *
 generalize (x0d l).2=e at *
 generalize (x0d l).1=e1 at *
 by_cases h0:e=0
 ·subst h0
  rw[if_neg (by omega)] at HE
  by_cases h1:f < 0
  ·rw[if_pos (.inl h1)] at HE
   go_enter Tryz.func83,Tryz.ntmps83
   go_wp2_with (go_at_call 15;refine(HC.o _ aU).mono ?_;rintro r w1 ⟨rfl,hu⟩;have hb1:=(hu.block w.heap.size (by simp) (fun h=>h)).trans (heap_alloc_new w _);obtain⟨q0,q1⟩:=cells2 hb1;have HU1:=mK (Upd.trans aP hu (fun _ _ h=>h));clear hu hb1)
   go_ret
   exact⟨(by rw[HE.o];rfl),HU1.o⟩
  ·by_cases h2:t < f
   ·rw[if_pos (.inr (.inl h2))] at HE
    go_enter Tryz.func83,Tryz.ntmps83
    go_wp2_with (go_at_call 15;refine(HC.o _ aU).mono ?_;rintro r w1 ⟨rfl,hu⟩;have hb1:=(hu.block w.heap.size (by simp) (fun h=>h)).trans (heap_alloc_new w _);obtain⟨q0,q1⟩:=cells2 hb1;have HU1:=mK (Upd.trans aP hu (fun _ _ h=>h));clear hu hb1)
    go_ret
    exact⟨(by rw[HE.o];rfl),HU1.o⟩
   ·by_cases h3:(l.length:Int) < t
    ·rw[if_pos (.inr (.inr h3))] at HE
     go_enter Tryz.func83,Tryz.ntmps83
     go_wp2_with (go_at_call 15;refine(HC.o _ aU).mono ?_;rintro r w1 ⟨rfl,hu⟩;have hb1:=(hu.block w.heap.size (by simp) (fun h=>h)).trans (heap_alloc_new w _);obtain⟨q0,q1⟩:=cells2 hb1;have HU1:=mK (Upd.trans aP hu (fun _ _ h=>h));clear hu hb1)
     go_ret
     exact⟨(by rw[HE.o];rfl),HU1.o⟩
    ·rw[if_neg (by omega)] at HE
     go_enter Tryz.func83,Tryz.ntmps83
     go_wp2_with (go_at_call 15;refine(HC.o _ aU).mono ?_;rintro r w1 ⟨rfl,hu⟩;have hb1:=(hu.block w.heap.size (by simp) (fun h=>h)).trans (heap_alloc_new w _);obtain⟨q0,q1⟩:=cells2 hb1;have HU1:=mK (Upd.trans aP hu (fun _ _ h=>h));clear hu hb1)
     go_ret
     exact⟨(by rw[HE.o];rfl),HU1.o⟩
 ·have f0:(e != 0)=true:=by simpa using h0
  rw[if_pos h0] at HE
  clear h0
  go_enter Tryz.func83,Tryz.ntmps83
  go_wp2_with (go_at_call 15;refine(HC.o _ aU).mono ?_;rintro r w1 ⟨rfl,hu⟩;have HU1:=mK (Upd.trans aP hu (fun _ _ h=>h));clear hu)
  go_ret
  exact⟨(by rw[HE.o];rfl),HU1.o⟩
theorem tell_calls {cs n:Nat} {s:StepD} {x:List Tok} {e:Int} (hd:∀ W,Pure w W->Calls Tryz.prog 96 #[.pointer (some ⟨cb,0,none⟩),.slice A n c,s.val B cs] W (DocR W x e)) :
 Calls Tryz.prog 91 #[deskV cb A n c,s.val B cs] w (fun r w'=>ToldR (s.val B cs) e r/\Pure w w'):=by
 have HD:=mK hd
 clear hd
 unfold StepD.val at *
 by_cases h0:e=0
 ·subst h0
  go_enter Tryz.func91,Tryz.ntmps91
  go_wp2_with (go_at_call 96;refine(HD.o _ ((aP.alloc _).alloc _)).mono ?_;rintro r w1 hd;obtain⟨⟨B1,rfl,hrow⟩,hu⟩:=DocR.zero hd;obtain⟨_,hb1,hb2,hu2⟩:=three_up hu;obtain⟨q0,q1,q2,q3,q4,q5,q6,q7⟩:=x06 hb1;have HB1:=mK hb2;have HU1:=mK hu2;clear hd hu hb1 hb2 hu2 hrow;apply As.o)
  refine⟨?_⟩
  have hbl:w.heap.size+2 < w1.heap.size:=lB HB1.o
  have hcf:=fZ HB1.o
  obtain⟨k0,k1,k2,k3,k4,k5,k6,k7⟩:=x06 HB1.o
  go_wp2
  exact bodyPost_ret (step_end (rb:=w.heap.size+1+1) rfl _ rfl (set8 (rb:=w.heap.size+1+1) HB1.o _ _ _ _ _ _ _ _)) rfl ⟨.inl ⟨rfl,rfl⟩,x05 HU1.o (by omega) _ _ _ _ _ _ _ _⟩
 ·have HN:=mK h0
  have f0:(e != 0)=true:=by simpa using h0
  clear h0
  go_enter Tryz.func91,Tryz.ntmps91
  go_wp2_with (go_at_call 96;refine(HD.o _ ((aP.alloc _).alloc _)).mono ?_;rintro r w1 hd;obtain⟨rfl,hu⟩:=DocR.ne hd HN.o;obtain⟨_,hb1,hb2,hu2⟩:=three_up hu;have HB1:=mK hb2;have HU1:=mK hu2;clear hd hu hb1 hb2 hu2;apply As.o)
  refine⟨?_⟩
  have hbl:w.heap.size+2 < w1.heap.size:=lB HB1.o
  have hcf:=fZ HB1.o
  obtain⟨k0,k1,k2,k3,k4,k5,k6,k7⟩:=x06 HB1.o
  go_wp2
  exact bodyPost_ret (step_end (rb:=w.heap.size+1+1) rfl _ rfl (set8 (rb:=w.heap.size+1+1) HB1.o _ _ _ _ _ _ _ _)) rfl ⟨.inr ⟨HN.o,rfl⟩,x05 HU1.o (by omega) _ _ _ _ _ _ _ _⟩
theorem replace_calls {B':Option Addr} {cs c' n:Nat} {f t e:Int} {sl:List Tok} {s':StepD} (ht:∀ W,Pure w W->Calls Tryz.prog 91 #[deskV cb A n c,(repl f t sl).val B cs] W (Told s' B' c' e W)) :
 Calls Tryz.prog 85 #[deskV cb A n c,.int .i64 f,.int .i64 t,.slice B sl.length cs] w (Told s' B' c' e w):=by
 have HT:=mK ht
 clear ht
 unfold Told StepD.val repl at *
 go_enter Tryz.func85,Tryz.ntmps85
 go_wp2_with (go_at_call 91;refine(HT.o _ (aP.alloc _)).mono ?_;rintro r w2 ⟨rfl,hu⟩;obtain⟨_,hb2,hu2⟩:=x0s hu;have HB2:=mK hb2;have HU2:=mK hu2;clear hu hb2 hu2;apply As.o)
 refine⟨?_⟩
 have hbl:(w.heap.size+1) < w2.heap.size:=lB HB2.o
 have hcf:=fZ HB2.o
 obtain⟨k0,k1,k2,k3,k4,k5,k6,k7⟩:=x06 HB2.o
 go_wp2
 exact bodyPost_ret (step_end (rb:=(w.heap.size+1)) rfl _ rfl (set8 (rb:=(w.heap.size+1)) HB2.o _ _ _ _ _ _ _ _)) rfl ⟨rfl,x05 HU2.o (by omega) _ _ _ _ _ _ _ _⟩
theorem tell_repl {cs:Nat} {l sl:List Tok} {f t:Int} (h:SchR w cb x02 x07) (hne:l ≠ []) (hr:tokR.row w F A l) (hlc:l.length<=c) (hb:l.length<=1048576 * 4) (hs:tokR.row w G B sl) (hsc:sl.length<=cs) (hsb:sl.length<=1048576 * 4) :
 Calls Tryz.prog 91 #[deskV cb A l.length c,(repl f t sl).val B cs] w (Told (toldS (repl f t sl) (x08 l (repl f t sl))) (toldB B (x08 l (repl f t sl))) (toldC cs (x08 l (repl f t sl))) (x08 l (repl f t sl)) w):=
 (tell_calls (fun W hW=>Do_calls (h.pure hW) (fun V hV=>Apply_repl hne (Rp.x01 (Rp.x01 hr hW) hV) hlc hb (Rp.x01 (Rp.x01 hs hW) hV) hsc hsb))).mono (fun _ _ h=>ToldR.told h)
theorem x60 {cs:Nat} {l sl:List Tok} {f t:Int} (h:SchR w cb x02 x07) (hne:l ≠ []) (hr:tokR.row w F A l) (hlc:l.length<=c) (hb:l.length<=1048576 * 4) (hs:tokR.row w G B sl) (hsc:sl.length<=cs) (hsb:sl.length<=1048576 * 4) :
 Calls Tryz.prog 85 #[deskV cb A l.length c,.int .i64 f,.int .i64 t,.slice B sl.length cs] w (Told (toldS (repl f t sl) (x08 l (repl f t sl))) (toldB B (x08 l (repl f t sl))) (toldC cs (x08 l (repl f t sl))) (x08 l (repl f t sl)) w):=
 replace_calls (fun W hW=>tell_repl (h.pure hW) hne (Rp.x01 hr hW) hlc hb (Rp.x01 hs hW) hsc hsb)
def x3k (l:List Tok) (p:Int) (text:List Tok):Int:=if x0e l p p ≠ 0 then x0e l p p else if ¬ plainT text then 1 else x08 l (repl p p text)
theorem Insert_at {T:Option Addr} {ct n:Nat} {p e pe:Int} {text:List Tok} {s':StepD} (hx:tokR.row w F T text) (hb:text.length<=1048576 * 4)
 (hp:∀ W,Pure w W->Calls Tryz.prog 83 #[deskV cb A n c,.int .i64 p,.int .i64 p] W (fun r w'=>r=.returned (.int .i64 pe)/\Pure W w'))
 (hr:pe=0->plainT text->∀ V A1 c1,Pure w V->tokR.row V (fun _=>True) A1 text->text.length<=c1->Calls Tryz.prog 85 #[deskV cb A n c,.int .i64 p,.int .i64 p,.slice A1 text.length c1] V (Told s' (toldB A1 e) (toldC c1 e) e V))
 (h0:pe ≠ 0->s'=repl 0 0 []/\e=pe) (h1:pe=0->¬ plainT text->s'=repl 0 0 []/\e=1) (h2:e=0->s'.sl=text) (h3:e ≠ 0->s'.sl=[]) :
 Calls Tryz.prog 29 #[.pointer (some ⟨cb,0,none⟩),.slice A n c,.int .i64 p,.slice T text.length ct] w (fun r w'=>∃ B' c',Told s' B' c' e w r w'/\(tokR.row w' (fun k=>w.heap.size<=k) B' s'.sl/\s'.sl.length<=c')/\(e ≠ 0->B'=none/\c'=0)):=by
 have HP:=mK hp
 have HX:=mK hx
 have HT:=mK (And.intro h2 h3)
 clear hp hx h2 h3
 by_cases p0:pe=0
 ·have HR:=mK (hr p0)
  subst p0
  clear hr
  have H1:=mK (h1 rfl)
  clear h0 h1
  unfold Told StepD.val at *
  go_enter Tryz.func29,Tryz.ntmps29
  go_wp2_with (go_at_call 83;refine(HP.o _ (aP.alloc _)).mono ?_;rintro r w1 ⟨rfl,hu⟩;obtain⟨hb1,hb2,hu2⟩:=x0s hu;obtain⟨q0,q1⟩:=cells2 hb2;have HB1:=mK hb1;have HQ1:=mK hb2;have HU1:=mK hu2;clear hu hb1 hb2 hu2)
  go_loopg [29] text.length (fun g i wr=>∃ k:Nat,k+g=text.length/\i=.int .i64 k/\As (∀ x ∈ text.take k,x.k=0)/\As (Pure w1 wr))
  case atStart=>exact⟨0,by omega,rfl,⟨by simp⟩,⟨Upd.refl _ _⟩⟩
  case round=>
   obtain⟨k,hk,rfl,HK,HW⟩:=hrel
   by_cases hlt:k < text.length
   ·obtain⟨g1,rfl⟩:=sC1 (by omega:0 < gk)
    obtain⟨x,hx⟩:=gS hlt
    obtain⟨b,o,rfl,hF,hbl,c0,c1,c2,c3⟩:=x0j (Rp.x01 HX.o (HU1.o.tt HW.o)) hx
    have HXK:=mK hx
    have HKK:=mK hk
    clear hx hk
    by_cases hx0:x.k=0
    ·rw[hx0] at c0
     have HX0:=mK hx0
     clear hx0
     go_wp2
     go_roundg g1
     case measure=>omega
     case rel=>exact⟨k+1,by have:=HKK.o;omega,by go_num,⟨by rw[List.take_add_one,HXK.o];intro y hy;rcases List.mem_append.1 hy with hy | hy;exact HK.o y hy;simp at hy;rw[hy];exact HX0.o⟩,⟨HW.o.alloc _⟩⟩
    ·have HX0:=mK hx0
     have hbq:=mK (kP HW.o HB1.o)
     go_wp2_with (go_at_call 84;refine(x0x _).mono ?_;rintro r w2 ⟨rfl,hu⟩;obtain⟨_,hu2⟩:=x0i hu;have HB2:=mK (kP hu2 hbq.o);have HU2:=mK (HU1.o.trans (HW.o.tt hu2) (fun _ _ h=>h));clear hu hu2;apply As.o)
     refine⟨?_⟩
     have hbl:w.heap.size < w2.heap.size:=lB HB2.o
     have hcf:=fZ HB2.o
     obtain⟨k0,k1,k2,k3,k4,k5,k6,k7⟩:=x06 HB2.o
     go_wp2
     exact bodyPost_ret (step_end (rb:=w.heap.size) rfl _ rfl (set8 (rb:=w.heap.size) HB2.o _ _ _ _ _ _ _ _)) rfl (by obtain⟨rfl,rfl⟩:=H1.o (fun h=>HX0.o (h x (List.mem_of_getElem? HXK.o)));exact⟨none,0,⟨rfl,x05 HU2.o (Nat.le_refl _) _ _ _ _ _ _ _ _⟩,⟨.inl rfl,Nat.zero_le _⟩,fun _=>⟨rfl,rfl⟩⟩)
   ·obtain rfl:k=text.length:=by omega
    rw[List.take_length] at HK
    have HK8:=mK (fun v (hu:Upd (fun k=>k=w.heap.size) w1 v)=>cells2 ((hu.block (w.heap.size+1) (lt_of_block HQ1.o) (by omega)).trans HQ1.o))
    obtain⟨wo,rfl⟩:∃ wo:World,wo=wr:=⟨_,rfl⟩
    have HWD:=mK (HU1.o.tt HW.o).drew
    go_wp2
    refine x0m (P:=Tryz.prog) (fun v=>v.cell? ⟨w.heap.size+1,0,none⟩=some (.pointer (some ⟨cb,0,none⟩))/\v.cell? ⟨w.heap.size+1,1,none⟩=some (.slice A n c)) 9 (by kernel_rfl) ?_ (fun hHeld=>?_)
    ·with_reducible (first | exact HK8.o _ (up1 HW.o.drew) | exact HK8.o _ (up1 HP2.o) | exact HK8.o _ (up1 HP3.o) | exact HK8.o _ (x0b (up1 HP3.o) _ _ _ _ _ _ _ _))
    refine zT 0 ?_
    refine zT 1 ?_
    refine zT 2 ?_
    refine zT 3 ?_
    (try simp only[Act.put,sA,sB,sC])
    refine oT 4 (fun K hK=>?_)
    refine Rp.x1g tokR (c:=ct) (Rp.x0v tokR 71 _ (fun _=>False)) (Rp.x1q (Rp.x01 HX.o HWD.o) (fun _ _ h=>h)) (Fz:=fun _=>False) (fun _ h=>h.elim) (by rfl) _ _ 22 _ 32 (by rfl) Tryz.underlying22 x0y rfl (by decide) (by decide) (by rfl) (by rfl) (by simp;omega) ?_;intro v1 w2 ho1 hu2 hat;obtain⟨A1,c1,rfl,hc1,hrow1⟩:=Rp.x0c ho1;simp only[List.nil_append] at hc1 hrow1 hat;have HP2:=mK (Upd.trans HW.o.drew hu2 (fun k _ h=>by simp[Value.ownBlock] at h));have HP2w:=mK (HU1.o.tt HP2.o);have HG1:=mK (Rp.x09 (G:=fun k=>w.heap.size < k) hrow1 (fun k hk=>by rcases hk with hk | hk | hk;exact hk.1.elim;exact hk.elim;rcases hat with hat | ⟨b,hb,hle⟩;(rw[hat] at hk;simp[Value.ownBlock] at hk);(rw[hb] at hk;cases hk;have h7:=HW.o.size;have h8:=lt_of_block HB1.o;simp at hle;omega)));have HR1:=mK (Rp.x09 (G:=fun _=>True) hrow1 (fun _ _=>trivial));have HC1:=mK hc1;clear ho1 hu2 hat hc1 hrow1
    refine hK.out _ _ (fun _=>by with_reducible (first | exact HK8.o _ (up1 HW.o.drew) | exact HK8.o _ (up1 HP2.o) | exact HK8.o _ (up1 HP3.o) | exact HK8.o _ (x0b (up1 HP3.o) _ _ _ _ _ _ _ _))) (fun hHeld=>?_)
    replace hHeld:=hHeld (by decide)
    clear hK K
    (try simp only[Act.put,sA,sB,sC])
    refine oT 5 (fun K hK=>?_)
    go_simp
    (go_at_call 85;refine(HR.o HK.o w2 A1 c1 HP2w.o HR1.o HC1.o).mono ?_;rintro r w3 ⟨rfl,hu3⟩;have HP3:=mK (HP2.o.tt hu3);have HP3w:=mK (HP2w.o.tt hu3);have HR3:=mK (Rp.x01 HG1.o hu3);have HB3:=mK (kP HP3.o HB1.o);have hbl3:w.heap.size < w3.heap.size:=(lB HB3.o);have hcf3:∀ i,w3.frozen? ⟨w.heap.size,i,none⟩=false:=(fun i=>by simp[World.frozen?,HB3.o]);obtain⟨k0,k1,k2,k3,k4,k5,k6,k7⟩:=x06 HB3.o;clear hu3)
    refine hK.out _ _ (fun _=>by with_reducible (first | exact HK8.o _ (up1 HW.o.drew) | exact HK8.o _ (up1 HP2.o) | exact HK8.o _ (up1 HP3.o) | exact HK8.o _ (x0b (up1 HP3.o) _ _ _ _ _ _ _ _))) (fun hHeld=>?_)
    replace hHeld:=hHeld (by decide)
    clear hK K
    (try simp only[Act.put,sA,sB,sC])
    refine zT 6 ?_
    refine zT 7 ?_
    refine oT 8 (fun K hK=>?_)
    go_simp
    refine hK.out _ _ (fun _=>by with_reducible (first | exact HK8.o _ (up1 HW.o.drew) | exact HK8.o _ (up1 HP2.o) | exact HK8.o _ (up1 HP3.o) | exact HK8.o _ (x0b (up1 HP3.o) _ _ _ _ _ _ _ _))) (fun hHeld=>?_)
    replace hHeld:=hHeld (by decide)
    clear hK K
    (try simp only[Act.put,sA,sB,sC])
    refine oT 9 (fun K hK=>?_)
    go_simp
    refine hK.out _ _ (fun h=>absurd rfl h) (fun hHeld=>?_)
    clear hK K
    (try simp only[Act.put,sA,sB,sC])
    refine x0l (by kernel_rfl) ?_ _
    go_wp2
    exact bodyPost_ret (step_end (rb:=w.heap.size) rfl _ rfl (set8 (rb:=w.heap.size) HB3.o _ _ _ _ _ _ _ _)) rfl ⟨toldB A1 e,toldC c1 e,⟨rfl,x05 HP3w.o (Nat.le_refl _) _ _ _ _ _ _ _ _⟩,x29 (e:=e) HT.o.1 HT.o.2 (Rp.x09 (G:=fun k=>w.heap.size<=k) (Rp.x0f HR3.o (x0b rU _ _ _ _ _ _ _ _) (fun k _ h e=>by omega)) (fun _ h=>by (try have h8:=HL.o);omega)) HC1.o,fun h=>⟨if_neg h,if_neg h⟩⟩
 ·obtain⟨rfl,rfl⟩:=h0 p0
  have f0:(e != 0)=true:=by simpa using p0
  clear hr HX HT h0 h1 p0
  unfold Told StepD.val at *
  go_enter Tryz.func29,Tryz.ntmps29
  go_wp2_with (first | (go_at_call 84;refine(x0x _).mono ?_;rintro r w2 ⟨rfl,hu⟩;have HB2:=mK (kP hu HB1.o);have HU2:=mK (HU1.o.tt hu);clear hu;apply As.o) | (go_at_call 83;refine(HP.o _ (aP.alloc _)).mono ?_;rintro r w1 ⟨rfl,hu⟩;obtain⟨hb1,hb2,hu2⟩:=x0s hu;obtain⟨q0,q1⟩:=cells2 hb2;have HB1:=mK hb1;have HQ1:=mK hb2;have HU1:=mK hu2;clear hu hb1 hb2 hu2))
  refine⟨?_⟩
  have hbl:w.heap.size < w2.heap.size:=lB HB2.o
  have hcf:=fZ HB2.o
  obtain⟨k0,k1,k2,k3,k4,k5,k6,k7⟩:=x06 HB2.o
  go_wp2
  exact bodyPost_ret (step_end (rb:=w.heap.size) rfl _ rfl (set8 (rb:=w.heap.size) HB2.o _ _ _ _ _ _ _ _)) rfl ⟨none,0,⟨rfl,x05 HU2.o (Nat.le_refl _) _ _ _ _ _ _ _ _⟩,⟨.inl rfl,Nat.zero_le _⟩,fun _=>⟨rfl,rfl⟩⟩
theorem Insert_new {T:Option Addr} {ct:Nat} {l text:List Tok} {p:Int} (h:SchR w cb x02 x07) (hr:tokR.row w F A l) (hlc:l.length<=c) (hb:l.length<=1048576 * 4) (hx:tokR.row w G T text) (hxb:text.length<=1048576 * 4) :
 Calls Tryz.prog 29 #[.pointer (some ⟨cb,0,none⟩),.slice A l.length c,.int .i64 p,.slice T text.length ct] w (fun r w'=>∃ B' c',Told (toldS (repl p p text) (x3k l p text)) B' c' (x3k l p text) w r w'/\(tokR.row w' (fun k=>w.heap.size<=k) B' (toldS (repl p p text) (x3k l p text)).sl/\(toldS (repl p p text) (x3k l p text)).sl.length<=c')/\(x3k l p text ≠ 0->B'=none/\c'=0)):=by
 have hz:x0e l p p=0->plainT text->x3k l p text=x08 l (repl p p text):=by
  intro h1 h2
  unfold x3k
  rw[if_neg (by omega),if_neg (fun h=>h h2)]
 refine Insert_at (pe:=x0e l p p) hx hxb (fun W hW=>x34 (h.pure hW) (Rp.x01 hr hW) hb) (fun p0 hpl V A1 c1 hV hrow hc1=>?_) (fun hp=>?_) (fun hp hn=>?_) (fun he=>by rw[he];rfl) (fun he=>by rw[x0g he];rfl)
 ·rw[hz p0 hpl]
  exact x60 (h.pure hV) (x3b (x16.1 p0).1) (Rp.x01 hr hV) hlc hb hrow hc1 hxb
 ·have he:x3k l p text=x0e l p p:=by unfold x3k;rw[if_pos hp]
  rw[he]
  exact⟨x0g hp,rfl⟩
 ·have he:x3k l p text=1:=by unfold x3k;rw[if_neg (by omega),if_pos hn]
  rw[he]
  exact⟨x0g (by decide),rfl⟩
theorem Insert_calls {T:Option Addr} {ct:Nat} {l text:List Tok} {p:Int} (h:SchR w cb x02 x07) (hr:tokR.row w F A l) (hlc:l.length<=c) (hb:l.length<=1048576 * 4) (hx:tokR.row w G T text) (hxb:text.length<=1048576 * 4) :
 Calls Tryz.prog 29 #[.pointer (some ⟨cb,0,none⟩),.slice A l.length c,.int .i64 p,.slice T text.length ct] w (fun r w'=>∃ B' c',Told (toldS (repl p p text) (x3k l p text)) B' c' (x3k l p text) w r w'/\(tokR.row w' (fun _=>True) B' (toldS (repl p p text) (x3k l p text)).sl/\(toldS (repl p p text) (x3k l p text)).sl.length<=c')/\(x3k l p text ≠ 0->B'=none/\c'=0)):=
 (Insert_new h hr hlc hb hx hxb).mono fun r w' ⟨B',c',h1,⟨h2,h3⟩,h4⟩=>⟨B',c',h1,⟨Rp.x09 h2 (fun _ _=>trivial),h3⟩,h4⟩
abbrev textX:List Tok:=[⟨0,0,120,0⟩]
theorem awake_ins:x3k x2y 1 textX=0:=by kernel_rfl
theorem x5d (w:World):Calls Tryz.prog 28 #[] w fun r w'=>r=.returned (.bool true)/\Pure w w':=by
 have HH:=mK (fun W=>x4r W)
 have HC1:=mK (fun (W:World) (cb:Nat) (hs:SchR W cb x02 x07)=>(by
  have hp:Pure W ((W.alloc (.cells #[.int .i64 1,.int .i64 1,.int .i64 0,.int .i64 0,.int .i64 2,.int .i64 0,.int .i64 0,.int .i64 0] 71)).alloc (.cells #[.int .i64 0,.int .i64 0,.int .i64 120,.int .i64 0] 71)):=aU.alloc _
  have r1:tokR.row ((W.alloc (.cells #[.int .i64 1,.int .i64 1,.int .i64 0,.int .i64 0,.int .i64 2,.int .i64 0,.int .i64 0,.int .i64 0] 71)).alloc (.cells #[.int .i64 0,.int .i64 0,.int .i64 120,.int .i64 0] 71)) (fun _=>True) (some ⟨W.heap.size,0,none⟩) x2y:=Rp.x01 (x1a (F:=fun _=>True) (heap_alloc_new W _) trivial) aU
  have r2:tokR.row ((W.alloc (.cells #[.int .i64 1,.int .i64 1,.int .i64 0,.int .i64 0,.int .i64 2,.int .i64 0,.int .i64 0,.int .i64 0] 71)).alloc (.cells #[.int .i64 0,.int .i64 0,.int .i64 120,.int .i64 0] 71)) (fun _=>True) (some ⟨W.heap.size+1,0,none⟩) textX:=x1a (F:=fun _=>True) (heap_alloc2_new W _ _) trivial
  have h1:=Insert_calls (c:=2) (ct:=1) (p:=1) (hs.pure hp) r1 (by decide) (by decide) r2 (by decide)
  rw[awake_ins] at h1
  exact h1.mono fun r w' h=>(by
   obtain⟨B',c',⟨h2,h3⟩,_,_⟩:=h
   exact⟨⟨B',c',h2⟩,hp.tt h3⟩) :
  Calls Tryz.prog 29 #[.pointer (some ⟨cb,0,none⟩),.slice (some ⟨W.heap.size,0,none⟩) 2 2,.int .i64 1,.slice (some ⟨W.heap.size+1,0,none⟩) 1 1] ((W.alloc (.cells #[.int .i64 1,.int .i64 1,.int .i64 0,.int .i64 0,.int .i64 2,.int .i64 0,.int .i64 0,.int .i64 0] 71)).alloc (.cells #[.int .i64 0,.int .i64 0,.int .i64 120,.int .i64 0] 71)) fun r w'=>(∃ B c,r=.returned (.tuple #[.agg #[.int .i64 0,.int .i64 1,.int .i64 1,.int .i64 0,.int .i64 0,.int .i64 0,.slice B 1 c,.int .i64 0],.int .i64 0]))/\Pure W w'))
 go_enter Tryz.func28,Tryz.ntmps28
 go_wp2_with (first | (go_at_call 29;refine(HC1.o _ _ HS1.o).mono ?_;rintro r w2 ⟨⟨B2,c2,rfl⟩,hu⟩;have HU2:=mK (HU1.o.tt hu);clear hu) | (go_at_call 13;refine(HH.o w).mono ?_;rintro r w1 ⟨cb1,rfl,hs,hu⟩;have HS1:=mK hs;have HU1:=mK hu;clear hu hs))
 go_ret
 exact⟨rfl,HU2.o.alloc _⟩
theorem x2o {l:List Tok} {f t:Int} (h:H6 w cb) (hr:tokR.row w F A l) (hb:l.length<=1048576 * 4) (hlc:l.length<=c) :
 Calls Tryz.prog 86 #[.pointer (some ⟨cb,0,none⟩),.slice A l.length c,.int .i64 f,.int .i64 t] w fun r w'=>r=.returned (.int .i64 (x0e l f t))/\Pure w w':=by
 have HCK:=mK (x3v (c:=c) h hr hlc hb)
 have HV:=mK (show x0e l f t=if (x0d l).2 ≠ 0 then (x0d l).2 else if f < 0\/t < f\/(l.length:Int) < t then 1 else 0 from rfl)
 generalize x0e l f t=cv at *
 clear h hr
 generalize x0d l=ck at *
 obtain⟨f1,f2⟩:=ck
 cases b1:decide (f2=0) <;> cases b2:decide (f < 0) <;> cases b3:decide (t < f) <;> cases b4:decide ((l.length:Int) < t)
 all_goals
  have c1:(f2 != 0)=!decide (f2=0):=rfl
  rw[b1] at c1
  simp only[Bool.not_false,Bool.not_true] at c1
  have c3:decide (t > (l.length:Int))=decide ((l.length:Int) < t):=rfl
  rw[b4] at c3
  have c4:decide (f > t)=decide (t < f):=rfl
  rw[b3] at c4
  have HB:=mK (And.intro b1 (And.intro b2 (And.intro b3 b4)))
  clear b1
  go_enter Tryz.func86,Tryz.ntmps86
  go_wp2_with (go_at_call 16;refine HCK.o.mono ?_;rintro r w1 ⟨rfl,hu⟩;have HU1:=mK hu;clear hu)
  go_ret
  refine⟨?_,HU1.o⟩
  obtain⟨d1,d2,d3,d4⟩:=HB.o
  simp only[decide_eq_true_eq,decide_eq_false_iff_not] at d1 d2 d3 d4
  rw[HV.o]
  show Ending.returned (Value.int IntKind.i64 _)=_
  congr 2
  (repeat' split) <;> omega
theorem told12_calls {cs n:Nat} {s:StepD} {x:List Tok} {e:Int} (hd:∀ W,Pure w W->Calls Tryz.prog 100 #[.pointer (some ⟨cb,0,none⟩),.slice A n c,s.val B cs] W (DocR9 W x e)) :
 Calls Tryz.prog 87 #[.pointer (some ⟨cb,0,none⟩),.slice A n c,s.val B cs] w (fun r w'=>ToldR (s.val B cs) e r/\Pure w w'):=by
 have HD:=mK hd
 clear hd
 unfold StepD.val at *
 by_cases h0:e=0
 ·subst h0
  go_enter Tryz.func87,Tryz.ntmps87
  go_wp2_with (go_at_call 100;refine(HD.o _ (aP.alloc _)).mono ?_;rintro r w1 hd;obtain⟨⟨B1,c1,rfl,_,hrow⟩,hu⟩:=DocR9.zero hd;obtain⟨hb1,hb2,hu2⟩:=x0s hu;obtain⟨q0,q1,q2,q3,q4,q5,q6,q7⟩:=x06 hb1;have HQ:=mK (lB hb1);have HB1:=mK hb2;have HU1:=mK hu2;clear hd hu hb1 hb2 hu2 hrow;apply As.o)
  refine⟨?_⟩
  have hql:=HQ.o
  have hbl:(w.heap.size+1) < w1.heap.size:=lB HB1.o
  have hcf:=fZ HB1.o
  obtain⟨k0,k1,k2,k3,k4,k5,k6,k7⟩:=x06 HB1.o
  go_wp2
  exact bodyPost_ret (step_end (rb:=(w.heap.size+1)) rfl _ rfl (set8 (rb:=(w.heap.size+1)) HB1.o _ _ _ _ _ _ _ _)) rfl ⟨.inl ⟨rfl,rfl⟩,x05 HU1.o (by omega) _ _ _ _ _ _ _ _⟩
 ·have HN:=mK h0
  have f0:(e != 0)=true:=by simpa using h0
  clear h0
  go_enter Tryz.func87,Tryz.ntmps87
  go_wp2_with (go_at_call 100;refine(HD.o _ (aP.alloc _)).mono ?_;rintro r w1 hd;obtain⟨rfl,hu⟩:=DocR9.ne hd HN.o;obtain⟨_,hb2,hu2⟩:=x0s hu;have HB1:=mK hb2;have HU1:=mK hu2;clear hd hu hb2 hu2;apply As.o)
  refine⟨?_⟩
  have hbl:(w.heap.size+1) < w1.heap.size:=lB HB1.o
  have hcf:=fZ HB1.o
  obtain⟨k0,k1,k2,k3,k4,k5,k6,k7⟩:=x06 HB1.o
  go_wp2
  exact bodyPost_ret (step_end (rb:=(w.heap.size+1)) rfl _ rfl (set8 (rb:=(w.heap.size+1)) HB1.o _ _ _ _ _ _ _ _)) rfl ⟨.inr ⟨HN.o,rfl⟩,x05 HU1.o (by omega) _ _ _ _ _ _ _ _⟩
theorem x59 {cs:Nat} {l:List Tok} {s:StepD} (h:H6 w cb) (hr:tokR.row w F A l) (hb:l.length<=1048576 * 4) (hd:Dn w A c l B cs s) :
 Calls Tryz.prog 87 #[.pointer (some ⟨cb,0,none⟩),.slice A l.length c,s.val B cs] w (Told (toldS s (x08 l s)) (toldB B (x08 l s)) (toldC cs (x08 l s)) (x08 l s) w):=
 (told12_calls (fun W hW=>Do10_calls (h.pure hW) (Rp.x01 hr hW) hb (hd.pure hW))).mono (fun _ _ h=>ToldR.told h)
theorem doc_ne {l:List Tok} (h:(x0d l).2=0):l ≠ []:=by
 rintro rfl
 rw[awake_nil] at h
 exact absurd h (by decide)
theorem tell_doc {cs:Nat} {l:List Tok} {s:StepD} (h:SchR w cb x02 x07) (hr:tokR.row w F A l) (hb:l.length<=1048576 * 4) (hs:tokR.row w G B s.sl) (hsb:s.sl.length<=1048576 * 4)
 (hd:(x0a l).2=0->x0q s=0->s.tt<=l.length->DoC w A c l B cs s) :
 Calls Tryz.prog 91 #[deskV cb A l.length c,s.val B cs] w (Told (toldS s (x08 l s)) (toldB B (x08 l s)) (toldC cs (x08 l s)) (x08 l s) w):=
 (tell_calls (fun W hW=>Do_calls (h.pure hW) (fun V hV=>Apply_calls (s:=s) (Rp.x01 (Rp.x01 hr hW) hV) (Rp.x01 (Rp.x01 hs hW) hV) hb hsb (fun h0 h1 h2=>((hd h0 h1 h2).pure hW).pure hV)))).mono (fun _ _ h=>ToldR.told h)
/-- The marks are turned from p on, at j tokens. -/
def turned (k m:Int) (l:List Tok) (p j:Nat):List Tok:=l.take p ++ ((l.take (p+j)).drop p).map (turnT k m) ++ l.drop (p+j)
theorem x65 {l:List Tok} (h:(x0a l).2=0):∀ x ∈ l,x0p x=true:=by
 unfold x0a at h
 split at h
 ·simp at h
 ·exact fc_rights l 0 0 ((fcGo_run l 0 0).1 h)
theorem twin_same {c':Nat} {s:StepD} (ha:tokR.row w F A s.sl) (hb:tokR.row w G B s.sl) (hl:s.sl.length<=1048576 * 4) :
 Calls Tryz.prog 88 #[s.val A c,s.val B c'] w fun r w'=>r=.returned (.bool true)/\Pure w w':=by
 have HAL:=mK (fun W (hu:Pure w W)=>Alike_same (c:=c) (c':=c') (Rp.x01 ha hu) (Rp.x01 hb hu) hl)
 clear ha hb
 unfold StepD.val at *
 go_enter Tryz.func88,Tryz.ntmps88
 go_wp2_with (go_at_call 139;refine(HAL.o _ (aU.alloc _)).mono ?_;rintro r w1 ⟨rfl,hu⟩;have HU1:=mK ((aP.alloc _).tt hu);clear hu)
 go_ret
 exact⟨rfl,HU1.o⟩
theorem x5m {c':Nat} {s:StepD} {e:Int} (ha:tokR.row w F A s.sl) (hb:tokR.row w G B s.sl) (hl:s.sl.length<=1048576 * 4) :
 Calls Tryz.prog 33 #[s.val A c,.int .i64 e,s.val B c',.int .i64 e] w fun r w'=>r=.returned (.bool true)/\Pure w w':=by
 have HTW:=mK (fun W (hu:Pure w W)=>twin_same (c:=c) (c':=c') (Rp.x01 ha hu) (Rp.x01 hb hu) hl)
 clear ha hb
 unfold StepD.val at *
 go_enter Tryz.func33,Tryz.ntmps33
 go_wp2_with (go_at_call 88;refine(HTW.o _ (aU.alloc _)).mono ?_;rintro r w1 ⟨rfl,hu⟩;have HU1:=mK ((aP.alloc _).tt hu);clear hu)
 go_ret
 exact⟨rfl,HU1.o⟩
end Go.Proofs.YtofjodppljnlaaaGreatDoor
