/- My own texts, packed: Fit13, FitFits. -/
import Derived.Test.YtofjodppljnlaaaGreatDoorP37
import Derived.Test.YtofjodppljnlaaaGreatDoorP30
set_option maxRecDepth 100000
set_option maxHeartbeats 4000000
set_option linter.unusedVariables false
set_option linter.unusedSimpArgs false
variable {w w1 W:Go.World} {F G:Nat → Prop} {A B:Option Go.Addr} {cb c:Nat}
namespace Go.Proofs.YtofjodppljnlaaaGreatDoor
open Go.RowKit
theorem Fit13_no {T:Option Addr} {ct:Nat} {l sl:List Tok} {f t:Int} (h:H6 w cb) (hr:tokR.row w F A l) (hlc:l.length<=c) (h1:l.length<=200) (hx:tokR.row w G T sl) (hct:sl.length<=ct) (hxb:sl.length<=1000) (he:x21 l f t sl ≠ 0) :
 Calls Tryz.prog 40 #[.pointer (some ⟨cb,0,none⟩),.slice A l.length c,.int .i64 f,.int .i64 t,.slice T sl.length ct] w (fun r w'=>r=.returned (.tuple #[step0,.int .i64 0,.int .i64 (x21 l f t sl)])/\Pure w w'):=by
 have HC:=mK (fun W (hu:Pure w W)=>x3v (c:=c) (h.pure hu) (Rp.x01 hr hu) hlc (by omega))
 have HX:=mK hx
 have HE:=mK (show x21 l f t sl=if x0e l f t ≠ 0 then x0e l f t else if ¬ allR sl then 1 else if 2048 < sl.length then 2 else 0 from rfl)
 have HP:=mK (show x0e l f t=if (x0d l).2 ≠ 0 then (x0d l).2 else if f < 0\/t < f\/(l.length:Int) < t then 1 else 0 from rfl)
 have HN:=mK he
 clear h hr hx he
 generalize x21 l f t sl=fe at *
 generalize x0e l f t=pe at *
 generalize (x0d l).2=e at *
 generalize (x0d l).1=e1 at *
 by_cases h0:e=0
 ·subst h0
  rw[if_neg (by omega)] at HP
  by_cases hbd:f < 0\/t < f\/(l.length:Int) < t
  ·rw[if_pos hbd] at HP
   have HF:=mK (show fe=1 by rw[HE.o,HP.o];rfl)
   clear HE HP HN
   by_cases b1:f < 0
   ·clear hbd
    go_enter Tryz.func40,Tryz.ntmps40
    go_wp2_with (go_at_call 16;refine(HC.o _ aU).mono ?_;rintro r w1 ⟨rfl,hu⟩;obtain⟨hb1,hu1⟩:=x0i hu;have HB1:=mK hb1;have HU1:=mK hu1;clear hu hb1 hu1;apply As.o)
    refine⟨?_⟩
    have hbl:w.heap.size < w1.heap.size:=lB HB1.o
    have hcf:=fZ HB1.o
    obtain⟨k0,k1,k2,k3,k4,k5,k6,k7⟩:=x06 HB1.o
    go_wp2
    exact bodyPost_ret (x2d (rb:=w.heap.size) rfl _ rfl (set8 (rb:=w.heap.size) HB1.o _ _ _ _ _ _ _ _)) rfl ⟨by rw[HF.o];rfl,x05 HU1.o (Nat.le_refl _) _ _ _ _ _ _ _ _⟩
   ·by_cases b2:t < f
    ·clear hbd
     go_enter Tryz.func40,Tryz.ntmps40
     go_wp2_with (go_at_call 16;refine(HC.o _ aU).mono ?_;rintro r w1 ⟨rfl,hu⟩;obtain⟨hb1,hu1⟩:=x0i hu;have HB1:=mK hb1;have HU1:=mK hu1;clear hu hb1 hu1;apply As.o)
     refine⟨?_⟩
     have hbl:w.heap.size < w1.heap.size:=lB HB1.o
     have hcf:=fZ HB1.o
     obtain⟨k0,k1,k2,k3,k4,k5,k6,k7⟩:=x06 HB1.o
     go_wp2
     exact bodyPost_ret (x2d (rb:=w.heap.size) rfl _ rfl (set8 (rb:=w.heap.size) HB1.o _ _ _ _ _ _ _ _)) rfl ⟨by rw[HF.o];rfl,x05 HU1.o (Nat.le_refl _) _ _ _ _ _ _ _ _⟩
    ·have b3:(l.length:Int) < t:=by omega
     clear hbd
     go_enter Tryz.func40,Tryz.ntmps40
     go_wp2_with (go_at_call 16;refine(HC.o _ aU).mono ?_;rintro r w1 ⟨rfl,hu⟩;obtain⟨hb1,hu1⟩:=x0i hu;have HB1:=mK hb1;have HU1:=mK hu1;clear hu hb1 hu1;apply As.o)
     refine⟨?_⟩
     have hbl:w.heap.size < w1.heap.size:=lB HB1.o
     have hcf:=fZ HB1.o
     obtain⟨k0,k1,k2,k3,k4,k5,k6,k7⟩:=x06 HB1.o
     go_wp2
     exact bodyPost_ret (x2d (rb:=w.heap.size) rfl _ rfl (set8 (rb:=w.heap.size) HB1.o _ _ _ _ _ _ _ _)) rfl ⟨by rw[HF.o];rfl,x05 HU1.o (Nat.le_refl _) _ _ _ _ _ _ _ _⟩
  ·rw[if_neg hbd] at HP
   rw[HP.o,if_neg (by decide)] at HE
   have b1:¬ f < 0:=by omega
   have b2:¬ t < f:=by omega
   have b3:¬ (l.length:Int) < t:=by omega
   clear hbd HP
   go_enter Tryz.func40,Tryz.ntmps40
   go_wp2_with (go_at_call 16;refine(HC.o _ aU).mono ?_;rintro r w1 ⟨rfl,hu⟩;obtain⟨hb1,hu1⟩:=x0i hu;have HB1:=mK hb1;have HU1:=mK hu1;clear hu hb1 hu1;apply As.o)
   refine⟨?_⟩
   go_wp2
   go_loopg [15] sl.length (fun g i wr=>∃ k:Nat,k+g=sl.length/\i=.int .i64 k/\As (Pure w1 wr)/\As (∀ x ∈ sl.take k,x0p x=true))
   case atStart=>exact⟨0,by omega,rfl,⟨Upd.refl _ _⟩,⟨by simp⟩⟩
   case round=>
    obtain⟨k,hk,rfl,HW,HA⟩:=hrel
    by_cases hlt:k < sl.length
    ·obtain⟨x,hxx⟩:=gS hlt
     obtain⟨g1,rfl⟩:=sC1 (by omega:0 < gk)
     have HUR:=mK (HU1.o.tt HW.o)
     obtain⟨bt,ot,rfl,hFb,hbb,d0,d1,d2,d3⟩:=x0j (Rp.x01 HX.o HUR.o) hxx
     have HBR:=mK (kP HW.o HB1.o)
     have HXX:=mK hxx
     have HK:=mK hk
     have hkd:decide ((k:Int) < (sl.length:Int))=true:=decide_eq_true (by omega)
     clear hxx hk
     cases hrx:x0p x
     ·have HRX:=mK hrx
      clear hrx
      go_wp2_with (go_at_call 97;refine(x4q (x:=x) HRX.o _).mono ?_;rintro r w2 ⟨rfl,hu⟩;have HB2:=mK (kP hu HBR.o);have HU2:=mK (HUR.o.tt hu);clear hu;apply As.o)
      refine⟨?_⟩
      clear d0 d1 d2 d3
      have hbl:w.heap.size < w2.heap.size:=lB HB2.o
      have hcf:=fZ HB2.o
      obtain⟨k0,k1,k2,k3,k4,k5,k6,k7⟩:=x06 HB2.o
      go_wp2
      have hna:¬ allR sl:=fun hp=>by have:=hp x (List.mem_of_getElem? HXX.o);rw[HRX.o] at this;cases this
      exact bodyPost_ret (x2d (rb:=w.heap.size) rfl _ rfl (set8 (rb:=w.heap.size) HB2.o _ _ _ _ _ _ _ _)) rfl ⟨by rw[HE.o,if_pos hna];rfl,x05 HU2.o (Nat.le_refl _) _ _ _ _ _ _ _ _⟩
     ·have HRX:=mK hrx
      clear hrx
      go_wp2_with (go_at_call 97;refine(x4q (x:=x) HRX.o _).mono ?_;rintro r w2 ⟨rfl,hu⟩;have HP2:=mK (HW.o.tt hu);clear hu)
      go_roundg g1
      case measure=>omega
      case rel=>exact⟨k+1,by have:=HK.o;omega,by go_num,HP2,⟨fun y hy=>by
       rw[List.take_add_one,HXX.o] at hy
       rcases List.mem_append.1 hy with hy | hy
       ·exact HA.o y hy
       ·simp at hy;rw[hy];exact HRX.o⟩⟩
    ·exfalso
     obtain rfl:k=sl.length:=by omega
     have ha:allR sl:=fun x hx=>HA.o x (by rw[List.take_length];exact hx)
     rw[if_neg (fun h=>h ha),if_neg (by omega)] at HE
     exact HN.o HE.o
 ·rw[if_pos h0] at HP
  have HF:=mK (show fe=e by rw[HE.o,HP.o,if_pos h0])
  have f0:(e != 0)=true:=by simpa using h0
  clear HE HP HN h0
  go_enter Tryz.func40,Tryz.ntmps40
  go_wp2_with (go_at_call 16;refine(HC.o _ aU).mono ?_;rintro r w1 ⟨rfl,hu⟩;obtain⟨hb1,hu1⟩:=x0i hu;have HB1:=mK hb1;have HU1:=mK hu1;clear hu hb1 hu1;apply As.o)
  refine⟨?_⟩
  have hbl:w.heap.size < w1.heap.size:=lB HB1.o
  have hcf:=fZ HB1.o
  obtain⟨k0,k1,k2,k3,k4,k5,k6,k7⟩:=x06 HB1.o
  go_wp2
  exact bodyPost_ret (x2d (rb:=w.heap.size) rfl _ rfl (set8 (rb:=w.heap.size) HB1.o _ _ _ _ _ _ _ _)) rfl ⟨by rw[HF.o];rfl,x05 HU1.o (Nat.le_refl _) _ _ _ _ _ _ _ _⟩
theorem Fit13_go {T:Option Addr} {ct:Nat} {l sl:List Tok} {f t:Int} (h:H6 w cb) (hr:tokR.row w F A l) (hlc:l.length<=c) (h1:l.length<=200) (hx:tokR.row w G T sl) (hct:sl.length<=ct) (hxb:sl.length<=1000) (he:x21 l f t sl=0) :
 Calls Tryz.prog 40 #[.pointer (some ⟨cb,0,none⟩),.slice A l.length c,.int .i64 f,.int .i64 t,.slice T sl.length ct] w (FitY w l f t sl):=by
 obtain⟨ok,b1,b2,b3,hall,_⟩:=fmay_zero.1 he
 have hne:=x3b ok
 have HC:=mK (fun W (hu:Pure w W)=>x3v (c:=c) (h.pure hu) (Rp.x01 hr hu) hlc (by omega))
 rw[ok] at HC
 generalize (x0d l).1=e1 at *
 have HX:=mK hx
 have HA:=mK hall
 obtain⟨sp,hb,hsp,hhb⟩:∃ sp hb,sp=(holdE l f).1/\hb=(holdE l f).2:=⟨_,_,rfl,rfl⟩
 have HH:=mK (fun W (hu:Pure w W)=>Holds6_any (c:=c) (n:=f) (h.pure hu) (Rp.x01 hr hu) (by omega) hlc)
 rw[<- hsp,<- hhb] at HH
 have HPL:=mK (fun W (hu:Pure w W)=>Plain13_calls (c:=ct) (s:=sp) (Rp.x01 hx hu) (by omega))
 have HCL:=mK (fun W (hu:Pure w W)=>Closed13_calls (c:=ct) (Rp.x01 hx hu) (by omega))
 have HPN:=mK (plain_len sl sp)
 have HFM:=mK he
 have HQ0:As (wayN l f sl 0=sl):=⟨rfl⟩
 have HQ1:As (wayN l f sl 1=closed sl):=⟨rfl⟩
 have HQ2:As (wayN l f sl 2=if hb=true then plain sl sp else []):=⟨by rw[hsp,hhb];rfl⟩
 have HQ3:As (wayN l f sl 3=[]):=⟨rfl⟩
 have HCN:=mK (closed_len2 sl)
 have HD:=mK (fun W (hu:Pure w W) B cs (xs:List Tok) (hrow:tokR.row W (fun _=>True) B xs) (hcs:xs.length<=cs) (hxs:xs.length<=100000)=>Do10_calls (s:=repl f t xs) (h.pure hu) (Rp.x01 hr hu) (by omega) (dn_repl (f:=f) (t:=t) hne (Rp.x01 hr hu) hlc hrow hcs (by omega)))
 have t0:¬ f < 0:=by omega
 have t1:¬ t < f:=by omega
 have t2:¬ (l.length:Int) < t:=by omega
 clear h hr hx hall he ok hsp hhb
 unfold Spec.val at *
 cases hb
 all_goals
  first | rw[if_neg (by decide)] at HQ2 | rw[if_pos rfl] at HQ2
 case' false=>
  go_enter Tryz.func40,Tryz.ntmps40
  go_wp2_with (go_at_call 16;refine(HC.o _ aU).mono ?_;rintro r w1 ⟨rfl,hu⟩;obtain⟨hb1,hu1⟩:=x0i hu;have HB1:=mK hb1;have HU1:=mK hu1;clear hu hb1 hu1;apply As.o)
  refine⟨?_⟩
  go_wp2
  go_loopg [15] sl.length (fun g i wr=>∃ k:Nat,k+g=sl.length/\i=.int .i64 k/\As (Pure w1 wr))
  case atStart=>exact⟨0,by omega,rfl,⟨Upd.refl _ _⟩⟩
  case round=>
   obtain⟨k,hk,rfl,HW⟩:=hrel
   have HUR:=mK (HU1.o.tt HW.o)
   have HBR:=mK (kP HW.o HB1.o)
   by_cases hlt:k < sl.length
   ·obtain⟨x,hxx⟩:=gS hlt
    obtain⟨g1,rfl⟩:=sC1 (by omega:0 < gk)
    obtain⟨bt,ot,rfl,hFb,hbb,d0,d1,d2,d3⟩:=x0j (Rp.x01 HX.o HUR.o) hxx
    have HRX:=mK (HA.o x (List.mem_of_getElem? hxx))
    have HK:=mK hk
    have hkd:decide ((k:Int) < (sl.length:Int))=true:=decide_eq_true (by omega)
    clear hxx hk
    go_wp2_with (go_at_call 97;refine(x4q (x:=x) HRX.o _).mono ?_;rintro r w2 ⟨rfl,hu⟩;have HP2:=mK (HW.o.tt hu);clear hu)
    go_roundg g1
    case measure=>omega
    case rel=>exact⟨k+1,by have:=HK.o;omega,by go_num,HP2⟩
   ·obtain rfl:k=sl.length:=by omega
    have hkd:decide ((sl.length:Int) < (sl.length:Int))=false:=decide_eq_false (by omega)
    have hkm:decide ((2048:Int) < (sl.length:Int))=false:=decide_eq_false (by omega)
    have hkn:decide (2048 < sl.length)=false:=decide_eq_false (by omega)
    go_wp2_with (go_at_call 18;refine(HH.o wr HUR.o).mono ?_;rintro r w3 ⟨rfl,hu⟩;have HU3:=mK (HUR.o.tt hu);have HB3:=mK (kP hu HBR.o);clear hu;apply As.o)
    refine⟨?_⟩
    go_wp2_with (go_at_call 98;refine(HPL.o _ (HU3.o.alloc _)).mono ?_;rintro r w4 ⟨v4,rfl,ho,hu⟩;obtain⟨A4,c4,rfl,hc4,hrow4⟩:=Rp.x0c ho;have hu4:=aP.tt hu;have HU4:=mK (HU3.o.tt hu4);have HB4:=mK (kP hu4 HB3.o);have HR4:=mK hrow4;have HC4:=mK hc4;clear ho hu hu4 hrow4 hc4;apply As.o)
    refine⟨?_⟩
    go_wp2_with (go_at_call 99;refine(HCL.o _ HU4.o).mono ?_;rintro r w5 ⟨v5,rfl,ho,hu⟩;obtain⟨A5,c5,rfl,hc5,hrow5⟩:=Rp.x0c ho;have HU5:=mK (HU4.o.tt hu);have HB5:=mK (kP hu HB4.o);have HR5:=mK hrow5;have HC5:=mK hc5;have HR45:=mK (Rp.x01 HR4.o hu);clear ho hu hrow5 hc5;apply As.o)
    refine⟨?_⟩
    go_wp2
    have HWB:=mK (heap_alloc_new w5 (.cells #[.slice T sl.length ct,.slice A5 (closed sl).length c5,.slice none 0 0,.slice none 0 0] 22))
    have HP6:=mK (Upd.alloc1 (fun _=>False) w5 (.cells #[.slice T sl.length ct,.slice A5 (closed sl).length c5,.slice none 0 0,.slice none 0 0] 22))
    have HU6:=mK (HU5.o.tt HP6.o)
    have HB6:=mK (kP HP6.o HB5.o)
    generalize hw6:w5.alloc (.cells #[.slice T sl.length ct,.slice A5 (closed sl).length c5,.slice none 0 0,.slice none 0 0] 22)=w6 at *
    generalize w5.heap.size=wb at *
    have HX6:=mK (Rp.x09 (Rp.x01 (Rp.row_here HX.o) HU6.o) (G:=fun k=>k ≠ w.heap.size) (fun k h=>by omega))
    have HR56:=mK (Rp.x09 (Rp.x01 HR5.o HP6.o) (G:=fun k=>k ≠ w.heap.size) (fun k h=>by have:=lt_of_block HB4.o;omega))
    have HR46:=mK (Rp.x09 (Rp.x01 HR45.o HP6.o) (G:=fun k=>k ≠ w.heap.size) (fun k h=>by have:=lt_of_block HB3.o;simp at h;omega))
    clear hw6
    go_loopg [20] 4 (fun g i wr=>∃ k:Nat,k+g=4/\i=.int .i64 (k:Nat)/\As (Pure w6 wr)/\As (∀ j,j < k->x08 l (repl f t (wayN l f sl j)) ≠ 0))
    case atStart=>exact⟨0,by omega,rfl,⟨Upd.refl _ _⟩,⟨fun j h=>absurd h (Nat.not_lt_zero j)⟩⟩
    case round=>
     obtain⟨k,hk,rfl,HV,HK⟩:=hrel
     have HUV:=mK (HU6.o.tt HV.o)
     have HBV:=mK (kP HV.o HB6.o)
     have hwv:=kP HV.o HWB.o
     have hwl:wb < wr.heap.size:=lB hwv
     have hw0:wr.cell? ⟨wb,0,none⟩=some (.slice T sl.length ct):=by simp[World.cell?,hwv]
     have hw1:wr.cell? ⟨wb,1,none⟩=some (.slice A5 (closed sl).length c5):=by simp[World.cell?,hwv]
     have hw2:wr.cell? ⟨wb,2,none⟩=some (.slice none 0 0):=by simp[World.cell?,hwv]
     have hw3:wr.cell? ⟨wb,3,none⟩=some (.slice none 0 0):=by simp[World.cell?,hwv]
     clear hwv
     rcases(by omega:k=0\/k=1\/k=2\/k=3\/k=4) with rfl | rfl | rfl | rfl | rfl
     ·have HLN:=mK (show (sl:List Tok).length<=100000 by omega)
      have HXV:=mK (Rp.x01 (HX6.o) HV.o)
      by_cases hez:x08 l (repl f t (sl))=0
      ·have HEZ:=mK hez
       clear hez
       go_wp2_with (go_at_call 100;refine(HD.o (wr.alloc _) (HUV.o.alloc _) T ct (sl) (Rp.x09 (Rp.x01 HXV.o aU) (fun _ _=>trivial)) (hct) HLN.o).mono ?_;rintro r w7 hd;obtain⟨⟨B7,c7,rfl,_⟩,hu⟩:=DocR9.zero (HEZ.o ▸ hd);obtain⟨hs7,hu7⟩:=x0i hu;have HS7:=mK hs7;have HP7:=mK hu7;clear hd hu hu7 hs7;apply As.o)
       refine⟨?_⟩
       have HU7:=mK (HUV.o.tt HP7.o)
       have HB7:=mK (kP HP7.o HBV.o)
       obtain⟨s0,s1,s2,s3,s4,s5,s6,s7⟩:=x06 HS7.o
       have hbl:w.heap.size < w7.heap.size:=lB HB7.o
       have hcf:=fZ HB7.o
       obtain⟨k0,k1,k2,k3,k4,k5,k6,k7⟩:=x06 HB7.o
       go_wp2
       exact bodyPost_ret (x2d (rb:=w.heap.size) rfl _ rfl (set8 (rb:=w.heap.size) HB7.o _ _ _ _ _ _ _ _)) rfl ⟨repl f t (sl),T,ct,1,0,rfl,x2e.at' HFM.o 0 (by decide) HK.o HQ0.o HEZ.o rfl,x05 HU7.o (Nat.le_refl _) _ _ _ _ _ _ _ _,Rp.x09 (Rp.x0f (Rp.x01 HXV.o HP7.o) (x0b (rb:=w.heap.size) (Upd.refl (fun k=>k=w.heap.size) _) _ _ _ _ _ _ _ _) (fun k _ h e=>h e)) (fun _ _=>trivial),HLN.o⟩
      ·have HEZ:=mK hez
       have e0:(x08 l (repl f t (sl)) == 0)=false:=by simpa using hez
       obtain rfl:gk=4:=by omega
       clear hez
       go_wp2_with (go_at_call 100;refine(HD.o (wr.alloc _) (HUV.o.alloc _) T ct (sl) (Rp.x09 (Rp.x01 HXV.o aU) (fun _ _=>trivial)) (hct) HLN.o).mono ?_;rintro r w7 hd;obtain⟨rfl,hu⟩:=DocR9.ne hd HEZ.o;obtain⟨hs7,hu7⟩:=x0i hu;have HS7:=mK hs7;have HP7:=mK hu7;clear hd hu hu7 hs7;apply As.o)
       refine⟨?_⟩
       go_wp2
       go_roundg 3
       case measure=>omega
       case rel=>exact⟨1,by omega,by first | rfl | go_num,⟨HV.o.tt HP7.o⟩,⟨x2k 0 HK.o HQ0.o HEZ.o⟩⟩
     ·have HLN:=mK (show (closed sl:List Tok).length<=100000 by have:=HCN.o;omega)
      have HXV:=mK (Rp.x01 (HR56.o) HV.o)
      by_cases hez:x08 l (repl f t (closed sl))=0
      ·have HEZ:=mK hez
       clear hez
       go_wp2_with (go_at_call 100;refine(HD.o (wr.alloc _) (HUV.o.alloc _) A5 c5 (closed sl) (Rp.x09 (Rp.x01 HXV.o aU) (fun _ _=>trivial)) (HC5.o) HLN.o).mono ?_;rintro r w7 hd;obtain⟨⟨B7,c7,rfl,_⟩,hu⟩:=DocR9.zero (HEZ.o ▸ hd);obtain⟨hs7,hu7⟩:=x0i hu;have HS7:=mK hs7;have HP7:=mK hu7;clear hd hu hu7 hs7;apply As.o)
       refine⟨?_⟩
       have HU7:=mK (HUV.o.tt HP7.o)
       have HB7:=mK (kP HP7.o HBV.o)
       obtain⟨s0,s1,s2,s3,s4,s5,s6,s7⟩:=x06 HS7.o
       have hbl:w.heap.size < w7.heap.size:=lB HB7.o
       have hcf:=fZ HB7.o
       obtain⟨k0,k1,k2,k3,k4,k5,k6,k7⟩:=x06 HB7.o
       go_wp2
       exact bodyPost_ret (x2d (rb:=w.heap.size) rfl _ rfl (set8 (rb:=w.heap.size) HB7.o _ _ _ _ _ _ _ _)) rfl ⟨repl f t (closed sl),A5,c5,2,0,rfl,x2e.at' HFM.o 1 (by decide) HK.o HQ1.o HEZ.o rfl,x05 HU7.o (Nat.le_refl _) _ _ _ _ _ _ _ _,Rp.x09 (Rp.x0f (Rp.x01 HXV.o HP7.o) (x0b (rb:=w.heap.size) (Upd.refl (fun k=>k=w.heap.size) _) _ _ _ _ _ _ _ _) (fun k _ h e=>h e)) (fun _ _=>trivial),HLN.o⟩
      ·have HEZ:=mK hez
       have e0:(x08 l (repl f t (closed sl)) == 0)=false:=by simpa using hez
       obtain rfl:gk=3:=by omega
       clear hez
       go_wp2_with (go_at_call 100;refine(HD.o (wr.alloc _) (HUV.o.alloc _) A5 c5 (closed sl) (Rp.x09 (Rp.x01 HXV.o aU) (fun _ _=>trivial)) (HC5.o) HLN.o).mono ?_;rintro r w7 hd;obtain⟨rfl,hu⟩:=DocR9.ne hd HEZ.o;obtain⟨hs7,hu7⟩:=x0i hu;have HS7:=mK hs7;have HP7:=mK hu7;clear hd hu hu7 hs7;apply As.o)
       refine⟨?_⟩
       go_wp2
       go_roundg 2
       case measure=>omega
       case rel=>exact⟨2,by omega,by first | rfl | go_num,⟨HV.o.tt HP7.o⟩,⟨x2k 1 HK.o HQ1.o HEZ.o⟩⟩
     ·have HLN:=mK (show ([]:List Tok).length<=100000 by simp)
      have HXV:=mK (Rp.x01 ((.inl rfl:tokR.row w6 (fun k=>k ≠ w.heap.size) none [])) HV.o)
      by_cases hez:x08 l (repl f t ([]))=0
      ·have HEZ:=mK hez
       clear hez
       go_wp2_with (go_at_call 100;refine(HD.o (wr.alloc _) (HUV.o.alloc _) none 0 ([]) (Rp.x09 (Rp.x01 HXV.o aU) (fun _ _=>trivial)) (Nat.le_refl _) HLN.o).mono ?_;rintro r w7 hd;obtain⟨⟨B7,c7,rfl,_⟩,hu⟩:=DocR9.zero (HEZ.o ▸ hd);obtain⟨hs7,hu7⟩:=x0i hu;have HS7:=mK hs7;have HP7:=mK hu7;clear hd hu hu7 hs7;apply As.o)
       refine⟨?_⟩
       have HU7:=mK (HUV.o.tt HP7.o)
       have HB7:=mK (kP HP7.o HBV.o)
       obtain⟨s0,s1,s2,s3,s4,s5,s6,s7⟩:=x06 HS7.o
       have hbl:w.heap.size < w7.heap.size:=lB HB7.o
       have hcf:=fZ HB7.o
       obtain⟨k0,k1,k2,k3,k4,k5,k6,k7⟩:=x06 HB7.o
       go_wp2
       exact bodyPost_ret (x2d (rb:=w.heap.size) rfl _ rfl (set8 (rb:=w.heap.size) HB7.o _ _ _ _ _ _ _ _)) rfl ⟨repl f t ([]),none,0,3,0,rfl,x2e.at' HFM.o 2 (by decide) HK.o HQ2.o HEZ.o rfl,x05 HU7.o (Nat.le_refl _) _ _ _ _ _ _ _ _,Rp.x09 (Rp.x0f (Rp.x01 HXV.o HP7.o) (x0b (rb:=w.heap.size) (Upd.refl (fun k=>k=w.heap.size) _) _ _ _ _ _ _ _ _) (fun k _ h e=>h e)) (fun _ _=>trivial),HLN.o⟩
      ·have HEZ:=mK hez
       have e0:(x08 l (repl f t ([])) == 0)=false:=by simpa using hez
       obtain rfl:gk=2:=by omega
       clear hez
       go_wp2_with (go_at_call 100;refine(HD.o (wr.alloc _) (HUV.o.alloc _) none 0 ([]) (Rp.x09 (Rp.x01 HXV.o aU) (fun _ _=>trivial)) (Nat.le_refl _) HLN.o).mono ?_;rintro r w7 hd;obtain⟨rfl,hu⟩:=DocR9.ne hd HEZ.o;obtain⟨hs7,hu7⟩:=x0i hu;have HS7:=mK hs7;have HP7:=mK hu7;clear hd hu hu7 hs7;apply As.o)
       refine⟨?_⟩
       go_wp2
       go_roundg 1
       case measure=>omega
       case rel=>exact⟨3,by omega,by first | rfl | go_num,⟨HV.o.tt HP7.o⟩,⟨x2k 2 HK.o HQ2.o HEZ.o⟩⟩
     ·have HLN:=mK (show ([]:List Tok).length<=100000 by simp)
      have HXV:=mK (Rp.x01 ((.inl rfl:tokR.row w6 (fun k=>k ≠ w.heap.size) none [])) HV.o)
      by_cases hez:x08 l (repl f t ([]))=0
      ·have HEZ:=mK hez
       clear hez
       go_wp2_with (go_at_call 100;refine(HD.o (wr.alloc _) (HUV.o.alloc _) none 0 ([]) (Rp.x09 (Rp.x01 HXV.o aU) (fun _ _=>trivial)) (Nat.le_refl _) HLN.o).mono ?_;rintro r w7 hd;obtain⟨⟨B7,c7,rfl,_⟩,hu⟩:=DocR9.zero (HEZ.o ▸ hd);obtain⟨hs7,hu7⟩:=x0i hu;have HS7:=mK hs7;have HP7:=mK hu7;clear hd hu hu7 hs7;apply As.o)
       refine⟨?_⟩
       have HU7:=mK (HUV.o.tt HP7.o)
       have HB7:=mK (kP HP7.o HBV.o)
       obtain⟨s0,s1,s2,s3,s4,s5,s6,s7⟩:=x06 HS7.o
       have hbl:w.heap.size < w7.heap.size:=lB HB7.o
       have hcf:=fZ HB7.o
       obtain⟨k0,k1,k2,k3,k4,k5,k6,k7⟩:=x06 HB7.o
       go_wp2
       exact bodyPost_ret (x2d (rb:=w.heap.size) rfl _ rfl (set8 (rb:=w.heap.size) HB7.o _ _ _ _ _ _ _ _)) rfl ⟨repl f t ([]),none,0,4,0,rfl,x2e.at' HFM.o 3 (by decide) HK.o HQ3.o HEZ.o rfl,x05 HU7.o (Nat.le_refl _) _ _ _ _ _ _ _ _,Rp.x09 (Rp.x0f (Rp.x01 HXV.o HP7.o) (x0b (rb:=w.heap.size) (Upd.refl (fun k=>k=w.heap.size) _) _ _ _ _ _ _ _ _) (fun k _ h e=>h e)) (fun _ _=>trivial),HLN.o⟩
      ·have HEZ:=mK hez
       have e0:(x08 l (repl f t ([])) == 0)=false:=by simpa using hez
       obtain rfl:gk=1:=by omega
       clear hez
       go_wp2_with (go_at_call 100;refine(HD.o (wr.alloc _) (HUV.o.alloc _) none 0 ([]) (Rp.x09 (Rp.x01 HXV.o aU) (fun _ _=>trivial)) (Nat.le_refl _) HLN.o).mono ?_;rintro r w7 hd;obtain⟨rfl,hu⟩:=DocR9.ne hd HEZ.o;obtain⟨hs7,hu7⟩:=x0i hu;have HS7:=mK hs7;have HP7:=mK hu7;clear hd hu hu7 hs7;apply As.o)
       refine⟨?_⟩
       go_wp2
       go_roundg 0
       case measure=>omega
       case rel=>exact⟨4,by omega,by first | rfl | go_num,⟨HV.o.tt HP7.o⟩,⟨x2k 3 HK.o HQ3.o HEZ.o⟩⟩
     ·have hbl:w.heap.size < wr.heap.size:=lB HBV.o
      have hcf:=fZ HBV.o
      obtain⟨k0,k1,k2,k3,k4,k5,k6,k7⟩:=x06 HBV.o
      go_wp2
      exact bodyPost_ret (x2d (rb:=w.heap.size) rfl _ rfl (set8 (rb:=w.heap.size) HBV.o _ _ _ _ _ _ _ _)) rfl ⟨repl 0 0 [],none,0,0,1,rfl,x2e.none' HFM.o HK.o,x05 HUV.o (Nat.le_refl _) _ _ _ _ _ _ _ _,.inl rfl,by simp[repl]⟩
 case' true=>
  go_enter Tryz.func40,Tryz.ntmps40
  go_wp2_with (go_at_call 16;refine(HC.o _ aU).mono ?_;rintro r w1 ⟨rfl,hu⟩;obtain⟨hb1,hu1⟩:=x0i hu;have HB1:=mK hb1;have HU1:=mK hu1;clear hu hb1 hu1;apply As.o)
  refine⟨?_⟩
  go_wp2
  go_loopg [15] sl.length (fun g i wr=>∃ k:Nat,k+g=sl.length/\i=.int .i64 k/\As (Pure w1 wr))
  case atStart=>exact⟨0,by omega,rfl,⟨Upd.refl _ _⟩⟩
  case round=>
   obtain⟨k,hk,rfl,HW⟩:=hrel
   have HUR:=mK (HU1.o.tt HW.o)
   have HBR:=mK (kP HW.o HB1.o)
   by_cases hlt:k < sl.length
   ·obtain⟨x,hxx⟩:=gS hlt
    obtain⟨g1,rfl⟩:=sC1 (by omega:0 < gk)
    obtain⟨bt,ot,rfl,hFb,hbb,d0,d1,d2,d3⟩:=x0j (Rp.x01 HX.o HUR.o) hxx
    have HRX:=mK (HA.o x (List.mem_of_getElem? hxx))
    have HK:=mK hk
    have hkd:decide ((k:Int) < (sl.length:Int))=true:=decide_eq_true (by omega)
    clear hxx hk
    go_wp2_with (go_at_call 97;refine(x4q (x:=x) HRX.o _).mono ?_;rintro r w2 ⟨rfl,hu⟩;have HP2:=mK (HW.o.tt hu);clear hu)
    go_roundg g1
    case measure=>omega
    case rel=>exact⟨k+1,by have:=HK.o;omega,by go_num,HP2⟩
   ·obtain rfl:k=sl.length:=by omega
    have hkd:decide ((sl.length:Int) < (sl.length:Int))=false:=decide_eq_false (by omega)
    have hkm:decide ((2048:Int) < (sl.length:Int))=false:=decide_eq_false (by omega)
    have hkn:decide (2048 < sl.length)=false:=decide_eq_false (by omega)
    go_wp2_with (go_at_call 18;refine(HH.o wr HUR.o).mono ?_;rintro r w3 ⟨rfl,hu⟩;have HU3:=mK (HUR.o.tt hu);have HB3:=mK (kP hu HBR.o);clear hu;apply As.o)
    refine⟨?_⟩
    go_wp2_with (go_at_call 98;refine(HPL.o _ (HU3.o.alloc _)).mono ?_;rintro r w4 ⟨v4,rfl,ho,hu⟩;obtain⟨A4,c4,rfl,hc4,hrow4⟩:=Rp.x0c ho;have hu4:=aP.tt hu;have HU4:=mK (HU3.o.tt hu4);have HB4:=mK (kP hu4 HB3.o);have HR4:=mK hrow4;have HC4:=mK hc4;clear ho hu hu4 hrow4 hc4;apply As.o)
    refine⟨?_⟩
    go_wp2_with (go_at_call 99;refine(HCL.o _ HU4.o).mono ?_;rintro r w5 ⟨v5,rfl,ho,hu⟩;obtain⟨A5,c5,rfl,hc5,hrow5⟩:=Rp.x0c ho;have HU5:=mK (HU4.o.tt hu);have HB5:=mK (kP hu HB4.o);have HR5:=mK hrow5;have HC5:=mK hc5;have HR45:=mK (Rp.x01 HR4.o hu);clear ho hu hrow5 hc5;apply As.o)
    refine⟨?_⟩
    go_wp2
    have HWB:=mK (heap_alloc_new w5 (.cells #[.slice T sl.length ct,.slice A5 (closed sl).length c5,.slice A4 (plain sl sp).length c4,.slice none 0 0] 22))
    have HP6:=mK (Upd.alloc1 (fun _=>False) w5 (.cells #[.slice T sl.length ct,.slice A5 (closed sl).length c5,.slice A4 (plain sl sp).length c4,.slice none 0 0] 22))
    have HU6:=mK (HU5.o.tt HP6.o)
    have HB6:=mK (kP HP6.o HB5.o)
    generalize hw6:w5.alloc (.cells #[.slice T sl.length ct,.slice A5 (closed sl).length c5,.slice A4 (plain sl sp).length c4,.slice none 0 0] 22)=w6 at *
    generalize w5.heap.size=wb at *
    have HX6:=mK (Rp.x09 (Rp.x01 (Rp.row_here HX.o) HU6.o) (G:=fun k=>k ≠ w.heap.size) (fun k h=>by omega))
    have HR56:=mK (Rp.x09 (Rp.x01 HR5.o HP6.o) (G:=fun k=>k ≠ w.heap.size) (fun k h=>by have:=lt_of_block HB4.o;omega))
    have HR46:=mK (Rp.x09 (Rp.x01 HR45.o HP6.o) (G:=fun k=>k ≠ w.heap.size) (fun k h=>by have:=lt_of_block HB3.o;simp at h;omega))
    clear hw6
    go_loopg [20] 4 (fun g i wr=>∃ k:Nat,k+g=4/\i=.int .i64 (k:Nat)/\As (Pure w6 wr)/\As (∀ j,j < k->x08 l (repl f t (wayN l f sl j)) ≠ 0))
    case atStart=>exact⟨0,by omega,rfl,⟨Upd.refl _ _⟩,⟨fun j h=>absurd h (Nat.not_lt_zero j)⟩⟩
    case round=>
     obtain⟨k,hk,rfl,HV,HK⟩:=hrel
     have HUV:=mK (HU6.o.tt HV.o)
     have HBV:=mK (kP HV.o HB6.o)
     have hwv:=kP HV.o HWB.o
     have hwl:wb < wr.heap.size:=lB hwv
     have hw0:wr.cell? ⟨wb,0,none⟩=some (.slice T sl.length ct):=by simp[World.cell?,hwv]
     have hw1:wr.cell? ⟨wb,1,none⟩=some (.slice A5 (closed sl).length c5):=by simp[World.cell?,hwv]
     have hw2:wr.cell? ⟨wb,2,none⟩=some (.slice A4 (plain sl sp).length c4):=by simp[World.cell?,hwv]
     have hw3:wr.cell? ⟨wb,3,none⟩=some (.slice none 0 0):=by simp[World.cell?,hwv]
     clear hwv
     rcases(by omega:k=0\/k=1\/k=2\/k=3\/k=4) with rfl | rfl | rfl | rfl | rfl
     ·have HLN:=mK (show (sl:List Tok).length<=100000 by omega)
      have HXV:=mK (Rp.x01 (HX6.o) HV.o)
      by_cases hez:x08 l (repl f t (sl))=0
      ·have HEZ:=mK hez
       clear hez
       go_wp2_with (go_at_call 100;refine(HD.o (wr.alloc _) (HUV.o.alloc _) T ct (sl) (Rp.x09 (Rp.x01 HXV.o aU) (fun _ _=>trivial)) (hct) HLN.o).mono ?_;rintro r w7 hd;obtain⟨⟨B7,c7,rfl,_⟩,hu⟩:=DocR9.zero (HEZ.o ▸ hd);obtain⟨hs7,hu7⟩:=x0i hu;have HS7:=mK hs7;have HP7:=mK hu7;clear hd hu hu7 hs7;apply As.o)
       refine⟨?_⟩
       have HU7:=mK (HUV.o.tt HP7.o)
       have HB7:=mK (kP HP7.o HBV.o)
       obtain⟨s0,s1,s2,s3,s4,s5,s6,s7⟩:=x06 HS7.o
       have hbl:w.heap.size < w7.heap.size:=lB HB7.o
       have hcf:=fZ HB7.o
       obtain⟨k0,k1,k2,k3,k4,k5,k6,k7⟩:=x06 HB7.o
       go_wp2
       exact bodyPost_ret (x2d (rb:=w.heap.size) rfl _ rfl (set8 (rb:=w.heap.size) HB7.o _ _ _ _ _ _ _ _)) rfl ⟨repl f t (sl),T,ct,1,0,rfl,x2e.at' HFM.o 0 (by decide) HK.o HQ0.o HEZ.o rfl,x05 HU7.o (Nat.le_refl _) _ _ _ _ _ _ _ _,Rp.x09 (Rp.x0f (Rp.x01 HXV.o HP7.o) (x0b (rb:=w.heap.size) (Upd.refl (fun k=>k=w.heap.size) _) _ _ _ _ _ _ _ _) (fun k _ h e=>h e)) (fun _ _=>trivial),HLN.o⟩
      ·have HEZ:=mK hez
       have e0:(x08 l (repl f t (sl)) == 0)=false:=by simpa using hez
       obtain rfl:gk=4:=by omega
       clear hez
       go_wp2_with (go_at_call 100;refine(HD.o (wr.alloc _) (HUV.o.alloc _) T ct (sl) (Rp.x09 (Rp.x01 HXV.o aU) (fun _ _=>trivial)) (hct) HLN.o).mono ?_;rintro r w7 hd;obtain⟨rfl,hu⟩:=DocR9.ne hd HEZ.o;obtain⟨hs7,hu7⟩:=x0i hu;have HS7:=mK hs7;have HP7:=mK hu7;clear hd hu hu7 hs7;apply As.o)
       refine⟨?_⟩
       go_wp2
       go_roundg 3
       case measure=>omega
       case rel=>exact⟨1,by omega,by first | rfl | go_num,⟨HV.o.tt HP7.o⟩,⟨x2k 0 HK.o HQ0.o HEZ.o⟩⟩
     ·have HLN:=mK (show (closed sl:List Tok).length<=100000 by have:=HCN.o;omega)
      have HXV:=mK (Rp.x01 (HR56.o) HV.o)
      by_cases hez:x08 l (repl f t (closed sl))=0
      ·have HEZ:=mK hez
       clear hez
       go_wp2_with (go_at_call 100;refine(HD.o (wr.alloc _) (HUV.o.alloc _) A5 c5 (closed sl) (Rp.x09 (Rp.x01 HXV.o aU) (fun _ _=>trivial)) (HC5.o) HLN.o).mono ?_;rintro r w7 hd;obtain⟨⟨B7,c7,rfl,_⟩,hu⟩:=DocR9.zero (HEZ.o ▸ hd);obtain⟨hs7,hu7⟩:=x0i hu;have HS7:=mK hs7;have HP7:=mK hu7;clear hd hu hu7 hs7;apply As.o)
       refine⟨?_⟩
       have HU7:=mK (HUV.o.tt HP7.o)
       have HB7:=mK (kP HP7.o HBV.o)
       obtain⟨s0,s1,s2,s3,s4,s5,s6,s7⟩:=x06 HS7.o
       have hbl:w.heap.size < w7.heap.size:=lB HB7.o
       have hcf:=fZ HB7.o
       obtain⟨k0,k1,k2,k3,k4,k5,k6,k7⟩:=x06 HB7.o
       go_wp2
       exact bodyPost_ret (x2d (rb:=w.heap.size) rfl _ rfl (set8 (rb:=w.heap.size) HB7.o _ _ _ _ _ _ _ _)) rfl ⟨repl f t (closed sl),A5,c5,2,0,rfl,x2e.at' HFM.o 1 (by decide) HK.o HQ1.o HEZ.o rfl,x05 HU7.o (Nat.le_refl _) _ _ _ _ _ _ _ _,Rp.x09 (Rp.x0f (Rp.x01 HXV.o HP7.o) (x0b (rb:=w.heap.size) (Upd.refl (fun k=>k=w.heap.size) _) _ _ _ _ _ _ _ _) (fun k _ h e=>h e)) (fun _ _=>trivial),HLN.o⟩
      ·have HEZ:=mK hez
       have e0:(x08 l (repl f t (closed sl)) == 0)=false:=by simpa using hez
       obtain rfl:gk=3:=by omega
       clear hez
       go_wp2_with (go_at_call 100;refine(HD.o (wr.alloc _) (HUV.o.alloc _) A5 c5 (closed sl) (Rp.x09 (Rp.x01 HXV.o aU) (fun _ _=>trivial)) (HC5.o) HLN.o).mono ?_;rintro r w7 hd;obtain⟨rfl,hu⟩:=DocR9.ne hd HEZ.o;obtain⟨hs7,hu7⟩:=x0i hu;have HS7:=mK hs7;have HP7:=mK hu7;clear hd hu hu7 hs7;apply As.o)
       refine⟨?_⟩
       go_wp2
       go_roundg 2
       case measure=>omega
       case rel=>exact⟨2,by omega,by first | rfl | go_num,⟨HV.o.tt HP7.o⟩,⟨x2k 1 HK.o HQ1.o HEZ.o⟩⟩
     ·have HLN:=mK (show (plain sl sp:List Tok).length<=100000 by have:=HPN.o;omega)
      have HXV:=mK (Rp.x01 (HR46.o) HV.o)
      by_cases hez:x08 l (repl f t (plain sl sp))=0
      ·have HEZ:=mK hez
       clear hez
       go_wp2_with (go_at_call 100;refine(HD.o (wr.alloc _) (HUV.o.alloc _) A4 c4 (plain sl sp) (Rp.x09 (Rp.x01 HXV.o aU) (fun _ _=>trivial)) (HC4.o) HLN.o).mono ?_;rintro r w7 hd;obtain⟨⟨B7,c7,rfl,_⟩,hu⟩:=DocR9.zero (HEZ.o ▸ hd);obtain⟨hs7,hu7⟩:=x0i hu;have HS7:=mK hs7;have HP7:=mK hu7;clear hd hu hu7 hs7;apply As.o)
       refine⟨?_⟩
       have HU7:=mK (HUV.o.tt HP7.o)
       have HB7:=mK (kP HP7.o HBV.o)
       obtain⟨s0,s1,s2,s3,s4,s5,s6,s7⟩:=x06 HS7.o
       have hbl:w.heap.size < w7.heap.size:=lB HB7.o
       have hcf:=fZ HB7.o
       obtain⟨k0,k1,k2,k3,k4,k5,k6,k7⟩:=x06 HB7.o
       go_wp2
       exact bodyPost_ret (x2d (rb:=w.heap.size) rfl _ rfl (set8 (rb:=w.heap.size) HB7.o _ _ _ _ _ _ _ _)) rfl ⟨repl f t (plain sl sp),A4,c4,3,0,rfl,x2e.at' HFM.o 2 (by decide) HK.o HQ2.o HEZ.o rfl,x05 HU7.o (Nat.le_refl _) _ _ _ _ _ _ _ _,Rp.x09 (Rp.x0f (Rp.x01 HXV.o HP7.o) (x0b (rb:=w.heap.size) (Upd.refl (fun k=>k=w.heap.size) _) _ _ _ _ _ _ _ _) (fun k _ h e=>h e)) (fun _ _=>trivial),HLN.o⟩
      ·have HEZ:=mK hez
       have e0:(x08 l (repl f t (plain sl sp)) == 0)=false:=by simpa using hez
       obtain rfl:gk=2:=by omega
       clear hez
       go_wp2_with (go_at_call 100;refine(HD.o (wr.alloc _) (HUV.o.alloc _) A4 c4 (plain sl sp) (Rp.x09 (Rp.x01 HXV.o aU) (fun _ _=>trivial)) (HC4.o) HLN.o).mono ?_;rintro r w7 hd;obtain⟨rfl,hu⟩:=DocR9.ne hd HEZ.o;obtain⟨hs7,hu7⟩:=x0i hu;have HS7:=mK hs7;have HP7:=mK hu7;clear hd hu hu7 hs7;apply As.o)
       refine⟨?_⟩
       go_wp2
       go_roundg 1
       case measure=>omega
       case rel=>exact⟨3,by omega,by first | rfl | go_num,⟨HV.o.tt HP7.o⟩,⟨x2k 2 HK.o HQ2.o HEZ.o⟩⟩
     ·have HLN:=mK (show ([]:List Tok).length<=100000 by simp)
      have HXV:=mK (Rp.x01 ((.inl rfl:tokR.row w6 (fun k=>k ≠ w.heap.size) none [])) HV.o)
      by_cases hez:x08 l (repl f t ([]))=0
      ·have HEZ:=mK hez
       clear hez
       go_wp2_with (go_at_call 100;refine(HD.o (wr.alloc _) (HUV.o.alloc _) none 0 ([]) (Rp.x09 (Rp.x01 HXV.o aU) (fun _ _=>trivial)) (Nat.le_refl _) HLN.o).mono ?_;rintro r w7 hd;obtain⟨⟨B7,c7,rfl,_⟩,hu⟩:=DocR9.zero (HEZ.o ▸ hd);obtain⟨hs7,hu7⟩:=x0i hu;have HS7:=mK hs7;have HP7:=mK hu7;clear hd hu hu7 hs7;apply As.o)
       refine⟨?_⟩
       have HU7:=mK (HUV.o.tt HP7.o)
       have HB7:=mK (kP HP7.o HBV.o)
       obtain⟨s0,s1,s2,s3,s4,s5,s6,s7⟩:=x06 HS7.o
       have hbl:w.heap.size < w7.heap.size:=lB HB7.o
       have hcf:=fZ HB7.o
       obtain⟨k0,k1,k2,k3,k4,k5,k6,k7⟩:=x06 HB7.o
       go_wp2
       exact bodyPost_ret (x2d (rb:=w.heap.size) rfl _ rfl (set8 (rb:=w.heap.size) HB7.o _ _ _ _ _ _ _ _)) rfl ⟨repl f t ([]),none,0,4,0,rfl,x2e.at' HFM.o 3 (by decide) HK.o HQ3.o HEZ.o rfl,x05 HU7.o (Nat.le_refl _) _ _ _ _ _ _ _ _,Rp.x09 (Rp.x0f (Rp.x01 HXV.o HP7.o) (x0b (rb:=w.heap.size) (Upd.refl (fun k=>k=w.heap.size) _) _ _ _ _ _ _ _ _) (fun k _ h e=>h e)) (fun _ _=>trivial),HLN.o⟩
      ·have HEZ:=mK hez
       have e0:(x08 l (repl f t ([])) == 0)=false:=by simpa using hez
       obtain rfl:gk=1:=by omega
       clear hez
       go_wp2_with (go_at_call 100;refine(HD.o (wr.alloc _) (HUV.o.alloc _) none 0 ([]) (Rp.x09 (Rp.x01 HXV.o aU) (fun _ _=>trivial)) (Nat.le_refl _) HLN.o).mono ?_;rintro r w7 hd;obtain⟨rfl,hu⟩:=DocR9.ne hd HEZ.o;obtain⟨hs7,hu7⟩:=x0i hu;have HS7:=mK hs7;have HP7:=mK hu7;clear hd hu hu7 hs7;apply As.o)
       refine⟨?_⟩
       go_wp2
       go_roundg 0
       case measure=>omega
       case rel=>exact⟨4,by omega,by first | rfl | go_num,⟨HV.o.tt HP7.o⟩,⟨x2k 3 HK.o HQ3.o HEZ.o⟩⟩
     ·have hbl:w.heap.size < wr.heap.size:=lB HBV.o
      have hcf:=fZ HBV.o
      obtain⟨k0,k1,k2,k3,k4,k5,k6,k7⟩:=x06 HBV.o
      go_wp2
      exact bodyPost_ret (x2d (rb:=w.heap.size) rfl _ rfl (set8 (rb:=w.heap.size) HBV.o _ _ _ _ _ _ _ _)) rfl ⟨repl 0 0 [],none,0,0,1,rfl,x2e.none' HFM.o HK.o,x05 HUV.o (Nat.le_refl _) _ _ _ _ _ _ _ _,.inl rfl,by simp[repl]⟩
theorem twin13_same {c':Nat} {s:StepD} (ha:tokR.row w F A s.sl) (hb:tokR.row w G B s.sl) (hl:s.sl.length<=1048576 * 4) :
 Calls Tryz.prog 41 #[s.val A c,s.val B c'] w fun r w'=>r=.returned (.bool true)/\Pure w w':=by
 have HAL:=mK (fun W (hu:Pure w W)=>Alike13_same (c:=c) (c':=c') (Rp.x01 ha hu) (Rp.x01 hb hu) hl)
 clear ha hb
 unfold StepD.val at *
 go_enter Tryz.func41,Tryz.ntmps41
 go_wp2_with (go_at_call 101;refine(HAL.o _ (aU.alloc _)).mono ?_;rintro r w1 ⟨rfl,hu⟩;have HU1:=mK ((aP.alloc _).tt hu);clear hu)
 go_ret
 exact⟨rfl,HU1.o⟩
theorem awake13x_calls (w:World):Calls Tryz.prog 38 #[] w fun e w'=>e=.returned (.bool true)/\Pure w w':=by
 have hrow:tokR.row (w.alloc (.cells #[.int .i64 1,.int .i64 1,.int .i64 0,.int .i64 0] 71)) (fun _=>True) (some ⟨w.heap.size,0,none⟩) [⟨1,1,0,0⟩]:=
  Rp.x1k (heap_alloc_new w _) trivial (Reps.single rfl rfl)
 have HR:=mK hrow
 clear hrow
 go_enter Tryz.func38,Tryz.ntmps38
 go_wp2_with (go_at_call 94;refine(Closed_calls HR.o (by simp)).mono ?_;rintro e w1 ⟨v,rfl,ho,hu⟩;obtain⟨A,c,rfl,_,_⟩:=Rp.x0c ho;have HU:=mK hu;clear ho hu)
 go_ret
 exact⟨rfl,aU.tt HU.o⟩
theorem FitFits_far {T:Option Addr} {ct:Nat} {l sl:List Tok} {f t:Int} (hf:200 < l.length\/200 < sl.length) :
 Calls Tryz.prog 7 #[.slice A l.length c,.int .i64 f,.int .i64 t,.slice T sl.length ct] w (fun r w'=>r=.returned (.bool true)/\Pure w w'):=by
 have HAW:=mK (fun W=>awake13x_calls W)
 by_cases h1:200 < l.length
 ·have i1:(200:Int) < (l.length:Int):=by omega
  clear hf h1
  go_enter Tryz.func7,Tryz.ntmps7
  go_wp2_with (go_at_call 38;refine(HAW.o _).mono ?_;rintro r w1 ⟨rfl,hu⟩;have HU1:=mK hu;clear hu)
  go_ret
  exact⟨rfl,HU1.o⟩
 ·have i1:¬ (200:Int) < (l.length:Int):=by omega
  have i2:(200:Int) < (sl.length:Int):=by omega
  clear hf h1
  go_enter Tryz.func7,Tryz.ntmps7
  go_wp2_with (go_at_call 38;refine(HAW.o _).mono ?_;rintro r w1 ⟨rfl,hu⟩;have HU1:=mK hu;clear hu)
  go_ret
  exact⟨rfl,HU1.o⟩
theorem Fit13_all {T:Option Addr} {ct:Nat} {l sl:List Tok} {f t:Int} (h:H6 w cb) (hr:tokR.row w F A l) (hlc:l.length<=c) (h1:l.length<=200) (hx:tokR.row w G T sl) (hct:sl.length<=ct) (hxb:sl.length<=1000) :
 Calls Tryz.prog 40 #[.pointer (some ⟨cb,0,none⟩),.slice A l.length c,.int .i64 f,.int .i64 t,.slice T sl.length ct] w (FitY w l f t sl):=by
 by_cases he:x21 l f t sl=0
 ·exact Fit13_go h hr hlc h1 hx hct hxb he
 ·refine(Fit13_no h hr hlc h1 hx hct hxb he).mono ?_
  rintro r w' ⟨rfl,hu⟩
  exact⟨repl 0 0 [],none,0,0,x21 l f t sl,rfl,.inl ⟨he,rfl,rfl,rfl⟩,hu,.inl rfl,by simp[repl]⟩
theorem FitFits_main {T:Option Addr} {ct:Nat} {l sl:List Tok} {f t:Int} (hr:tokR.row w F A l) (hlc:l.length<=c) (hl:l.length<=200) (hx:tokR.row w G T sl) (hxc:sl.length<=ct) (hxl:sl.length<=200) :
 Calls Tryz.prog 7 #[.slice A l.length c,.int .i64 f,.int .i64 t,.slice T sl.length ct] w fun r w'=>r=.returned (.bool true)/\Pure w w':=by
 have HX:=mK hx
 have HF:=mK (fun (W:World) (hu:Pure w W) (q:Nat) (hs:SchR W q x02 x07) (A1:Option Addr) (c1:Nat) (G1:Nat->Prop) (hx1:tokR.row W G1 A1 sl) (hc1:sl.length<=c1)=>Fit_all (ct:=c1) (f:=f) (t:=t) hs (Rp.x01 hr hu) hlc (by omega) hx1 hc1 (by omega))
 have HF6:=mK (fun (W:World) (hu:Pure w W) (q:Nat) (hs:H6 W q)=>Fit13_all (ct:=ct) (f:=f) (t:=t) hs (Rp.x01 hr hu) hlc (by omega) (Rp.x01 hx hu) hxc (by omega))
 have HAW:=mK (fun W=>awake13x_calls W)
 have i1:¬ (200:Int) < (l.length:Int):=by omega
 have i2:¬ (200:Int) < (sl.length:Int):=by omega
 clear hr hx
 unfold FitX at HF
 unfold FitY at HF6
 go_enter Tryz.func7,Tryz.ntmps7
 go_wp2_with (go_at_call 13;refine(x4r w).mono ?_;rintro r w1 ⟨cb,rfl,hs,hu⟩;have HS1:=mK hs;have HU1:=mK hu;clear hu hs;apply As.o)
 refine⟨?_⟩
 have HPB:=mK (HU1.o.alloc (.cells #[] 71))
 go_wp2_with (at_builtin;refine Rp.x1i tokR (c:=ct) (Rp.own_empty0 (F:=fun q=>w1.heap.size<=q) tokR (heap_alloc_new w1 _) (Nat.le_refl _)) (Rp.x1q (Rp.x01 HX.o HPB.o) (fun _ _ h=>h)) (Fz:=fun _=>False) (fun _ h=>h.elim) rfl _ _ 22 (.agg #[.int .i64 0,.int .i64 0,.int .i64 0,.int .i64 0]) 32 rfl Tryz.underlying22 x0y rfl (by decide) (by decide) rfl (by rfl) (by simp only[List.length_nil];omega) ?_;intro v4 w4 ho4 hu4 hat4;rw[List.nil_append] at ho4;obtain⟨A4,c4,rfl,hl4,hr4⟩:=Rp.x0c ho4;have HR4:=mK hr4;have HC4:=mK hl4;have HP24:=mK (Upd.trans (Upd.alloc1 (fun _=>False) w1 (.cells #[] 71)) hu4 (fun q hq h=>by injection h with h;(have e9:w1.heap.size=q:=h);omega));clear ho4 hu4 hat4 hl4 hr4;apply As.o)
 refine⟨?_⟩
 have HS4:=mK (HS1.o.pure HP24.o)
 have HU4:=mK (HU1.o.tt HP24.o)
 go_wp2_with (go_at_call 39;refine(HF.o _ HU4.o _ HS4.o _ _ _ HR4.o HC4.o).mono ?_;rintro r w5 ⟨s5,B5,c5,n5,e5,rfl,hans,hu,hrow,_,hs5⟩;have HA5:=mK hans;have HR5:=mK hrow;have HL5:=mK hs5;have HU5:=mK (HU4.o.tt hu);clear hu hrow hs5 hans;apply As.o)
 refine⟨?_⟩
 have HX5:=mK (fun X=>heap_alloc_new w5 X)
 go_wp2_with (go_at_call 14;refine(x5n _).mono ?_;rintro r w6 ⟨cb6,rfl,hs,hu⟩;have HK6:=mK hs;have HP6:=mK hu;clear hu hs;apply As.o)
 refine⟨?_⟩
 obtain⟨hb5,hp6⟩:=x0i HP6.o
 have HB5:=mK hb5
 have HU6:=mK (HU5.o.tt hp6)
 have HR6:=mK (Rp.x01 HR5.o hp6)
 clear hb5 hp6 HX5
 go_wp2_with (go_at_call 40;refine(HF6.o _ HU6.o _ HK6.o).mono ?_;rintro r w7 ⟨s7,B7,c7,n7,e7,rfl,hans,hu,hrow,hs7⟩;obtain⟨h71,rfl,rfl⟩:=HA5.o.one hans;subst h71;have HR7:=mK hrow;have HP7:=mK hu;clear hu hrow hs7 hans;apply As.o)
 refine⟨?_⟩
 have HU7:=mK (HU6.o.tt HP7.o)
 have HB57:=mK (kP HP7.o HB5.o)
 have HR57:=mK (Rp.x01 HR6.o HP7.o)
 obtain⟨a0,a1,a2,a3,a4,a5,a6,a7⟩:=x06 HB57.o
 have l5:=lt_of_block HB57.o
 go_wp2_with (first | (go_at_call 38;refine(HAW.o _).mono ?_;rintro r wb ⟨rfl,hu9⟩;have HUB:=mK (HU9.o.tt hu9);clear hu9) | (go_at_call 41;refine(twin13_same (Rp.x01 HR57.o aU) (Rp.x01 HR7.o aU) (by have:=HL5.o;omega)).mono ?_;rintro r w9 ⟨rfl,hu⟩;have HU9:=mK ((HU7.o.alloc _).tt hu);clear hu))
 go_ret
 exact⟨rfl,HUB.o⟩
theorem FitFits_walk {T:Option Addr} {ct:Nat} {l sl:List Tok} {f t:Int} (hr:tokR.row w F A l) (hlc:l.length<=c) (hx:tokR.row w G T sl) (hct:sl.length<=ct) :
 Calls Tryz.prog 7 #[.slice A l.length c,.int .i64 f,.int .i64 t,.slice T sl.length ct] w (fun r w'=>r=.returned (.bool true)/\Pure w w'):=by
 by_cases h:200 < l.length\/200 < sl.length
 ·exact FitFits_far h
 ·exact FitFits_main hr hlc (by omega) hx hct (by omega)
end Go.Proofs.YtofjodppljnlaaaGreatDoor
