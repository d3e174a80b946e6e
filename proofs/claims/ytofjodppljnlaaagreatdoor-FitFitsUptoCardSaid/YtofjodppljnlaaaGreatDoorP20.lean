/- My own texts, packed: Ref6, GluL, Sch6. -/
import Derived.Test.YtofjodppljnlaaaGreatDoorP11
set_option maxRecDepth 100000
set_option maxHeartbeats 4000000
set_option linter.unusedVariables false
set_option linter.unusedSimpArgs false
variable {w w1 W:Go.World} {F G:Nat → Prop} {A B:Option Go.Addr} {cb c:Nat}
namespace Go.Proofs.YtofjodppljnlaaaGreatDoor
open Go.RowKit
theorem known_all (N:Nat):∀ (e:Ex),e.wt<=N->N<=1048576 * 4->∀ (F G:Nat->Prop) (A B:Option Addr) (c d:Nat) (g:List Grp) (w:World),exR.row w F A e.l->grpR.row w G B g->g.length<=1048576 ->
 Calls Tryz.prog 169 #[e.val A c,.slice B g.length d] w fun r w'=>r=.returned (.bool (e.x32 g))/\Pure w w':=by
 induction N with
 | zero=>intro e he;have:=e.wt_pos;omega
 | succ N ih=>
   intro e he hN F G A B c d g w hr hg hgl
   obtain⟨k0,nm,l⟩:=e
   have HI:=mK (fun (x:Ex) (hx:x.wt<=N)=>ih x hx (by omega))
   have HR:=mK hr
   have HG:=mK hg
   have hc0:Ex.wts l<=N:=by simp only[Ex.wt] at he;omega
   have hll:=Ex.wts_len l
   have HTY:=mK (fun W (hu:Pure w W)=>types6_calls nm (c:=d) (Rp.x01 hg hu) hgl)
   clear hr hg he ih
   by_cases hno:k0=1/\(typesOf g nm).length=0
   ·obtain⟨rfl,h0⟩:=hno
    have HV:=mK (show Ex.x32 g (.mk 1 nm l)=false by rw[Ex.x32,h0];simp)
    go_enter Tryz.func169,Tryz.ntmps169
    go_wp2_with (go_at_call 199;refine(HTY.o _ aU).mono ?_;rintro e w1 ⟨⟨A1,c1,rfl,_,_⟩,hu⟩;rw[h0];obtain⟨_,hu1⟩:=one_up5 hu;have HU1:=mK hu1;clear hu hu1)
    go_ret
    exact⟨x0h HV.o.symm,HU1.o⟩
   ·have HV:=mK (show Ex.x32 g (.mk k0 nm l)=Ex.x38 g l by
     rw[Ex.x32]
     have:(decide (k0 ≠ 1) || decide (0 < (typesOf g nm).length))=true:=by
      rw[Bool.or_eq_true,decide_eq_true_eq,decide_eq_true_eq]
      by_cases h:k0=1
      ·right
       have:¬ (typesOf g nm).length=0:=fun h0=>hno ⟨h,h0⟩
       omega
      ·exact .inl h
     rw[this,Bool.true_and])
    by_cases hk1:k0=1
    ·have hlen:¬ (typesOf g nm).length=0:=fun h0=>hno ⟨hk1,h0⟩
     have f1:(((typesOf g nm).length:Int) == 0)=false:=by simp;intro e;exact hlen (by rw[e];rfl)
     have f2:((typesOf g nm).length == 0)=false:=by simpa using hlen
     subst hk1
     clear hno hlen
     go_enter Tryz.func169,Tryz.ntmps169
     go_wp2_with (go_at_call 199;refine(HTY.o _ aU).mono ?_;rintro e w1 ⟨⟨A1,c1,rfl,_,_⟩,hu⟩;have HBX:=mK (BoxE.pure (BoxE.new w 1 nm l.length A c 92) hu);obtain⟨_,hu1⟩:=one_up5 hu;have HU1:=mK hu1;clear hu hu1)
     go_loopg [5] l.length (fun g' i wr=>∃ k:Nat,k+g'=l.length/\i=.int .i64 k/\As (Ex.x38 g (l.take k)=true)/\As (BoxE w.heap.size 1 nm l.length A c wr)/\As (Pure w wr))
     case atStart=>exact⟨0,by omega,rfl,⟨by simp[Ex.x38]⟩,HBX,HU1⟩
     case round=>
      obtain⟨k,hk,rfl,HA,HB,HP⟩:=hrel
      obtain⟨q0,q1,q2,q3⟩:=HB.o
      by_cases hlt:k < l.length
      ·obtain⟨x,hx⟩:=gS hlt
       obtain⟨b,o,A1,c1,rfl,hF,hbl,c0,c1',c2,hle1,hrow1⟩:=ex_at (Rp.x01 HR.o HP.o) hx
       obtain⟨g1,rfl⟩:=sC1 (by omega:0 < gk)
       have hx1:x.wt<=N:=Nat.le_trans (Ex.wt_mem (List.mem_of_getElem? hx)) hc0
       have HT:=mK (Ex.knowns_take (g:=g) hx)
       rw[HA.o,Bool.true_and] at HT
       have HM:=mK (fun (h:Ex.x32 g x=false)=>(by rw[HV.o];exact Ex.knowns_mem (List.mem_of_getElem? hx) h:Ex.x32 g (.mk 1 nm l)=false))
       have HR1:=mK hrow1
       have HK:=mK hk
       have HBB:=HB
       clear hrow1 hk hx
       cases hq:Ex.x32 g x
       ·have HV2:=mK (HM.o hq)
        go_wp2_with (go_at_call 169;refine(HI.o x hx1 _ _ _ _ c1 _ _ _ HR1.o (Rp.x01 HG.o HP.o) hgl).mono ?_;rintro e w2 ⟨rfl,hu⟩;rw[hq];have HU:=mK hu;clear hu)
        go_ret
        exact⟨x0h HV2.o.symm,HP.o.tt HU.o⟩
       ·go_wp2_with (go_at_call 169;refine(HI.o x hx1 _ _ _ _ c1 _ _ _ HR1.o (Rp.x01 HG.o HP.o) hgl).mono ?_;rintro e w2 ⟨rfl,hu⟩;rw[hq];have HU:=mK hu;clear hu)
        go_roundg g1
        case measure=>omega
        case rel=>exact⟨k+1,by have:=HK.o;omega,by go_num,⟨by rw[HT.o,hq]⟩,⟨HBB.o.pure HU.o⟩,⟨HP.o.tt HU.o⟩⟩
      ·have hkl:k=l.length:=by omega
       subst hkl
       rw[List.take_length] at HA
       go_wp2
       go_ret
       exact⟨x0h (by rw[HV.o,HA.o]),HP.o⟩
    ·have e1:(k0 == 1)=false:=by simpa using hk1
     clear hno hk1
     go_enter Tryz.func169,Tryz.ntmps169
     go_wp2
     go_loopg [5] l.length (fun g' i wr=>∃ k:Nat,k+g'=l.length/\i=.int .i64 k/\As (Ex.x38 g (l.take k)=true)/\As (BoxE w.heap.size k0 nm l.length A c wr)/\As (Pure w wr))
     case atStart=>exact⟨0,by omega,rfl,⟨by simp[Ex.x38]⟩,⟨BoxE.new _ _ _ _ _ _ _⟩,⟨Upd.alloc1 _ _ _⟩⟩
     case round=>
      obtain⟨k,hk,rfl,HA,HB,HP⟩:=hrel
      obtain⟨q0,q1,q2,q3⟩:=HB.o
      by_cases hlt:k < l.length
      ·obtain⟨x,hx⟩:=gS hlt
       obtain⟨b,o,A1,c1,rfl,hF,hbl,c0,c1',c2,hle1,hrow1⟩:=ex_at (Rp.x01 HR.o HP.o) hx
       obtain⟨g1,rfl⟩:=sC1 (by omega:0 < gk)
       have hx1:x.wt<=N:=Nat.le_trans (Ex.wt_mem (List.mem_of_getElem? hx)) hc0
       have HT:=mK (Ex.knowns_take (g:=g) hx)
       rw[HA.o,Bool.true_and] at HT
       have HM:=mK (fun (h:Ex.x32 g x=false)=>(by rw[HV.o];exact Ex.knowns_mem (List.mem_of_getElem? hx) h:Ex.x32 g (.mk k0 nm l)=false))
       have HR1:=mK hrow1
       have HK:=mK hk
       have HBB:=HB
       clear hrow1 hk hx
       cases hq:Ex.x32 g x
       ·have HV2:=mK (HM.o hq)
        go_wp2_with (go_at_call 169;refine(HI.o x hx1 _ _ _ _ c1 _ _ _ HR1.o (Rp.x01 HG.o HP.o) hgl).mono ?_;rintro e w2 ⟨rfl,hu⟩;rw[hq];have HU:=mK hu;clear hu)
        go_ret
        exact⟨x0h HV2.o.symm,HP.o.tt HU.o⟩
       ·go_wp2_with (go_at_call 169;refine(HI.o x hx1 _ _ _ _ c1 _ _ _ HR1.o (Rp.x01 HG.o HP.o) hgl).mono ?_;rintro e w2 ⟨rfl,hu⟩;rw[hq];have HU:=mK hu;clear hu)
        go_roundg g1
        case measure=>omega
        case rel=>exact⟨k+1,by have:=HK.o;omega,by go_num,⟨by rw[HT.o,hq]⟩,⟨HBB.o.pure HU.o⟩,⟨HP.o.tt HU.o⟩⟩
      ·have hkl:k=l.length:=by omega
       subst hkl
       rw[List.take_length] at HA
       go_wp2
       go_ret
       exact⟨x0h (by rw[HV.o,HA.o]),HP.o⟩
theorem x5z {d:Nat} {e:Ex} {g:List Grp} (hr:exR.row w F A e.l) (hg:grpR.row w G B g) (hb:e.wt<=1048576 * 4) (hgl:g.length<=1048576) (hgt:∀ x ∈ g,x.types.length<=1048576) :
 Calls Tryz.prog 133 #[e.val A c,.slice B g.length d] w fun r w'=>r=.returned (.int .i64 (x0k e g))/\Pure w w':=by
 have HEC:=mK (fun W (hu:Pure w W)=>exprCheck5_calls (c:=c) (Rp.x01 hr hu) hb)
 have HKN:=mK (fun W (hu:Pure w W)=>known_all (1048576 * 4) e hb (Nat.le_refl _) F G A B c d g W (Rp.x01 hr hu) (Rp.x01 hg hu) hgl)
 have HG:=mK hg
 have HV:=mK (show x0k e g=if x0z e ≠ 0 then x0z e else if longB g=true then 1 else if e.x32 g=false then 6 else 0 by
  unfold x0k
  by_cases h0:x0z e=0
  ·simp only[h0,ne_eq,not_true_eq_false,if_false]
   have hok:e.okB 0=true:=by
    unfold x0z at h0
    split at h0
    ·cases h0
    ·split at h0
     ·cases h0
     ·rename_i h;simpa using h
   rw[Ex.known_named g e 0 hok]
  ·rw[if_pos h0,if_pos h0])
 have HLG:=mK (show longB g=(decide (16 < g.length) || g.any grpB) from rfl)
 have HGT:=mK hgt
 clear hr hg hgt
 obtain⟨k0,nm,l⟩:=e
 unfold Ex.val at *
 generalize x0k (.mk k0 nm l) g=rc at *
 generalize x0z (.mk k0 nm l)=ec at *
 generalize (Ex.mk k0 nm l).x32 g=kn at *
 show Calls Tryz.prog 133 #[.agg #[.int .i64 k0,.string nm,.slice A l.length c],.slice B g.length d] w _
 by_cases h0:ec=0
 ·subst h0
  rw[if_neg (by omega)] at HV
  by_cases hgl2:16 < g.length
  ·have i1:(16:Int) < (g.length:Int):=by omega
   have HV2:=mK (show rc=1 by rw[HV.o,HLG.o];simp[hgl2])
   clear HV HLG
   go_enter Tryz.func133,Tryz.ntmps133
   go_wp2_with (go_at_call 168;refine(HEC.o _ aU).mono ?_;rintro e w1 ⟨rfl,hu⟩;obtain⟨_,hu1⟩:=one_up5 hu;have HU1:=mK hu1;clear hu hu1)
   go_ret
   exact⟨by rw[HV2.o];rfl,HU1.o⟩
  ·have i1:¬ (16:Int) < (g.length:Int):=by omega
   have HLG2:=mK (show longB g=g.any grpB by rw[HLG.o];simp[hgl2])
   clear HLG
   go_enter Tryz.func133,Tryz.ntmps133
   go_wp2_with (go_at_call 168;refine(HEC.o _ aU).mono ?_;rintro e w1 ⟨rfl,hu⟩;obtain⟨hb1,hu1⟩:=one_up5 hu;have HB1:=mK hb1;have HU1:=mK hu1;clear hu hu1 hb1)
   go_loopg [6] g.length (fun gg i wr=>∃ k:Nat,k+gg=g.length/\i=.int .i64 k/\As ((g.take k).any grpB=false)/\As (wr=w1))
   case atStart=>exact⟨0,by omega,rfl,⟨by simp⟩,⟨rfl⟩⟩
   case round=>
    obtain⟨k,hk,rfl,HA,HW⟩:=hrel
    obtain rfl:=HW.o
    by_cases hlt:k < g.length
    ·obtain⟨x,hx⟩:=gS hlt
     obtain⟨b,o,A1,c1,rfl,hF,hbl,d0,d1,hle1,hrow1⟩:=grp_at (Rp.x01 HG.o HU1.o) hx
     obtain⟨g1,rfl⟩:=sC1 (by omega:0 < gk)
     have HT:=mK (any_succ (f:=grpB) hx)
     have HM:=mK (fun (h:grpB x=true)=>(by rw[HV.o,HLG2.o,List.any_eq_true.2 ⟨x,List.mem_of_getElem? hx,h⟩];rfl:rc=1))
     have HR1:=mK hrow1
     have htl:=HGT.o x (List.mem_of_getElem? hx)
     have HK:=mK hk
     clear hrow1 hk hx
     by_cases hlen:16 < x.types.length
     ·have i2:(16:Int) < (x.types.length:Int):=by omega
      have HV2:=mK (HM.o (by simp[grpB,hlen]))
      go_wp2
      go_ret
      exact⟨by rw[HV2.o];rfl,HU1.o⟩
     ·have i2:¬ (16:Int) < (x.types.length:Int):=by omega
      have HGB:=mK (show grpB x=x.types.any outB by simp[grpB,hlen])
      go_wp2
      go_loopg [7] x.types.length (fun g2 i wx=>∃ q:Nat,q+g2=x.types.length/\i=.int .i64 q/\As ((x.types.take q).any outB=false)/\As (wx=wr))
      case atStart=>exact⟨0,by omega,rfl,⟨by simp⟩,⟨rfl⟩⟩
      case round=>
       obtain⟨q,hq,rfl,HA2,HW2⟩:=hrel
       obtain rfl:=HW2.o
       by_cases hlt2:q < x.types.length
       ·obtain⟨y,hy⟩:∃ y,x.types[q]?=some y:=⟨_,List.getElem?_eq_getElem hlt2⟩
        obtain⟨g2,rfl⟩:=sC1 (by omega:0 < gk)
        obtain⟨b2,o2,rfl,hF2,hbl2,y0⟩:=int_at HR1.o hy
        have HT2:=mK (any_succ (f:=outB) hy)
        have HM2:=mK (fun (h:outB y=true)=>HM.o (by rw[HGB.o];exact List.any_eq_true.2 ⟨y,List.mem_of_getElem? hy,h⟩))
        have HQ:=mK hq
        clear hq hy
        by_cases y1:y < 0
        ·have HV2:=mK (HM2.o (by simp[outB,y1]))
         go_wp2
         go_ret
         exact⟨by rw[HV2.o];rfl,HU1.o⟩
        ·by_cases y2:16<=y
         ·have HV2:=mK (HM2.o (by simp[outB,y2]))
          have y3:y >= 16:=y2
          go_wp2
          go_ret
          exact⟨by rw[HV2.o];rfl,HU1.o⟩
         ·have HO:As (outB y=false):=⟨by simp[outB];omega⟩
          have y3:¬ y >= 16:=y2
          go_wp2
          go_roundg g2
          case measure=>omega
          case rel=>exact⟨q+1,by have:=HQ.o;omega,by go_num,⟨by rw[HT2.o,HO.o,HA2.o];rfl⟩,⟨rfl⟩⟩
       ·have hql:q=x.types.length:=by omega
        subst hql
        rw[List.take_length] at HA2
        go_wp2
        go_roundg g1
        case measure=>omega
        case rel=>exact⟨k+1,by have:=HK.o;omega,by go_num,⟨by rw[HT.o,HA.o,HGB.o,HA2.o];rfl⟩,⟨rfl⟩⟩
    ·have hkl:k=g.length:=by omega
     subst hkl
     rw[List.take_length] at HA
     rw[HLG2.o,HA.o,if_neg (by simp)] at HV
     obtain⟨⟨q0,q1,q2⟩,q3⟩:=cells3r5 HB1.o
     cases kn
     all_goals
      have HV2:=mK HV.o
      go_wp2_with (go_at_call 169;refine(HKN.o _ HU1.o).mono ?_;rintro e w2 ⟨rfl,hu⟩;have HU2:=mK (HU1.o.tt hu);clear hu)
      go_ret
      exact⟨by rw[HV2.o];rfl,HU2.o⟩
 ·have f0:(ec != 0)=true:=by simpa using h0
  rw[if_pos h0] at HV
  clear h0
  go_enter Tryz.func133,Tryz.ntmps133
  go_wp2_with (go_at_call 168;refine(HEC.o _ aU).mono ?_;rintro e w1 ⟨rfl,hu⟩;obtain⟨_,hu1⟩:=one_up5 hu;have HU1:=mK hu1;clear hu hu1)
  go_ret
  exact⟨by rw[HV.o];rfl,HU1.o⟩
/-- One behind the other. -/
theorem Glu.seq {s0 s r:St} {p q:Part} {L M:List Int->Prop} (h1:Glu s0 s p L) (h2:Glu s r q M) :
 Glu s0 (r.1,joinF r.2 p.last q.first) ⟨p.none && q.none,if p.none=true then p.first ++ q.first else p.first,if q.none=true then p.last ++ q.last else q.last⟩ (fun w=>∃ u v,w=u ++ v/\L u/\M v):=by
 have e0:=h1.len0
 have e1:=h1.len
 have e2:=h2.len
 have l1:=h1.le
 have l2:=h2.le
 have hs1:s.1.length=s.1.length:=rfl
 have up1:∀ i a,a ∈ s.1.getD i []->a ∈ r.1.getD i []:=mem_old rfl h2.old1
 have up2:∀ i a,a ∈ s.2.getD i []->a ∈ (joinF r.2 p.last q.first).getD i []:=fun i a ha=>(x4x _ _ _ _ _).2 (.inl (mem_old e1.symm h2.old2 i a ha))
 have up3:∀ i a,a ∈ r.2.getD i []->a ∈ (joinF r.2 p.last q.first).getD i []:=fun i a ha=>(x4x _ _ _ _ _).2 (.inl ha)
 have pl:=h1.last
 have qf:=h2.first
 have edge:∀ x y,x ∈ p.last->y ∈ q.first->y ∈ (joinF r.2 p.last q.first).getD x.toNat []:=fun x y hx hy=>by
  have:=pl x hx
  exact(x4x _ _ _ _ _).2 (.inr ⟨by omega,⟨x,hx,rfl⟩,hy⟩)
 have pw1:∀ {x w z},PW s x w z->PW (r.1,joinF r.2 p.last q.first) x w z:=fun h=>PW.mono (r':=(r.1,joinF r.2 p.last q.first)) up1 up2 h
 have pw2:∀ {x w z},PW r x w z->PW (r.1,joinF r.2 p.last q.first) x w z:=fun h=>PW.mono (r:=r) (r':=(r.1,joinF r.2 p.last q.first)) (fun _ _ h=>h) up3 h
 have inl:∀ z,z ∈ q.last->z ∈ (if q.none=true then p.last ++ q.last else q.last):=fun z hz=>by
  split
  ·exact List.mem_append.2 (.inr hz)
  ·exact hz
 refine⟨e0,by simp only[x49];exact e2,by simp only;omega,fun i hi=>?_,fun i hi=>?_,fun y hy=>?_,fun y hy=>?_,fun x hx1 hx2 y hy=>?_,?_,fun hn=>?_,?_,fun T=>?_,fun x hx1 hx2=>?_⟩
 ·simp only
  rw[h2.old1 i (by omega),h1.old1 i hi]
 ·apply List.ext_getElem?
  intro n
  have hm:∀ a,a ∈ (joinF r.2 p.last q.first).getD i [] ↔ a ∈ s0.2.getD i []:=fun a=>by
   rw[x4x,h2.old2 i (by omega),h1.old2 i hi]
   constructor
   ·rintro (h | ⟨_,⟨b,hb,hbi⟩,_⟩)
    ·exact h
    ·have:=pl b hb
     omega
   ·exact .inl
  have he:(joinF r.2 p.last q.first).getD i []=s0.2.getD i []:=by
   rw[<- h1.old2 i hi,<- h2.old2 i (by omega)]
   clear hm
   have key:∀ (l:List Int) (fs:List (List Int)),(∀ b ∈ l,b.toNat ≠ i)->(joinF fs l q.first).getD i []=fs.getD i []:=by
    intro l
    induction l with
    | nil=>intro fs _;rfl
    | cons b l ih=>
      intro fs hb
      have e:joinF fs (b :: l) q.first=joinF (fs.modify b.toNat (· ++ q.first)) l q.first:=rfl
      rw[e,ih _ (fun c hc=>hb c (by simp[hc])),getD_modify,if_neg (by have:=hb b (by simp);omega)]
   exact key p.last r.2 (fun b hb=>by have:=pl b hb;omega)
  rw[he]
 ·simp only at hy ⊢
  have:y ∈ p.first\/y ∈ q.first:=by
   split at hy
   ·exact List.mem_append.1 hy
   ·exact .inl hy
  rcases this with h | h
  ·have:=h1.first y h;omega
  ·have:=qf y h;omega
 ·simp only at hy ⊢
  have:y ∈ p.last\/y ∈ q.last:=by
   split at hy
   ·exact List.mem_append.1 hy
   ·exact .inr hy
  rcases this with h | h
  ·have:=pl y h;omega
  ·have:=h2.last y h;omega
 ·simp only at hx2 hy ⊢
  rcases(x4x _ _ _ _ _).1 hy with h | ⟨_,⟨b,hb,hbx⟩,h⟩
  ·rcases Int.lt_or_le x s.1.length with hlt | hge
   ·rw[h2.old2 _ (by omega)] at h
    have:=h1.row x hx1 hlt y h
    omega
   ·have:=h2.row x hge hx2 y h
    omega
  ·have:=qf y h;omega
 ·obtain⟨u,hu⟩:=h1.some
  obtain⟨v,hv⟩:=h2.some
  exact⟨u ++ v,u,v,rfl,hu,hv⟩
 ·simp only[Bool.and_eq_true] at hn
  exact⟨[],[],rfl,h1.none hn.1,h2.none hn.2⟩
 ·rintro w ⟨u,v,rfl,hu,hv⟩
  rcases h1.word u hu with ⟨rfl,hn⟩ | ⟨y,t,u',z,rfl,hy,ht,hp,hz⟩
  ·rcases h2.word v hv with ⟨rfl,hm⟩ | ⟨y,t,v',z,rfl,hy,ht,hp,hz⟩
   ·exact .inl ⟨rfl,by simp[hn,hm]⟩
   ·refine .inr ⟨y,t,v',z,by simp,?_,ht,pw2 hp,inl z hz⟩
    simp only[if_pos hn]
    exact List.mem_append.2 (.inr hy)
  ·have hy':y ∈ (if p.none=true then p.first ++ q.first else p.first):=by
    split
    ·exact List.mem_append.2 (.inl hy)
    ·exact hy
   rcases h2.word v hv with ⟨rfl,hm⟩ | ⟨y2,t2,v',z2,rfl,hy2,ht2,hp2,hz2⟩
   ·refine .inr ⟨y,t,u',z,by simp,hy',up1 _ _ ht,pw1 hp,?_⟩
    simp only[if_pos hm]
    exact List.mem_append.2 (.inl hz)
   ·exact .inr ⟨y,t,u' ++ t2 :: v',z2,by simp,hy',up1 _ _ ht,(pw1 hp).trans (.cons (edge z y2 hz hy2) ht2 (pw2 hp2)),inl z2 hz2⟩
 ·obtain⟨K2,a1,a2,a3⟩:=h2.sound T
  obtain⟨K1,b1,b2,b3⟩:=h1.sound (fun v=>∃ u v',v=u ++ v'/\M u/\T v')
  refine⟨fun x w=>if x < (s.1.length:Int) then K1 x w else K2 x w,fun x hx v hv=>?_,fun x y t v hx1 hx2 hy ht hk=>?_,fun y t v hy ht hk=>?_⟩
  ·simp only at hx ⊢
   by_cases hm:q.none=true
   ·rw[if_pos hm] at hx
    rcases List.mem_append.1 hx with hx | hx
    ·rw[if_pos (by have:=pl x hx;omega)]
     exact b1 x hx v ⟨[],v,rfl,h2.none hm,hv⟩
    ·rw[if_neg (by have:=h2.last x hx;omega)]
     exact a1 x hx v hv
   ·rw[if_neg hm] at hx
    rw[if_neg (by have:=h2.last x hx;omega)]
    exact a1 x hx v hv
  ·simp only at hx2 hy ht hk ⊢
   rcases(x4x _ _ _ _ _).1 hy with h | ⟨_,⟨b,hb,hbx⟩,h⟩
   ·rcases Int.lt_or_le x s.1.length with hlt | hge
    ·rw[h2.old2 _ (by omega)] at h
     have hyr:=h1.row x hx1 hlt y h
     rw[if_pos (by omega)] at hk
     rw[if_pos hlt]
     rw[h2.old1 _ (by omega)] at ht
     exact b2 x y t v hx1 hlt h ht hk
    ·have hyr:=h2.row x hge hx2 y h
     rw[if_neg (by omega)] at hk
     rw[if_neg (by omega)]
     exact a2 x y t v hge hx2 h ht hk
   ·have hb2:=pl b hb
    have hbe:b=x:=by omega
    subst hbe
    have hyr:=qf y h
    rw[if_neg (by omega)] at hk
    rw[if_pos (by omega)]
    obtain⟨u,v',h5,h6,h7⟩:=a3 y t v h ht hk
    exact b1 b hb (t :: v) ⟨u,v',h5,h6,h7⟩
  ·simp only at hy ht hk ⊢
   have old:y ∈ p.first->∃ u v',t :: v=u ++ v'/\(∃ u_1 v,u=u_1 ++ v/\L u_1/\M v)/\T v':=fun hy=>by
    have hyr:=h1.first y hy
    rw[if_pos (by omega)] at hk
    rw[h2.old1 _ (by omega)] at ht
    obtain⟨u,v',h5,h6,x,v2,rfl,h7,h8⟩:=b3 y t v hy ht hk
    exact⟨u ++ x,v2,by rw[h5,List.append_assoc],⟨u,x,rfl,h6,h7⟩,h8⟩
   by_cases hn:p.none=true
   ·rw[if_pos hn] at hy
    rcases List.mem_append.1 hy with hy | hy
    ·exact old hy
    ·have hyr:=qf y hy
     rw[if_neg (by omega)] at hk
     obtain⟨u,v',h5,h6,h7⟩:=a3 y t v hy ht hk
     exact⟨u,v',h5,⟨[],u,rfl,h1.none hn,h6⟩,h7⟩
   ·rw[if_neg hn] at hy
    exact old hy
 ·simp only at hx2 ⊢
  rcases Int.lt_or_le x s.1.length with hlt | hge
  ·obtain⟨w,z,hp,hz⟩:=h1.trim x hx1 hlt
   by_cases hm:q.none=true
   ·rw[if_pos hm]
    exact⟨w,z,pw1 hp,List.mem_append.2 (.inl hz)⟩
   ·rw[if_neg hm]
    obtain⟨v,hv⟩:=h2.some
    rcases h2.word v hv with ⟨_,hm2⟩ | ⟨y2,t2,v',z2,rfl,hy2,ht2,hp2,hz2⟩
    ·exact absurd hm2 hm
    ·exact⟨w ++ t2 :: v',z2,(pw1 hp).trans (.cons (edge z y2 hz hy2) ht2 (pw2 hp2)),hz2⟩
  ·obtain⟨w,z,hp,hz⟩:=h2.trim x hge hx2
   exact⟨w,z,pw2 hp,inl z hz⟩
/-- One or the other. -/
theorem Glu.alt {s0 s r:St} {p q:Part} {L M:List Int->Prop} (h1:Glu s0 s p L) (h2:Glu s r q M):Glu s0 r ⟨p.none || q.none,p.first ++ q.first,p.last ++ q.last⟩ (fun w=>L w\/M w):=by
 have e1:=h1.len
 have l1:=h1.le
 have l2:=h2.le
 have up1:∀ i a,a ∈ s.1.getD i []->a ∈ r.1.getD i []:=mem_old rfl h2.old1
 have up2:∀ i a,a ∈ s.2.getD i []->a ∈ r.2.getD i []:=mem_old e1.symm h2.old2
 have pw1:∀ {x w z},PW s x w z->PW r x w z:=fun h=>h.mono up1 up2
 refine⟨h1.len0,h2.len,by omega,fun i hi=>?_,fun i hi=>?_,fun y hy=>?_,fun y hy=>?_,fun x hx1 hx2 y hy=>?_,?_,fun hn=>?_,?_,fun T=>?_,fun x hx1 hx2=>?_⟩
 ·rw[h2.old1 i (by omega),h1.old1 i hi]
 ·rw[h2.old2 i (by omega),h1.old2 i hi]
 ·rcases List.mem_append.1 hy with h | h
  ·have:=h1.first y h;omega
  ·have:=h2.first y h;omega
 ·rcases List.mem_append.1 hy with h | h
  ·have:=h1.last y h;omega
  ·have:=h2.last y h;omega
 ·rcases Int.lt_or_le x s.1.length with hlt | hge
  ·rw[h2.old2 _ (by omega)] at hy
   have:=h1.row x hx1 hlt y hy
   omega
  ·have:=h2.row x hge hx2 y hy
   omega
 ·obtain⟨u,hu⟩:=h1.some
  exact⟨u,.inl hu⟩
 ·simp only[Bool.or_eq_true] at hn
  rcases hn with hn | hn
  ·exact .inl (h1.none hn)
  ·exact .inr (h2.none hn)
 ·rintro w (hw | hw)
  ·rcases h1.word w hw with ⟨rfl,hn⟩ | ⟨y,t,u',z,rfl,hy,ht,hp,hz⟩
   ·exact .inl ⟨rfl,by simp[hn]⟩
   ·exact .inr ⟨y,t,u',z,rfl,List.mem_append.2 (.inl hy),up1 _ _ ht,pw1 hp,List.mem_append.2 (.inl hz)⟩
  ·rcases h2.word w hw with ⟨rfl,hn⟩ | ⟨y,t,u',z,rfl,hy,ht,hp,hz⟩
   ·exact .inl ⟨rfl,by simp[hn]⟩
   ·exact .inr ⟨y,t,u',z,rfl,List.mem_append.2 (.inr hy),ht,hp,List.mem_append.2 (.inr hz)⟩
 ·obtain⟨K2,a1,a2,a3⟩:=h2.sound T
  obtain⟨K1,b1,b2,b3⟩:=h1.sound T
  refine⟨fun x w=>if x < (s.1.length:Int) then K1 x w else K2 x w,fun x hx v hv=>?_,fun x y t v hx1 hx2 hy ht hk=>?_,fun y t v hy ht hk=>?_⟩
  ·simp only
   rcases List.mem_append.1 hx with hx | hx
   ·rw[if_pos (by have:=h1.last x hx;omega)]
    exact b1 x hx v hv
   ·rw[if_neg (by have:=h2.last x hx;omega)]
    exact a1 x hx v hv
  ·simp only at hk ⊢
   rcases Int.lt_or_le x s.1.length with hlt | hge
   ·rw[h2.old2 _ (by omega)] at hy
    have hyr:=h1.row x hx1 hlt y hy
    rw[if_pos (by omega)] at hk
    rw[if_pos hlt]
    rw[h2.old1 _ (by omega)] at ht
    exact b2 x y t v hx1 hlt hy ht hk
   ·have hyr:=h2.row x hge hx2 y hy
    rw[if_neg (by omega)] at hk
    rw[if_neg (by omega)]
    exact a2 x y t v hge hx2 hy ht hk
  ·simp only at hk
   rcases List.mem_append.1 hy with hy | hy
   ·have hyr:=h1.first y hy
    rw[if_pos (by omega)] at hk
    rw[h2.old1 _ (by omega)] at ht
    obtain⟨u,v',h5,h6,h7⟩:=b3 y t v hy ht hk
    exact⟨u,v',h5,.inl h6,h7⟩
   ·have hyr:=h2.first y hy
    rw[if_neg (by omega)] at hk
    obtain⟨u,v',h5,h6,h7⟩:=a3 y t v hy ht hk
    exact⟨u,v',h5,.inr h6,h7⟩
 ·rcases Int.lt_or_le x s.1.length with hlt | hge
  ·obtain⟨w,z,hp,hz⟩:=h1.trim x hx1 hlt
   exact⟨w,z,pw1 hp,List.mem_append.2 (.inl hz)⟩
  ·obtain⟨w,z,hp,hz⟩:=h2.trim x hge hx2
   exact⟨w,z,hp,List.mem_append.2 (.inr hz)⟩
/-- A sign behind it. -/
theorem Glu.sign {s r:St} {p:Part} {L:List Int->Prop} (h:Glu s r p L) (k:Int) :
 Glu s (r.1,if k ≠ 6 then joinF r.2 p.last p.first else r.2) ⟨p.none || decide (k ≠ 5),p.first,p.last⟩ (signL k L):=by
 have e2:=h.len
 have hmem:∀ i a,a ∈ (if k ≠ 6 then joinF r.2 p.last p.first else r.2).getD i [] ↔ a ∈ r.2.getD i []\/(k ≠ 6/\i < r.2.length/\(∃ b ∈ p.last,b.toNat=i)/\a ∈ p.first):=fun i a=>by
  by_cases k6:k=6
  ·simp[k6]
  ·simp only[ne_eq,k6,not_false_eq_true,if_true,true_and,x4x]
 have pw:∀ {x w z},PW r x w z->PW (r.1,if k ≠ 6 then joinF r.2 p.last p.first else r.2) x w z:=fun h'=>PW.mono (r:=r) (r':=(r.1,if k ≠ 6 then joinF r.2 p.last p.first else r.2)) (fun _ _ h=>h) (fun i a ha=>(hmem i a).2 (.inl ha)) h'
 have once:∀ w,L w->AccL (r.1,if k ≠ 6 then joinF r.2 p.last p.first else r.2) p w:=fun w hw=>by
  rcases h.word w hw with h1 | ⟨y,t,u',z,h1,hy,ht,hp,hz⟩
  ·exact .inl h1
  ·exact .inr ⟨y,t,u',z,h1,hy,ht,pw hp,hz⟩
 have lift:∀ w,AccL (r.1,if k ≠ 6 then joinF r.2 p.last p.first else r.2) p w->AccL (r.1,if k ≠ 6 then joinF r.2 p.last p.first else r.2) ⟨p.none || decide (k ≠ 5),p.first,p.last⟩ w:=fun w hw=>by
  rcases hw with ⟨h1,h2⟩ | h1
  ·exact .inl ⟨h1,by simp[h2]⟩
  ·exact .inr h1
 refine⟨h.len0,?_,h.le,h.old1,fun i hi=>?_,h.first,h.last,fun x hx1 hx2 y hy=>?_,?_,fun hn=>?_,?_,fun T=>?_,fun x hx1 hx2=>?_⟩
 ·simp only
  split
  ·rw[x49];exact e2
  ·exact e2
 ·simp only
  split
  ·rw[<- h.old2 i hi]
   have key:∀ (l:List Int) (fs:List (List Int)),(∀ b ∈ l,b.toNat ≠ i)->(joinF fs l p.first).getD i []=fs.getD i []:=by
    intro l
    induction l with
    | nil=>intro fs _;rfl
    | cons b l ih=>
      intro fs hb
      have e:joinF fs (b :: l) p.first=joinF (fs.modify b.toNat (· ++ p.first)) l p.first:=rfl
      rw[e,ih _ (fun c hc=>hb c (by simp[hc])),getD_modify,if_neg (by have:=hb b (by simp);omega)]
   exact key p.last r.2 (fun b hb=>by have:=h.last b hb;omega)
  ·exact h.old2 i hi
 ·rcases(hmem _ _).1 hy with hy | ⟨_,_,_,hy⟩
  ·exact h.row x hx1 hx2 y hy
  ·exact h.first y hy
 ·obtain⟨w,hw⟩:=h.some
  exact⟨w,.inr (.inl hw)⟩
 ·simp only[Bool.or_eq_true,decide_eq_true_eq] at hn
  rcases hn with hn | hn
  ·exact .inr (.inl (h.none hn))
  ·exact .inl ⟨hn,rfl⟩
 ·rintro w (⟨k5,rfl⟩ | hw | ⟨k6,hw⟩)
  ·exact .inl ⟨rfl,by simp[k5]⟩
  ·exact lift w (once w hw)
  ·refine lift w ?_
   induction hw with
   | one hu=>exact once _ hu
   | @more u v hu _ ih=>
     rcases once u hu with ⟨rfl,_⟩ | ⟨y,t,u',z,rfl,hy,ht,hp,hz⟩
     ·simpa using ih
     ·rcases ih with ⟨rfl,_⟩ | ⟨y2,t2,v',z2,rfl,hy2,ht2,hp2,hz2⟩
      ·rw[List.append_nil]
       exact .inr ⟨y,t,u',z,rfl,hy,ht,hp,hz⟩
      ·refine .inr ⟨y,t,u' ++ t2 :: v',z2,by simp,hy,ht,hp.trans (.cons ?_ ht2 hp2),hz2⟩
       have:=h.last z hz
       exact(hmem _ _).2 (.inr ⟨k6,by omega,⟨z,hz,rfl⟩,hy2⟩)
 ·obtain⟨K,a1,a2,a3⟩:=h.sound (fun w=>T w\/(k ≠ 6/\∃ u v,w=u ++ v/\Plus L u/\T v))
  refine⟨K,fun x hx v hv=>a1 x hx v (.inl hv),fun x y t v hx1 hx2 hy ht hk=>?_,fun y t v hy ht hk=>?_⟩
  ·rcases(hmem _ _).1 hy with hyo | ⟨k6,_,⟨b,hb,hbx⟩,hyf⟩
   ·exact a2 x y t v hx1 hx2 hyo ht hk
   ·have hb2:=h.last b hb
    have hbe:b=x:=by omega
    subst hbe
    obtain⟨u,v',h5,h6,h7⟩:=a3 y t v hyf ht hk
    refine a1 b hb (t :: v) (.inr ⟨k6,?_⟩)
    rcases h7 with h7 | ⟨_,x2,y2,rfl,h8,h9⟩
    ·exact⟨u,v',h5,.one h6,h7⟩
    ·exact⟨u ++ x2,y2,by rw[h5,List.append_assoc],.more h6 h8,h9⟩
  ·obtain⟨u,v',h5,h6,h7⟩:=a3 y t v hy ht hk
   rcases h7 with h7 | ⟨k6,x2,y2,rfl,h8,h9⟩
   ·exact⟨u,v',h5,.inr (.inl h6),h7⟩
   ·exact⟨u ++ x2,y2,by rw[h5,List.append_assoc],.inr (.inr ⟨k6,.more h6 h8⟩),h9⟩
 ·obtain⟨w,z,hp,hz⟩:=h.trim x hx1 hx2
  exact⟨w,z,pw hp,hz⟩
mutual
theorem glu_lang (g:List Grp):∀ (e:Ex) (s:St),liveE (typesOf g) e->s.1.length=s.2.length->Glu s (glu g e s).1 (glu g e s).2 (langE (typesOf g) e)
 | .mk k nm l,s,hl,h=>by
   rw[liveE] at hl
   by_cases h0:k=0
   ·rw[glu,if_pos h0]
    exact(glu_empty h).imp (fun w=>by rw[langE,if_pos h0])
   rw[if_neg h0] at hl
   by_cases h1:k=1
   ·rw[if_pos h1] at hl
    rw[glu,if_neg h0,if_pos h1]
    exact(glu_name h _ hl).imp (fun w=>by rw[langE,if_neg h0,if_pos h1])
   rw[if_neg h1] at hl
   by_cases h2:k=2
   ·rw[if_pos h2] at hl
    rw[glu,if_neg h0,if_neg h1,if_neg (by omega),if_pos h2]
    refine(glu_seq g l s s ⟨true,[],[]⟩ _ hl (glu_empty h)).imp (fun w=>?_)
    rw[langE,if_neg h0,if_neg h1,if_pos h2]
    constructor
    ·rintro ⟨u,v,rfl,rfl,hv⟩
     exact hv
    ·intro hv
     exact⟨[],w,rfl,rfl,hv⟩
   rw[if_neg h2] at hl
   by_cases h3:k=3
   ·rw[if_pos h3] at hl
    rw[glu,if_neg h0,if_neg h1,if_pos h3]
    match l,hl with
    | [],hl=>exact absurd rfl hl.1
    | x :: r,hl=>
      rw[x1p] at hl
      have hx:=glu_never (glu_lang g x s hl.2.1 h)
      rw[x2u]
      refine(glu_alt g r s _ _ _ hl.2.2 hx).imp (fun w=>?_)
      rw[langE,if_neg h0,if_neg h1,if_neg h2,if_pos h3,x4h]
   rw[if_neg h3] at hl
   rw[glu,if_neg h0,if_neg h1,if_neg h3,if_neg h2]
   match l,hl with
   | [],hl=>exact absurd rfl hl.1
   | x :: r,hl=>
     rw[x1p] at hl
     have hx:=(glu_lang g x s hl.2.1 h).sign k
     rw[x2l]
     exact hx.imp (fun w=>by
      rw[langE,if_neg h0,if_neg h1,if_neg h2,if_neg h3]
      have:x3s (typesOf g) (x :: r)=langE (typesOf g) x:=funext fun w=>by rw[x3s]
      rw[this])
theorem glu_seq (g:List Grp):∀ (l:List Ex) (s0 s:St) (p:Part) (A:List Int->Prop),x1p (typesOf g) l->Glu s0 s p A->Glu s0 (x2v g l s p).1 (x2v g l s p).2 (fun w=>∃ u v,w=u ++ v/\A u/\x3t (typesOf g) l v)
 | [],s0,s,p,A,_,h=>by
   rw[x2v]
   refine h.imp (fun w=>⟨fun hw=>⟨w,[],by simp,hw,by rw[x3t]⟩,?_⟩)
   rintro ⟨u,v,rfl,hu,hv⟩
   rw[x3t] at hv
   rw[hv,List.append_nil]
   exact hu
 | x :: r,s0,s,p,A,hl,h=>by
   rw[x1p] at hl
   rw[x2v]
   have hx:=glu_lang g x s hl.1 h.len
   refine(glu_seq g r s0 _ _ _ hl.2 (h.seq hx)).imp (fun w=>?_)
   constructor
   ·rintro ⟨u,v,rfl,⟨a,b,rfl,ha,hb⟩,hv⟩
    exact⟨a,b ++ v,by simp,ha,by rw[x3t];exact⟨b,v,rfl,hb,hv⟩⟩
   ·rintro ⟨a,v,rfl,ha,hv⟩
    rw[x3t] at hv
    obtain⟨b,v,rfl,hb,hv⟩:=hv
    exact⟨a ++ b,v,by simp,⟨a,b,rfl,ha,hb⟩,hv⟩
theorem glu_alt (g:List Grp):∀ (l:List Ex) (s0 s:St) (p:Part) (A:List Int->Prop),x1p (typesOf g) l->Glu s0 s p A->Glu s0 (x2u g l s p).1 (x2u g l s p).2 (fun w=>A w\/x4h (typesOf g) l w)
 | [],s0,s,p,A,_,h=>by
   rw[x2u]
   exact h.imp (fun w=>by rw[x4h];simp)
 | x :: r,s0,s,p,A,hl,h=>by
   rw[x1p] at hl
   rw[x2u]
   have hx:=glu_lang g x s hl.1 h.len
   refine(glu_alt g r s0 _ _ _ hl.2 (h.alt hx)).imp (fun w=>?_)
   rw[x4h,or_assoc]
end
/-- What is accepted: the tree's words. -/
theorem acc_lang {e:Ex} {g:List Grp} (h:x0k e g=0) (w:List Int):AccE e g w ↔ langE (typesOf g) e w:=by
 have hM:=mc_ok h
 have hG:=glu_lang g e ([],[]) (x5v h) rfl
 have hf:∀ y ∈ (mcP g e).first,0<=y:=fun y hy=>(hM.ok (-1) y (by unfold x19;rw[if_pos rfl];exact hy)).1
 have hr:∀ i,∀ y ∈ (mcF g e).getD i [],0<=y:=fun i y hy=>(hM.ok (i:Int) y (by unfold x19;rw[if_neg (by omega)];simpa using hy)).1
 constructor
 ·rintro ⟨x,hp,he⟩
  rcases path_pw (r:=(mcT g e,mcF g e)) hf hr hp with ⟨rfl,rfl⟩ | ⟨hx,y,t,w',rfl,h4,h5,h6⟩
  ·have:(mcP g e).none=true:=by simpa[endS] using he
   exact hG.none this
  ·have hl:x ∈ (mcP g e).last:=by
    have hne:x ≠ -1:=by omega
    simpa[endS,hne] using he
   obtain⟨K,a1,a2,a3⟩:=hG.sound (fun v=>v=[])
   have key:∀ (y z:Int) (v:List Int),PW (mcT g e,mcF g e) y v z->0<=y->(y < (mcT g e).length)->z ∈ (mcP g e).last->K y v:=by
    intro y z v hv
    induction hv with
    | nil x=>intro _ _ hz;exact a1 x hz [] rfl
    | @cons x y z t w h1 h2 _ ih=>
      intro hx hx2 hz
      have hy2:=hM.ok x y (by unfold x19;rw[if_neg (by omega)];exact h1)
      exact a2 x y t w (by simpa using hx) hx2 h1 h2 (ih hy2.1 hy2.2 hz)
   have hy2:=hM.ok (-1) y (by unfold x19;rw[if_pos rfl];exact h4)
   obtain⟨u,v',h7,h8,rfl⟩:=a3 y t w' h4 h5 (key y x w' h6 hy2.1 hy2.2 hl)
   rw[h7,List.append_nil]
   exact h8
 ·intro hw
  rcases hG.word w hw with ⟨rfl,hn⟩ | ⟨y,t,w',z,rfl,hy,ht,hp,hz⟩
  ·exact⟨-1,.nil,by simp[endS];exact hn⟩
  ·refine⟨z,pw_path (r:=(mcT g e,mcF g e)) hr hp [t] (hf y hy) (.snoc [] (-1) y t .nil (by unfold x19;rw[if_pos rfl];exact hy) ht),?_⟩
   have:=hM.last z hz
   have hne:z ≠ -1:=by omega
   simp[endS,hne]
   exact hz
/-- What leads somewhere: what begins a word. -/
theorem live_lang {e:Ex} {g:List Grp} (h:x0k e g=0) (w:List Int):LiveE e g w ↔ ∃ v,langE (typesOf g) e (w ++ v):=by
 have hM:=mc_ok h
 have hG:=glu_lang g e ([],[]) (x5v h) rfl
 have hf:∀ y ∈ (mcP g e).first,0<=y:=fun y hy=>(hM.ok (-1) y (by unfold x19;rw[if_pos rfl];exact hy)).1
 have hr:∀ i,∀ y ∈ (mcF g e).getD i [],0<=y:=fun i y hy=>(hM.ok (i:Int) y (by unfold x19;rw[if_neg (by omega)];simpa using hy)).1
 constructor
 ·rintro ⟨x,hp⟩
  rcases path_pw (r:=(mcT g e,mcF g e)) hf hr hp with ⟨rfl,rfl⟩ | ⟨hx,y,t,w',rfl,h4,h5,h6⟩
  ·exact lang_some (typesOf g) e (x5v h)
  ·have hxl:x < (mcT g e).length:=by
    rcases hp.zero hM with ⟨h,_⟩ | ⟨_,_,h⟩
    ·cases h
    ·exact h
   obtain⟨v,z,hv,hz⟩:=hG.trim x (by simpa using hx) hxl
   refine⟨v,(acc_lang h _).1 ⟨z,?_,?_⟩⟩
   ·exact pw_path (r:=(mcT g e,mcF g e)) hr hv _ hx hp
   ·have:=hM.last z hz
    have hne:z ≠ -1:=by omega
    simp[endS,hne]
    exact hz
 ·rintro ⟨v,hv⟩
  obtain⟨z,hz,_⟩:=(acc_lang h _).2 hv
  exact Live.app v ⟨z,hz⟩
theorem parse7_calls {d:Nat} {g:List Grp} {s:ByteArray} {e:Ex} (hp:x50 s e) (hg:grpR.row w G B g) (hc:x0k e g=0) (hwt:e.wt<=1048576 * 4) (hgl:g.length<=1048576) (hgt:∀ x ∈ g,x.types.length<=1048576) :
 Calls Tryz.prog 127 #[.string s,.slice B g.length d] w fun r w'=>∃ A c,r=.returned (.tuple #[e.val A c,.int .i64 0])/\e.l.length<=c/\exR.row w' (fun k=>w.heap.size<=k) A e.l/\Pure w w':=by
 have HP:=mK hp
 have HCK:=mK (fun W A c (F:Nat->Prop) (hr:exR.row W F A e.l) (hu:Pure w W)=>hc ▸ x5z (c:=c) (d:=d) hr (Rp.x01 hg hu) hwt hgl hgt)
 have HRB:=mK (heap_alloc_new w (.cells #[.int .i64 0,.string ⟨#[]⟩,.slice none 0 0] 92))
 have hT1:Pure w (w.alloc (.cells #[.int .i64 0,.string ⟨#[]⟩,.slice none 0 0] 92)):=Upd.alloc1 _ _ _
 have HT1:=mK hT1
 clear hp hg hc hwt hgt hT1
 obtain⟨k0,nm,l⟩:=e
 unfold Ex.val at *
 go_enter Tryz.func127,Tryz.ntmps127
 go_wp2_with (go_at_call 164;refine(HP.o _).mono ?_;rintro e w1 ⟨A,c,rfl,hle,hr,hu⟩;have HR1:=mK hr;have HU1:=mK hu;have HLE:=mK hle;clear hr hu hle;apply As.o)
 refine⟨?_⟩
 have hz1:=HU1.o.size
 simp at hz1
 have hrb1:=(HU1.o.block w.heap.size (by simp) (fun h=>h)).trans HRB.o
 generalize hW:w1.alloc (.cells #[.int .i64 k0,.string nm,.slice A l.length c] 92)=W
 have hPW:Pure w1 W:=hW ▸ Upd.alloc1 _ _ _
 have HE:=mK (show W.heap[w1.heap.size]?=some (.cells #[.int .i64 k0,.string nm,.slice A l.length c] 92 (0,0)) from hW ▸ heap_alloc_new _ _)
 have HRW:=mK (Rp.x01 HR1.o hPW)
 have HPW:=mK ((HT1.o.tt HU1.o).tt hPW)
 have HRBW:=mK ((hPW.block w.heap.size (by omega) (fun h=>h)).trans hrb1)
 obtain⟨⟨e0,e1,e2⟩,_,hel⟩:=x11 HE.o
 clear hPW hrb1
 go_wp2_with (go_at_call 133;refine(HCK.o _ _ _ _ HRW.o HPW.o).mono ?_;rintro e w2 ⟨rfl,hu⟩;have HU2:=mK hu;clear hu;apply As.o)
 refine⟨?_⟩
 clear e0 e1 e2
 obtain⟨⟨e0,e1,e2⟩,_,hel2⟩:=x11 ((HU2.o.block _ hel (fun h=>h)).trans HE.o)
 have hrb4:=(HU2.o.block w.heap.size (lB HRBW.o) (fun h=>h)).trans HRBW.o
 obtain⟨⟨r0,r1,r2⟩,⟨rf0,rf1,rf2⟩,hrl4⟩:=x11 hrb4
 clear hrb4
 go_wp2
 exact bodyPost_ret (v:=.tuple #[.agg #[.int .i64 k0,.string nm,.slice A l.length c],.int .i64 0]) (by simp[results,Tryz.results127,go_sem,r0,r1,r2,rf0,rf1,rf2]) rfl ⟨A,c,rfl,HLE.o,Rp.x09 (Rp.x0f (Rp.x01 HRW.o HU2.o) (set3U w2 w.heap.size _ _ _) (fun k _ hk h=>by simp at hk;omega)) (fun k hk=>by simp at hk;omega),(HPW.o.tt HU2.o).trans (set3U w2 w.heap.size _ _ _) (fun q hq h=>by omega)⟩
theorem str6_info:(Tryz.prog.info? 9).map (fun i=>(i.zero,i.size,i.bytes))=some (some (.string ⟨#[]⟩),1,16):=by kernel_rfl
theorem str_at {xs:List ByteArray} (h:Rp.string.row w F A xs) {j:Nat} {x:ByteArray} (hx:xs[j]?=some x) :
 ∃ b o,A=some ⟨b,o,none⟩/\F b/\b < w.heap.size/\w.cell? ⟨b,o+j,none⟩=some (.string x):=by
 obtain⟨b,o,cs,hA,hF,hb,hr,hc⟩:=Rp.x42 h hx
 have hr':cs=[.string x]:=hr
 subst hr'
 have:=hc 0 _ rfl
 rw[show (Rp.string.sz)=1 from rfl,Nat.mul_one] at this
 exact⟨b,o,hA,hF,hb,this⟩
theorem getD_of6 {α:Type} {l:List α} {i:Nat} {x d:α} (h:l[i]?=some x):l.getD i d=x:=by simp[List.getD,h]
/-- Names that may be, none twice. -/
def okNames (names:List ByteArray):Bool:=(List.range names.length).all (fun i=>nameB (names.getD i ⟨#[]⟩) && !decide (names.getD i ⟨#[]⟩=x0u) && (List.range i).all (fun k=>!decide (names.getD k ⟨#[]⟩=names.getD i ⟨#[]⟩)))
theorem okNames_at {names:List ByteArray} (h:okNames names=true) {i:Nat} {x:ByteArray} (hx:names[i]?=some x):nameB x=true/\x ≠ x0u/\∀ k y,k < i->names[k]?=some y->y ≠ x:=by
 unfold okNames at h
 rw[List.all_eq_true] at h
 have h1:=h i (List.mem_range.2 (List.getElem?_eq_some_iff.1 hx).1)
 rw[getD_of6 hx] at h1
 simp only[Bool.and_eq_true,Bool.not_eq_true',decide_eq_false_iff_not] at h1
 refine⟨h1.1.1,h1.1.2,fun k y hk hy e=>?_⟩
 have h2:=List.all_eq_true.1 h1.2 k (List.mem_range.2 hk)
 rw[getD_of6 hy] at h2
 simp[e] at h2
theorem twice_calls {Bg:Option Addr} {d:Nat} {l:List Spec} {g:List Grp} (hr:specR.row w F A l) (hg:grpR.row w G Bg g) (hl:l.length<=1000) (hgl:g.length<=1000) (hsz:∀ x ∈ l.map (·.name) ++ g.map (·.name),x.size<=1048576 * 4) (hok:okNames (l.map (·.name) ++ g.map (·.name))=true) :
 Calls Tryz.prog 126 #[.slice A l.length c,.slice Bg g.length d] w fun r w'=>r=.returned (.bool false)/\Pure w w':=by
 have HR:=mK hr
 have HG:=mK hg
 have HSZ:=mK hsz
 have HOK:=mK (fun i x (hx:(l.map (·.name) ++ g.map (·.name))[i]?=some x)=>okNames_at hok hx)
 have HLN:=mK (show (l.map (·.name) ++ g.map (·.name)).length=l.length+g.length by simp)
 clear hr hg hsz hok
 go_enter Tryz.func126,Tryz.ntmps126
 go_wp2
 go_loopg [6,5] l.length (fun gg i v wr=>∃ k:Nat,k+gg=l.length/\i=.int .i64 k/\As (Rp.string.own 9 wr (fun q=>w.heap.size<=q) v ((l.map (·.name)).take k))/\As (Pure w wr))
 case atStart=>exact⟨0,by omega,rfl,⟨Rp.x0v _ _ _ _⟩,⟨Upd.refl _ _⟩⟩
 case round=>
  obtain⟨k,hk,rfl,HO,HP⟩:=hrel
  by_cases hlt:k < l.length
  ·obtain⟨Av,cv,rfl,_,_⟩:=Rp.x0c HO.o
   obtain⟨x,hx⟩:=gS hlt
   obtain⟨bx,ox,rfl,hFb,hbb,d0,d1,d2,d3,d4,d5,d6⟩:=x58 (Rp.x01 HR.o HP.o) hx
   obtain⟨g1,rfl⟩:=sC1 (by omega:0 < gk)
   have HK:=mK hk
   have HT:=mK (show (l.map (·.name)).take (k+1)=(l.map (·.name)).take k ++ [x.name] by rw[List.take_add_one,List.getElem?_map,hx];rfl)
   have hlk:((l.map (·.name)).take k).length<=1000:=by rw[List.length_take];omega
   clear hk hx
   go_wp2_with (at_builtin;refine Rp.x0o Rp.string HO.o x.name [.string x.name] rfl (Fp:=fun _=>False) (G:=fun q=>w.heap.size<=q) (fun _ h=>h.elim) (fun _ h _=>h) (fun q hq=>by have:=HP.o.size;omega) rfl _ _ 217 _ 16 rfl Tryz.underlying217 str6_info rfl (by decide) (by decide) rfl (by simp[Act.eval]) (by omega) ?_;intro v1 w1 ho1 hu1;rw[<- HT.o] at ho1;have HO1:=mK ho1;have HU1:=mK (Upd.trans HP.o hu1 (fun q hq h=>by have:=(Rp.x03 HO.o q h).1;omega));clear ho1 hu1)
   go_roundg g1
   case measure=>omega
   case rel=>exact⟨k+1,by have:=HK.o;omega,by go_num,HO1,HU1⟩
  ·have hkl:k=l.length:=by omega
   subst hkl
   rw[List.take_of_length_le (by simp)] at HO
   go_wp2
   go_loopg [7,5] g.length (fun gg i v wr=>∃ k:Nat,k+gg=g.length/\i=.int .i64 k/\As (Rp.string.own 9 wr (fun q=>w.heap.size<=q) v (l.map (·.name) ++ (g.map (·.name)).take k))/\As (Pure w wr))
   case atStart=>exact⟨0,by omega,rfl,⟨by rw[List.take_zero,List.append_nil];exact HO.o⟩,HP⟩
   case round=>
    clear HO HP
    obtain⟨k,hk,rfl,HO,HP⟩:=hrel
    by_cases hlt2:k < g.length
    ·obtain⟨Av,cv,rfl,_,hrow⟩:=Rp.x0c HO.o
     obtain⟨x,hx⟩:=gS hlt2
     obtain⟨bx,ox,A1,c1,rfl,hFb,hbb,d0,d1,hle1,hrow1⟩:=grp_at (Rp.x01 HG.o HP.o) hx
     obtain⟨g1,rfl⟩:=sC1 (by omega:0 < gk)
     have HK:=mK hk
     have HT:=mK (show l.map (·.name) ++ (g.map (·.name)).take (k+1)=(l.map (·.name) ++ (g.map (·.name)).take k) ++ [x.name] by rw[List.take_add_one,List.getElem?_map,hx];simp)
     have hlk:(l.map (·.name) ++ (g.map (·.name)).take k).length<=2000:=by rw[List.length_append,List.length_take,List.length_map];omega
     clear hk hx hrow1 hrow
     go_wp2_with (at_builtin;refine Rp.x0o Rp.string HO.o x.name [.string x.name] rfl (Fp:=fun _=>False) (G:=fun q=>w.heap.size<=q) (fun _ h=>h.elim) (fun _ h _=>h) (fun q hq=>by have:=HP.o.size;omega) rfl _ _ 217 _ 16 rfl Tryz.underlying217 str6_info rfl (by decide) (by decide) rfl (by simp[Act.eval]) (by omega) ?_;intro v1 w1 ho1 hu1;rw[<- HT.o] at ho1;have HO1:=mK ho1;have HU1:=mK (Upd.trans HP.o hu1 (fun q hq h=>by have:=(Rp.x03 HO.o q h).1;omega));clear ho1 hu1)
     go_roundg g1
     case measure=>omega
     case rel=>exact⟨k+1,by have:=HK.o;omega,by go_num,HO1,HU1⟩
    ·have hkl:k=g.length:=by omega
     subst hkl
     rw[List.take_of_length_le (by simp)] at HO
     obtain⟨Av,cv,rfl,_,hrow⟩:=Rp.x0c HO.o
     have HRW:=mK hrow
     clear hrow
     generalize hnm:l.map (·.name) ++ g.map (·.name)=names at *
     have hnml:names.length<=2000:=by rw[HLN.o];omega
     clear HO hnm
     go_wp2
     go_loopg [8] names.length (fun gg i wx=>∃ k:Nat,k+gg=names.length/\i=.int .i64 k/\As (Rp.string.row wx (fun q=>w.heap.size<=q) Av names/\Pure w wx))
     case atStart=>exact⟨0,by omega,rfl,⟨HRW.o,HP.o⟩⟩
     case round=>
      obtain⟨k,hk,rfl,HPx⟩:=hrel
      by_cases hlt3:k < names.length
      ·obtain⟨x,hx⟩:=gS hlt3
       obtain⟨bx,ox,rfl,_,_,d0⟩:=str_at HPx.o.1 hx
       obtain⟨g1,rfl⟩:=sC1 (by omega:0 < gk)
       obtain⟨o1,o2,o3⟩:=HOK.o k x hx
       have HLT:=mK (fun W:World=>o1 ▸ x6c x W (HSZ.o x (List.mem_of_getElem? hx)))
       have hne:(x.toList == [116,101,120,116])=false:=by
        have h:=bytes_ne o2
        rwa [show x0u.toList=[116,101,120,116] by rw[ByteArray.toList_eq];rfl] at h
       have HO3:=mK o3
       have HX:=mK hx
       have HK:=mK hk
       clear o1 o2 o3 hx hk HRW
       go_wp2_with (go_at_call 163;refine(HLT.o _).mono ?_;rintro e w2 ⟨rfl,hu⟩;have HU2:=mK (And.intro (Rp.x01 HPx.o.1 hu) (HPx.o.2.tt hu));clear hu;apply As.o)
       refine⟨?_⟩
       clear d0
       obtain⟨bx',ox',hbo,_,_,d0⟩:=str_at HU2.o.1 HX.o
       obtain⟨rfl,rfl⟩:bx=bx'/\ox=ox':=by simpa using hbo
       clear hbo
       go_wp2
       go_loopg [9] k (fun g2 j wy=>∃ q:Nat,q+g2=k/\j=.int .i64 q/\As (Rp.string.row wy (fun q=>w.heap.size<=q) (some ⟨bx,ox,none⟩) names/\Pure w wy))
       case atStart=>exact⟨0,by omega,rfl,HU2⟩
       case round=>
        obtain⟨q,hq,rfl,HPy⟩:=hrel
        by_cases hlq:q < k
        ·obtain⟨y,hy⟩:∃ y,names[q]?=some y:=⟨_,List.getElem?_eq_getElem (by omega)⟩
         obtain⟨b1,o1,hb1,_,_,e0⟩:=str_at HPy.o.1 hy
         obtain⟨rfl,rfl⟩:bx=b1/\ox=o1:=by simpa using hb1
         obtain⟨b2,o2,hb2,_,_,e1⟩:=str_at HPy.o.1 HX.o
         obtain⟨rfl,rfl⟩:bx=b2/\ox=o2:=by simpa using hb2
         obtain⟨g2,rfl⟩:=sC1 (by omega:0 < gk)
         have hne2:=bytes_ne (HO3.o q y hlq hy)
         have hql:q < names.length:=by omega
         have HQ:=mK hq
         clear hb1 hb2 hy hq d0
         go_wp2
         go_region
         all_goals go_wp2
         all_goals go_roundg g2
         all_goals first
          | (case measure=>omega)
          | (case rel=>exact⟨q+1,by have:=HQ.o;omega,by go_num,⟨Rp.x01 HPy.o.1 (rU.drew),HPy.o.2.drew⟩⟩)
        ·have hqk:q=k:=by omega
         subst hqk
         go_wp2
         go_roundg g1
         case measure=>omega
         case rel=>exact⟨q+1,by have:=HK.o;omega,by go_num,HPy⟩
      ·have hkn:k=names.length:=by omega
       subst hkn
       go_wp2
       go_ret
       exact⟨rfl,HPx.o.2⟩
end Go.Proofs.YtofjodppljnlaaaGreatDoor
