/- My own texts, packed: Expr, Reg, Pars5, New, House, Ref5, Par8. -/
import Derived.Test.YtofjodppljnlaaaGreatDoorP6
set_option maxRecDepth 100000
set_option maxHeartbeats 4000000
set_option linter.unusedVariables false
set_option linter.unusedSimpArgs false
variable {w w1 W:Go.World} {F G:Nat → Prop} {A B:Option Go.Addr} {cb c:Nat}
namespace Go.Proofs.YtofjodppljnlaaaGreatDoor
open Go.RowKit
theorem right_calls {e:Ex} (i:Int) (hr:exR.row w F A e.l) (hb:e.wt<=1048576 * 4) :
 Calls Tryz.prog 187 #[e.val A c,.int .i64 i] w fun r w'=>r=.returned (.bool (e.okB i))/\Pure w w':=
 right_all (1048576 * 4) e i hb (Nat.le_refl _) F A c w hr
/-- What expr.Check tells. -/
def x0z (e:Ex):Int:=if e.cnt > 200\/e.dep > 60 then 2 else if e.okB 0=false then 4 else 0
theorem x5x {e:Ex} (hr:exR.row w F A e.l) (hb:e.wt<=1048576 * 4) :
 Calls Tryz.prog 161 #[e.val A c] w fun r w'=>r=.returned (.int .i64 (x0z e))/\Pure w w':=by
 have hcb:e.cnt<=1048576 * 4:=Nat.le_trans e.cnt_le_wt hb
 have hdb:e.dep<=e.cnt:=e.x5w
 obtain⟨k0,nm,l⟩:=e
 have HR:=mK hr
 have HB:=mK hb
 have HCB:=mK hcb
 clear hr hb
 generalize hcn:(Ex.mk k0 nm l).cnt=n at *
 generalize hdn:(Ex.mk k0 nm l).dep=d at *
 have HN:=mK hcn
 have HD:=mK hdn
 have HSZ:=mK (fun (W:World) (h:exR.row W F A l)=>hcn ▸ hdn ▸ size_calls (c:=c) (e:=.mk k0 nm l) (w:=W) h (hcn ▸ hcb))
 clear hcn hdn
 by_cases h1:n > 200
 ·have HV:As ((2:Int)=x0z (.mk k0 nm l)):=⟨by unfold x0z;rw[HN.o,HD.o,if_pos (.inl h1)]⟩
  have e1:((n:Int) > 200):=by omega
  go_enter Tryz.func161,Tryz.ntmps161
  go_wp2_with (go_at_call 186;refine(HSZ.o _ (Rp.x01 HR.o aU)).mono ?_;rintro e w1 ⟨rfl,hu⟩;have HU:=mK (Upd.trans aU hu (fun _ _ h=>h));clear hu)
  go_ret
  exact⟨x3u HV.o,HU.o⟩
 ·have e1:¬ ((n:Int) > 200):=by omega
  by_cases h2:d > 60
  ·have HV:As ((2:Int)=x0z (.mk k0 nm l)):=⟨by unfold x0z;rw[HN.o,HD.o,if_pos (.inr h2)]⟩
   have e2:((d:Int) > 60):=by omega
   go_enter Tryz.func161,Tryz.ntmps161
   go_wp2_with (go_at_call 186;refine(HSZ.o _ (Rp.x01 HR.o aU)).mono ?_;rintro e w1 ⟨rfl,hu⟩;have HU:=mK (Upd.trans aU hu (fun _ _ h=>h));clear hu)
   go_ret
   exact⟨x3u HV.o,HU.o⟩
  ·have e2:¬ ((d:Int) > 60):=by omega
   have h12:¬ (n > 200\/d > 60):=by omega
   cases hq:(Ex.mk k0 nm l).okB 0
   ·have HV:As ((4:Int)=x0z (.mk k0 nm l)):=⟨by unfold x0z;rw[HN.o,HD.o,if_neg h12,hq,if_pos rfl]⟩
    clear h1 h2 h12
    go_enter Tryz.func161,Tryz.ntmps161
    go_wp2_with (first
     | (go_at_call 186;refine(HSZ.o _ (Rp.x01 HR.o aU)).mono ?_;rintro e w1 ⟨rfl,hu⟩;obtain⟨oc,of⟩:=hu.olds;have HU:=mK (Upd.trans aP hu (fun _ _ h=>h));clear hu)
     | (go_at_call 187;refine(right_calls (e:=.mk k0 nm l) (c:=c) 0 (Rp.x01 HR.o HU.o) HB.o).mono ?_;rintro e w2 ⟨rfl,hu⟩;rw[hq];have HU2:=mK (Upd.trans HU.o hu (fun _ _ h=>h));clear hu))
    go_ret
    exact⟨x3u HV.o,HU2.o⟩
   ·have HV:As ((0:Int)=x0z (.mk k0 nm l)):=⟨by unfold x0z;rw[HN.o,HD.o,if_neg h12,hq,if_neg (by decide)]⟩
    clear h1 h2 h12
    go_enter Tryz.func161,Tryz.ntmps161
    go_wp2_with (first
     | (go_at_call 186;refine(HSZ.o _ (Rp.x01 HR.o aU)).mono ?_;rintro e w1 ⟨rfl,hu⟩;obtain⟨oc,of⟩:=hu.olds;have HU:=mK (Upd.trans aP hu (fun _ _ h=>h));clear hu)
     | (go_at_call 187;refine(right_calls (e:=.mk k0 nm l) (c:=c) 0 (Rp.x01 HR.o HU.o) HB.o).mono ?_;rintro e w2 ⟨rfl,hu⟩;rw[hq];have HU2:=mK (Upd.trans HU.o hu (fun _ _ h=>h));clear hu))
    go_ret
    exact⟨x3u HV.o,HU2.o⟩
theorem named_calls {d:Nat} {e:Ex} {g:List Grp} (hr:exR.row w F A e.l) (hg:grpR.row w G B g) (hb:e.wt<=1048576 * 4) (hgl:g.length<=1048576) :
 Calls Tryz.prog 162 #[e.val A c,.slice B g.length d] w fun r w'=>r=.returned (.bool (e.x2p g))/\Pure w w':=
 named_all (1048576 * 4) e hb (Nat.le_refl _) F G A B c d g w hr hg hgl
def outB (t:Int):Bool:=decide (t < 0) || decide (16<=t)
def grpB (x:Grp):Bool:=decide (16 < x.types.length) || x.types.any outB
def longB (g:List Grp):Bool:=decide (16 < g.length) || g.any grpB
/-- What reg.Check tells. -/
def x0k (e:Ex) (g:List Grp):Int:=if x0z e ≠ 0 then x0z e else if longB g=true then 1 else if e.x2p g=false then 6 else 0
theorem any_succ {α:Type} {f:α->Bool} {l:List α} {k:Nat} {x:α} (hx:l[k]?=some x):(l.take (k+1)).any f=((l.take k).any f || f x):=by
 rw[List.take_add_one,hx,List.any_append]
 simp
theorem x62 {d:Nat} {e:Ex} {g:List Grp} (hr:exR.row w F A e.l) (hg:grpR.row w G B g) (hb:e.wt<=1048576 * 4) (hgl:g.length<=1048576) (hgt:∀ x ∈ g,x.types.length<=1048576) :
 Calls Tryz.prog 125 #[e.val A c,.slice B g.length d] w fun r w'=>r=.returned (.int .i64 (x0k e g))/\Pure w w':=by
 obtain⟨k0,nm,l⟩:=e
 have HR:=mK hr
 have HG:=mK hg
 have HB:=mK hb
 have HGT:=mK hgt
 clear hr hg hb hgt
 by_cases h0:x0z (.mk k0 nm l)=0
 ·have HE:=mK h0
  clear h0
  go_enter Tryz.func125,Tryz.ntmps125
  go_wp2_with (go_at_call 161;refine(x5x (e:=.mk k0 nm l) (c:=c) (Rp.x01 HR.o aU) HB.o).mono ?_;rintro e w1 ⟨rfl,hu⟩;rw[HE.o];have HU:=mK (Upd.trans aP hu (fun _ _ h=>h));have HX:=mK ((BoxE.new w k0 nm l.length A c _).pure hu);clear hu)
  go_loopg [6,21] g.length (fun gg lb i wr=>∃ k:Nat,k+gg=g.length/\i=.int .i64 k/\lb=.bool (decide (16 < g.length) || (g.take k).any grpB)/\As (Pure w wr/\BoxE w.heap.size k0 nm l.length A c wr))
  case atStart=>exact⟨0,by omega,rfl,by simp;try omega,⟨HU.o,HX.o⟩⟩
  case round=>
   clear HX
   obtain⟨k,hk,rfl,rfl,HB2⟩:=hrel
   obtain⟨hp,hbx⟩:=HB2.o
   have HP:=mK hp
   have HX:=mK hbx
   obtain⟨b0,b1,b2,b3⟩:=hbx
   by_cases hlt:k < g.length
   ·obtain⟨x,hx⟩:=gS hlt
    obtain⟨b,o,A1,c1,rfl,hF,hbl,d0,d1,hle1,hrow1⟩:=grp_at (Rp.x01 HG.o hp) hx
    obtain⟨b',o',A1',c1',hA',hF',hbl',d0',d1',hle1',hrow1'⟩:=grp_at HG.o hx
    obtain⟨rfl,rfl⟩:b=b'/\o=o':=by simpa using hA'
    have hsame:=(hp.cell (o:=o+k * 2+1) hbl' (fun h=>h)).symm.trans d1
    rw[d1'] at hsame
    simp at hsame
    obtain⟨rfl,rfl⟩:=hsame
    obtain⟨g1,rfl⟩:=sC1 (by omega:0 < gk)
    have HT:=mK (any_succ (f:=grpB) hx)
    have HR1:=mK hrow1'
    have HK:=mK hk
    have htl:=HGT.o x (List.mem_of_getElem? hx)
    clear hk hx hp hrow1 hrow1' d0' d1'
    cases hb:(decide (16 < g.length) || (g.take k).any grpB)
    ·have hb':=mK (Bool.or_eq_false_iff.1 hb)
     clear hb
     by_cases hlen:16 < x.types.length
     ·have hl2:((x.types.length:Int) > 16):=by omega
      go_wp2
      go_loopg [6,35] x.types.length (fun g2 lb i wx=>∃ q:Nat,q+g2=x.types.length/\i=.int .i64 q/\lb=.bool (true || (x.types.take q).any outB)/\As (Pure w wx/\BoxE w.heap.size k0 nm l.length A c wx)/\As (wr.heap.size < wx.heap.size/\wx.heap[wr.heap.size]?=some (.cells #[.string x.name,.slice A1' x.types.length c1'] 85)))
      case atStart=>exact⟨0,by omega,rfl,by simp,⟨HP.o.alloc _,HX.o.pure aU⟩,⟨by simp,heap_alloc_new wr _⟩⟩
      case round=>
       obtain⟨q,hq,rfl,rfl,HP2,HW2⟩:=hrel
       by_cases hlt2:q < x.types.length
       ·obtain⟨y,hy⟩:∃ y,x.types[q]?=some y:=⟨_,List.getElem?_eq_getElem hlt2⟩
        obtain⟨g2,rfl⟩:=sC1 (by omega:0 < gk)
        obtain⟨b2,o2,rfl,hF2,hbl2,y0⟩:=int_at (Rp.x01 HR1.o HP2.o.1) hy
        have HT2:=mK (any_succ (f:=outB) hy)
        have HQ:=mK hq
        clear hq hy
        cases hb:(true || (x.types.take q).any outB)
        ·exact absurd hb (by simp)
        ·have hb':=mK hb
         clear hb
         go_wp2
         go_roundg g2
         case measure=>omega
         case rel=>exact⟨q+1,by have:=HQ.o;omega,by go_num,by rw[HT2.o,<- Bool.or_assoc,hb'.o];simp,HP2,HW2⟩
       ·have hql:q=x.types.length:=by omega
        subst hql
        rw[List.take_length]
        go_wp2
        go_roundg g1
        case measure=>omega
        case rel=>exact⟨k+1,by have:=HK.o;omega,by go_num,by rw[HT.o];simp[grpB,hlen],HP2⟩
     ·have hl2:¬ ((x.types.length:Int) > 16):=by omega
      go_wp2
      go_loopg [6,35] x.types.length (fun g2 lb i wx=>∃ q:Nat,q+g2=x.types.length/\i=.int .i64 q/\lb=.bool (false || (x.types.take q).any outB)/\As (Pure w wx/\BoxE w.heap.size k0 nm l.length A c wx)/\As (wr.heap.size < wx.heap.size/\wx.heap[wr.heap.size]?=some (.cells #[.string x.name,.slice A1' x.types.length c1'] 85)))
      case atStart=>exact⟨0,by omega,rfl,by simp,⟨HP.o.alloc _,HX.o.pure aU⟩,⟨by simp,heap_alloc_new wr _⟩⟩
      case round=>
       obtain⟨q,hq,rfl,rfl,HP2,HW2⟩:=hrel
       by_cases hlt2:q < x.types.length
       ·obtain⟨y,hy⟩:∃ y,x.types[q]?=some y:=⟨_,List.getElem?_eq_getElem hlt2⟩
        obtain⟨g2,rfl⟩:=sC1 (by omega:0 < gk)
        obtain⟨b2,o2,rfl,hF2,hbl2,y0⟩:=int_at (Rp.x01 HR1.o HP2.o.1) hy
        have HT2:=mK (any_succ (f:=outB) hy)
        have HQ:=mK hq
        clear hq hy
        cases hb:(false || (x.types.take q).any outB)
        ·have hb':=mK (Bool.or_eq_false_iff.1 hb)
         clear hb
         by_cases y1:y < 0
         ·have HO:As (outB y=true):=⟨by simp[outB,y1]⟩
          go_wp2
          go_roundg g2
          case measure=>omega
          case rel=>exact⟨q+1,by have:=HQ.o;omega,by go_num,by rw[HT2.o,HO.o];simp,HP2,HW2⟩
         ·by_cases y2:16<=y
          ·have HO:As (outB y=true):=⟨by simp[outB,y2]⟩
           have y3:y >= 16:=y2
           go_wp2
           go_roundg g2
           case measure=>omega
           case rel=>exact⟨q+1,by have:=HQ.o;omega,by go_num,by rw[HT2.o,HO.o];simp,HP2,HW2⟩
          ·have HO:As (outB y=false):=⟨by simp[outB];omega⟩
           have y3:¬ y >= 16:=y2
           go_wp2
           go_roundg g2
           case measure=>omega
           case rel=>exact⟨q+1,by have:=HQ.o;omega,by go_num,by rw[HT2.o,HO.o,hb'.o.2];simp,HP2,HW2⟩
        ·have hb':=mK hb
         clear hb
         go_wp2
         go_roundg g2
         case measure=>omega
         case rel=>exact⟨q+1,by have:=HQ.o;omega,by go_num,by rw[HT2.o,<- Bool.or_assoc,hb'.o];simp,HP2,HW2⟩
       ·have hql:q=x.types.length:=by omega
        subst hql
        rw[List.take_length]
        go_wp2
        go_roundg g1
        case measure=>omega
        case rel=>exact⟨k+1,by have:=HK.o;omega,by go_num,by rw[HT.o];rw[<- Bool.or_assoc,Bool.or_eq_false_iff.2 hb'.o];simp[grpB,hlen],HP2⟩
    ·have hb':=mK hb
     clear hb
     go_wp2
     go_loopg [6,35] x.types.length (fun g2 lb i wx=>∃ q:Nat,q+g2=x.types.length/\i=.int .i64 q/\lb=.bool (true || (x.types.take q).any outB)/\As (Pure w wx/\BoxE w.heap.size k0 nm l.length A c wx)/\As (wr.heap.size < wx.heap.size/\wx.heap[wr.heap.size]?=some (.cells #[.string x.name,.slice A1' x.types.length c1'] 85)))
     case atStart=>exact⟨0,by omega,rfl,by simp,⟨HP.o.alloc _,HX.o.pure aU⟩,⟨by simp,heap_alloc_new wr _⟩⟩
     case round=>
      obtain⟨q,hq,rfl,rfl,HP2,HW2⟩:=hrel
      by_cases hlt2:q < x.types.length
      ·obtain⟨y,hy⟩:∃ y,x.types[q]?=some y:=⟨_,List.getElem?_eq_getElem hlt2⟩
       obtain⟨g2,rfl⟩:=sC1 (by omega:0 < gk)
       obtain⟨b2,o2,rfl,hF2,hbl2,y0⟩:=int_at (Rp.x01 HR1.o HP2.o.1) hy
       have HT2:=mK (any_succ (f:=outB) hy)
       have HQ:=mK hq
       clear hq hy
       cases hb:(true || (x.types.take q).any outB)
       ·exact absurd hb (by simp)
       ·have hb':=mK hb
        clear hb
        go_wp2
        go_roundg g2
        case measure=>omega
        case rel=>exact⟨q+1,by have:=HQ.o;omega,by go_num,by rw[HT2.o,<- Bool.or_assoc,hb'.o];simp,HP2,HW2⟩
      ·have hql:q=x.types.length:=by omega
       subst hql
       rw[List.take_length]
       go_wp2
       go_roundg g1
       case measure=>omega
       case rel=>exact⟨k+1,by have:=HK.o;omega,by go_num,by rw[HT.o];rw[<- Bool.or_assoc,hb'.o];simp,HP2⟩
   ·have hkl:k=g.length:=by omega
    subst hkl
    rw[List.take_length]
    cases hb:(decide (16 < g.length) || g.any grpB)
    ·cases hn:(Ex.mk k0 nm l).x2p g
     ·have HV:As ((6:Int)=x0k (.mk k0 nm l) g):=⟨by unfold x0k longB;rw[HE.o,hb,hn];rfl⟩
      have HNM:=mK (fun w1 (hu:Pure w w1)=>named_calls (e:=.mk k0 nm l) (c:=c) (d:=d) (Rp.x01 HR.o hu) (Rp.x01 HG.o hu) HB.o hgl)
      rw[hn] at HNM
      clear hb hn hp
      go_wp2_with (go_at_call 162;refine(HNM.o _ HP.o).mono ?_;rintro e w3 ⟨rfl,hu⟩;have HU3:=mK (HP.o.tt hu);clear hu)
      go_ret
      exact⟨x3u HV.o,HU3.o⟩
     ·have HV:As ((0:Int)=x0k (.mk k0 nm l) g):=⟨by unfold x0k longB;rw[HE.o,hb,hn];rfl⟩
      have HNM:=mK (fun w1 (hu:Pure w w1)=>named_calls (e:=.mk k0 nm l) (c:=c) (d:=d) (Rp.x01 HR.o hu) (Rp.x01 HG.o hu) HB.o hgl)
      rw[hn] at HNM
      clear hb hn hp
      go_wp2_with (go_at_call 162;refine(HNM.o _ HP.o).mono ?_;rintro e w3 ⟨rfl,hu⟩;have HU3:=mK (HP.o.tt hu);clear hu)
      go_ret
      exact⟨x3u HV.o,HU3.o⟩
    ·have HV:As ((1:Int)=x0k (.mk k0 nm l) g):=⟨by unfold x0k longB;rw[HE.o,hb];rfl⟩
     clear hb hp
     go_wp2
     go_ret
     exact⟨x3u HV.o,HP.o⟩
 ·have HV:As (x0z (.mk k0 nm l)=x0k (.mk k0 nm l) g):=⟨by unfold x0k;rw[if_pos h0]⟩
  have e0:(x0z (.mk k0 nm l) != 0)=true:=by simp[h0]
  have HC:=mK (fun W (h:exR.row W F A l)=>x5x (w:=W) (e:=.mk k0 nm l) (c:=c) h HB.o)
  generalize x0z (.mk k0 nm l)=v at *
  clear h0
  go_enter Tryz.func125,Tryz.ntmps125
  go_wp2_with (go_at_call 161;refine(HC.o _ (Rp.x01 HR.o aU)).mono ?_;rintro e w1 ⟨rfl,hu⟩;have HU:=mK (Upd.trans aP hu (fun _ _ h=>h));clear hu)
  go_ret
  exact⟨x3u HV.o,HU.o⟩
theorem choice_name {tb m:Nat} {s:ByteArray} {kk:Int} (h:TB w tb s 0) (hn:x2r s m kk):Calls Tryz.prog 180 #[.pointer (some ⟨tb,0,none⟩)] w (PartPost w tb s m kk):=by
 have hsm:=hn.nm.small
 have htb:=h.cells.2.2
 have hT1:Pure w ((w.alloc (.cells #[.pointer (some ⟨tb,0,none⟩)] 205)).alloc (.cells #[.int .i64 0,.string ⟨#[]⟩,.slice none 0 0] 92)):=aU.alloc _
 have HT1:=mK hT1
 have hb0:=(Below.heap_alloc (w.alloc (.cells #[.pointer (some ⟨tb,0,none⟩)] 205)) (.cells #[.int .i64 0,.string ⟨#[]⟩,.slice none 0 0] 92) w.heap.size (by simp)).trans (heap_alloc_new w _)
 have hc:((w.alloc (.cells #[.pointer (some ⟨tb,0,none⟩)] 205)).alloc (.cells #[.int .i64 0,.string ⟨#[]⟩,.slice none 0 0] 92)).cell? ⟨w.heap.size,0,none⟩=some (.pointer (some ⟨tb,0,none⟩)):=by unfold World.cell?;simp only[hb0];rfl
 have HSM:=mK (someChoice (mb:=w.heap.size) (h.pure hT1) hn hc (by simp;omega) (by omega))
 have hrb0:=heap_alloc_new (w.alloc (.cells #[.pointer (some ⟨tb,0,none⟩)] 205)) (.cells #[.int .i64 0,.string ⟨#[]⟩,.slice none 0 0] 92)
 rw[show (w.alloc (.cells #[.pointer (some ⟨tb,0,none⟩)] 205)).heap.size=w.heap.size+1 by simp] at hrb0
 have HRB:=mK hrb0
 clear h hn hT1 hb0 hc hrb0
 go_enter Tryz.func180,Tryz.ntmps180
 go_wp2_with (go_at_call 208;refine HSM.o.mono ?_;rintro e w1 ⟨nb,rfl,hnm,hnb,hT,hu⟩;have HNM:=mK hnm;have HT:=mK hT;have HU1:=mK hu;clear hnm hT hu;apply As.o)
 refine⟨?_⟩
 simp at hnb
 have hrb1:=(HU1.o.block (w.heap.size+1) (by simp) (by omega)).trans HRB.o
 obtain⟨⟨r0,r1,r2⟩,⟨rf0,rf1,rf2⟩,hrl⟩:=x11 hrb1
 clear hrb1
 go_wp2
 exact bodyPost_ret (v:=.tuple #[.agg #[.int .i64 kk,.string ⟨#[]⟩,.slice (some ⟨nb,0,none⟩) 1 1],.nilIface]) (by simp[results,Tryz.results180,go_sem,r0,r1,r2,rf0,rf1,rf2]) rfl ⟨nb,rfl,by
  have hnb2:=lB HNM.o
  exact((set3U w1 (w.heap.size+1) _ _ _).block nb hnb2 (by omega)).trans HNM.o,by omega,by
  exact((set3U w1 (w.heap.size+1) _ _ _).block tb HT.o.cells.2.2 (by omega)).trans HT.o,by
  exact((HT1.o.mono (fun _ _ h=>h.elim)).tt HU1.o).trans (set3U w1 (w.heap.size+1) _ _ _) (fun q hq h=>absurd h (by omega))⟩
theorem check_sign {kk:Int} {nm:ByteArray} (hk:kk=4\/kk=5\/kk=6) (hn:nameB nm=true):x0z (.mk kk ⟨#[]⟩ [.mk 1 nm []])=0:=by
 have e1:(Ex.mk 1 nm []).okB kk=true:=by
  rw[Ex.okB,if_pos rfl,hn]
  rfl
 have e2:(Ex.mk kk ⟨#[]⟩ [.mk 1 nm []]).okB 0=true:=by
  rw[Ex.okB,if_neg (by omega),if_neg (by omega)]
  have e3:decide (x23 kk<=[Ex.mk 1 nm []].length)=true:=by
   rcases hk with rfl | rfl | rfl <;> simp[x23]
  have e4:decide ([Ex.mk 1 nm []].length<=mostE kk [Ex.mk 1 nm []].length)=true:=by
   rcases hk with rfl | rfl | rfl <;> simp[mostE]
  rw[e3,e4]
  simp[Ex.oksB,e1]
  rfl
 unfold x0z
 rw[if_neg (by simp[Ex.cnt,Ex.cnts,Ex.dep,Ex.deps]),if_neg (by rw[e2];simp)]
theorem as_nil (t:Value) (w:World):Calls Tryz.prog 160 #[.nilIface,t] w fun e w'=>e=.returned (.bool false)/\w=w':=by
 go_enter Tryz.func160,Tryz.ntmps160
 go_wp2
 go_ret
 exact⟨rfl,rfl⟩
/-- A struct laid into an elder block, and two blocks made behind it. -/
theorem set3_two {rb:Nat} {x0 x1 x2:Value} {t:TypeId} (h:w.heap[rb]?=some (.cells #[x0,x1,x2] t (0,0))) (y0 y1 y2:Value) (o1 o2:Obj) :
 ((((((w.setCell ⟨rb,0,none⟩ y0).setCell ⟨rb,1,none⟩ y1).setCell ⟨rb,2,none⟩ y2).alloc o1).alloc o2).cell? ⟨rb,0,none⟩=some y0/\(((((w.setCell ⟨rb,0,none⟩ y0).setCell ⟨rb,1,none⟩ y1).setCell ⟨rb,2,none⟩ y2).alloc o1).alloc o2).cell? ⟨rb,1,none⟩=some y1/\(((((w.setCell ⟨rb,0,none⟩ y0).setCell ⟨rb,1,none⟩ y1).setCell ⟨rb,2,none⟩ y2).alloc o1).alloc o2).cell? ⟨rb,2,none⟩=some y2):=by
 have hl:=lB h
 have h3:(((w.setCell ⟨rb,0,none⟩ y0).setCell ⟨rb,1,none⟩ y1).setCell ⟨rb,2,none⟩ y2).heap[rb]?=some (.cells #[y0,y1,y2] t (0,0)):=by simp[World.setCell,Array.getElem?_modify,h]
 have hz:(((w.setCell ⟨rb,0,none⟩ y0).setCell ⟨rb,1,none⟩ y1).setCell ⟨rb,2,none⟩ y2).heap.size=w.heap.size:=by simp[World.setCell]
 have h4:=(Below.heap_alloc (((w.setCell ⟨rb,0,none⟩ y0).setCell ⟨rb,1,none⟩ y1).setCell ⟨rb,2,none⟩ y2) o1 rb (by omega)).trans h3
 have h5:=(Below.heap_alloc ((((w.setCell ⟨rb,0,none⟩ y0).setCell ⟨rb,1,none⟩ y1).setCell ⟨rb,2,none⟩ y2).alloc o1) o2 rb (by simp;omega)).trans h4
 exact(x11 h5).1
/-- What a text is parsed to. -/
def x5f (s:ByteArray) (e:Ex):Prop:=∀ w:World,Calls Tryz.prog 124 #[.string s] w fun r w'=>∃ A c,r=.returned (.tuple #[e.val A c,.int .i64 s.size,.int .i64 0])/\e.l.length<=c/\exR.row w' (fun k=>w.heap.size<=k) A e.l/\Pure w w'
theorem whole_name {tb m:Nat} {s:ByteArray} {kk:Int} (h:TB w tb s 0) (hn:x2r s m kk):Calls Tryz.prog 159 #[.pointer (some ⟨tb,0,none⟩)] w (PartPost w tb s m kk):=by
 have hsm:=hn.nm.small
 have htb:=h.cells.2.2
 have hlen:=hn.len
 have hsgn:=hn.sg (by omega)
 have hkk:kk=4\/kk=5\/kk=6:=by omega
 obtain⟨a1,a2,a3⟩:=hn.c0 (by omega)
 have hT1:Pure w (w.alloc (.cells #[.int .i64 0,.string ⟨#[]⟩,.slice none 0 0] 92)):=Upd.alloc1 _ _ _
 have HT1:=mK hT1
 have HNX:=mK (next_at (h.pure hT1) (by omega:0 < s.size) a2 a3 hsm)
 have HCH:=mK (fun W (hu:Pure w W)=>choice_name (h.pure hu) hn)
 have HNE:=mK (fun (W:World) (hT:TB W tb s s.size)=>next_end hT hsm)
 have hc0:((s[0]'(by omega)).toNat:Int) ≠ 0:=by omega
 obtain⟨c0,hcc⟩:∃ c:Int,c=((s[0]'(by omega)).toNat:Int):=⟨_,rfl⟩
 rw[<- hcc] at hc0
 have HC0:=mK hcc
 have hc1:(c0 == 0)=false:=by simpa using hc0
 have HNB:=mK hn.nb
 have HRB:=mK (heap_alloc_new w (.cells #[.int .i64 0,.string ⟨#[]⟩,.slice none 0 0] 92))
 have hnml:(s.extract 0 m).size<=1000:=by simp;omega
 clear h hn hT1 a1 a2 a3 hsgn hcc hc0
 go_enter Tryz.func159,Tryz.ntmps159
 go_wp2_with (go_at_call 179;refine HNX.o.mono ?_;rintro e w1 ⟨rfl,hu⟩;rw[<- HC0.o];have HU1:=mK (HT1.o.tt hu);have HV1:=mK hu;clear hu;apply As.o)
 refine⟨?_⟩
 go_wp2_with (go_at_call 180;refine(HCH.o _ HU1.o).mono ?_;rintro e w2 ⟨nb,rfl,hnm,hnb,hT,hu⟩;have HNM:=mK hnm;have HT:=mK hT;have HU2:=mK hu;clear hnm hT hu;apply As.o)
 refine⟨?_⟩
 have hz1:=HV1.o.size
 simp at hz1
 have hz2:=HU2.o.size
 have HT3:=mK (HT.o.pure (Upd.alloc1 (fun _=>False) w2 (.cells #[.int .i64 kk,.string ⟨#[]⟩,.slice (some ⟨nb,0,none⟩) 1 1] 92)))
 have HEB:=mK (heap_alloc_new w2 (.cells #[.int .i64 kk,.string ⟨#[]⟩,.slice (some ⟨nb,0,none⟩) 1 1] 92))
 go_wp2_with (go_at_call 179;refine(HNE.o _ HT3.o).mono ?_;rintro e w3 ⟨rfl,hu⟩;have HU3:=mK hu;clear hu;apply As.o)
 refine⟨?_⟩
 have hnbl:=lB HNM.o
 have hz3:=HU3.o.size
 simp at hz3
 have hp23:Pure w2 w3:=(Upd.alloc1 (fun _=>False) w2 _).tt HU3.o
 have HNM3:As (NameB w3 nb (s.extract 0 m)):=⟨(hp23.block nb hnbl (fun h=>h)).trans HNM.o⟩
 have heb3:=(HU3.o.block w2.heap.size (by simp) (fun h=>h)).trans HEB.o
 obtain⟨⟨e0,e1,e2⟩,_,hel⟩:=x11 heb3
 have HEB3:=mK heb3
 have HP23:=mK hp23
 have HCK:=mK (x5x (c:=1) (e:=.mk kk ⟨#[]⟩ [.mk 1 (s.extract 0 m) []]) (w:=w3) (name_row (F:=fun _=>True) HNM3.o trivial) (by
  have e0:(⟨#[]⟩:ByteArray).size=0:=rfl
  simp only[Ex.wt,Ex.wts,e0]
  omega))
 rw[check_sign hkk HNB.o] at HCK
 clear heb3 hp23
 go_wp2_with (go_at_call 161;refine HCK.o.mono ?_;rintro e w4 ⟨rfl,hu⟩;have HU4:=mK hu;clear hu;apply As.o)
 refine⟨?_⟩
 have hrb1:=(HV1.o.block w.heap.size (by simp) (fun h=>h)).trans HRB.o
 have hrb4:=((HP23.o.tt HU4.o).block w.heap.size (by omega) (fun h=>h)).trans ((HU2.o.block w.heap.size (by omega) (by omega)).trans hrb1)
 have heb4:=(HU4.o.block w2.heap.size (by omega) (fun h=>h)).trans HEB3.o
 obtain⟨⟨r0,r1,r2⟩,⟨rf0,rf1,rf2⟩,hrl⟩:=x11 hrb4
 clear e0 e1 e2
 obtain⟨⟨e0,e1,e2⟩,_,hel4⟩:=x11 heb4
 clear hrb1 hrb4 heb4
 go_wp2
 exact bodyPost_ret (v:=.tuple #[.agg #[.int .i64 kk,.string ⟨#[]⟩,.slice (some ⟨nb,0,none⟩) 1 1],.nilIface]) (by simp[results,Tryz.results159,go_sem,r0,r1,r2,rf0,rf1,rf2]) rfl ⟨nb,rfl,by
  have hnb4:=(HU4.o.block nb (lB HNM3.o) (fun h=>h)).trans HNM3.o
  exact((set3U w4 w.heap.size _ _ _).block nb (lB hnb4) (by omega)).trans hnb4,by omega,by
  have hT4:=(HT.o.pure HP23.o).pure HU4.o
  exact((set3U w4 w.heap.size _ _ _).block tb hT4.cells.2.2 (by omega)).trans hT4,by
  exact(((HU1.o.mono (fun _ _ h=>h.elim)).tt HU2.o).trans (HP23.o.tt HU4.o) (fun _ _ h=>h.elim)).trans (set3U w4 w.heap.size _ _ _) (fun q hq h=>absurd h (by omega))⟩
theorem parse_name {m:Nat} {s:ByteArray} {kk:Int} (hn:x2r s m kk) (hs:s.size<=200):x5f s (.mk kk ⟨#[]⟩ [.mk 1 (s.extract 0 m) []]):=by
 intro w
 have e1:decide (200 < (s.size:Int))=false:=by simp;omega
 have e2:¬ (200:Int) < (s.size:Int):=by omega
 have e3:decide (200 < s.size)=false:=by simp;omega
 have hT1:Pure w ((w.alloc (.cells #[.int .i64 0,.string ⟨#[]⟩,.slice none 0 0] 92)).alloc (.cells #[.string s,.int .i64 0] 207)):=aU.alloc _
 have hTB:TB ((w.alloc (.cells #[.int .i64 0,.string ⟨#[]⟩,.slice none 0 0] 92)).alloc (.cells #[.string s,.int .i64 0] 207)) (w.heap.size+1) s 0:=by
  have:=heap_alloc_new (w.alloc (.cells #[.int .i64 0,.string ⟨#[]⟩,.slice none 0 0] 92)) (.cells #[.string s,.int .i64 0] 207)
  rw[show (w.alloc (.cells #[.int .i64 0,.string ⟨#[]⟩,.slice none 0 0] 92)).heap.size=w.heap.size+1 by simp] at this
  exact this
 have HT1:=mK hT1
 have HWH:=mK (whole_name hTB hn)
 have HRB:=mK ((Below.heap_alloc (w.alloc (.cells #[.int .i64 0,.string ⟨#[]⟩,.slice none 0 0] 92)) (.cells #[.string s,.int .i64 0] 207) w.heap.size (by simp)).trans (heap_alloc_new w _))
 clear hn hT1 hTB
 go_enter Tryz.func124,Tryz.ntmps124
 go_wp2_with (go_at_call 159;refine HWH.o.mono ?_;rintro e w1 ⟨nb,rfl,hnm,hnb,hT,hu⟩;have HNM:=mK hnm;have HU1:=mK hu;clear hnm hT hu;apply As.o)
 refine⟨?_⟩
 simp at hnb
 have hz1:=HU1.o.size
 simp at hz1
 have hrb1:=(HU1.o.block w.heap.size (by simp;omega) (by omega)).trans HRB.o
 obtain⟨⟨r0,r1,r2⟩,⟨rf0,rf1,rf2⟩,hrl⟩:=x11 hrb1
 have hnbl:=lB HNM.o
 have HRB1:=mK hrb1
 clear hrb1
 go_wp2_with (go_at_call 160;refine(as_nil _ _).mono ?_;rintro e w2 ⟨rfl,rfl⟩)
 have hnm5:NameB (((((w1.setCell ⟨w.heap.size,0,none⟩ (.int .i64 kk)).setCell ⟨w.heap.size,1,none⟩ (.string ⟨#[]⟩)).setCell ⟨w.heap.size,2,none⟩ (.slice (some ⟨nb,0,none⟩) 1 1)).alloc (.cells #[.int .i64 kk,.string ⟨#[]⟩,.slice (some ⟨nb,0,none⟩) 1 1] 92)).alloc (.cells #[.pointer none] 210)) nb (s.extract 0 m):=
  ((((set3U w1 w.heap.size _ _ _).alloc _).alloc _).block nb hnbl (by omega)).trans HNM.o
 obtain⟨q0,q1,q2⟩:=set3_two HRB1.o (.int .i64 kk) (.string ⟨#[]⟩) (.slice (some ⟨nb,0,none⟩) 1 1) (.cells #[.int .i64 kk,.string ⟨#[]⟩,.slice (some ⟨nb,0,none⟩) 1 1] 92) (.cells #[.pointer none] 210)
 exact bodyPost_ret (v:=.tuple #[.agg #[.int .i64 kk,.string ⟨#[]⟩,.slice (some ⟨nb,0,none⟩) 1 1],.int .i64 s.size,.int .i64 0]) (by simp[results,Tryz.results124,go_sem,q0,q1,q2]) rfl ⟨some ⟨nb,0,none⟩,1,rfl,Nat.le_refl _,name_row hnm5 (by omega),((((HT1.o.trans HU1.o (fun q hq h=>by omega)).trans (set3U w1 w.heap.size _ _ _) (fun q hq h=>by omega)).alloc _).alloc _)⟩
theorem whole_empty {tb:Nat} (h:TB w tb ⟨#[]⟩ 0):Calls Tryz.prog 159 #[.pointer (some ⟨tb,0,none⟩)] w fun r w'=>r=.returned (.tuple #[.agg #[.int .i64 0,.string ⟨#[]⟩,.slice none 0 0],.nilIface])/\Pure w w':=by
 have hT1:Pure w (w.alloc (.cells #[.int .i64 0,.string ⟨#[]⟩,.slice none 0 0] 92)):=Upd.alloc1 _ _ _
 have HNX:=mK (next_end (s:=⟨#[]⟩) (h.pure hT1) (by decide))
 have HT1:=mK hT1
 have HRB:=mK (heap_alloc_new w (.cells #[.int .i64 0,.string ⟨#[]⟩,.slice none 0 0] 92))
 clear h hT1
 go_enter Tryz.func159,Tryz.ntmps159
 go_wp2_with (go_at_call 179;refine HNX.o.mono ?_;rintro e w1 ⟨rfl,hu⟩;have HU1:=mK hu;clear hu;apply As.o)
 refine⟨?_⟩
 have hrb1:=(HU1.o.block w.heap.size (by simp) (fun h=>h)).trans HRB.o
 obtain⟨⟨r0,r1,r2⟩,⟨rf0,rf1,rf2⟩,hrl⟩:=x11 hrb1
 clear hrb1
 go_wp2
 exact bodyPost_ret (v:=.tuple #[.agg #[.int .i64 0,.string ⟨#[]⟩,.slice none 0 0],.nilIface]) (by simp[results,Tryz.results159,go_sem,r0,r1,r2,rf0,rf1,rf2]) rfl ⟨rfl,(HT1.o.tt HU1.o).trans (set3U w1 w.heap.size _ _ _) (fun q hq h=>by omega)⟩
theorem parse_empty:x5f ⟨#[]⟩ (.mk 0 ⟨#[]⟩ []):=by
 intro w
 have hT1:Pure w ((w.alloc (.cells #[.int .i64 0,.string ⟨#[]⟩,.slice none 0 0] 92)).alloc (.cells #[.string ⟨#[]⟩,.int .i64 0] 207)):=aU.alloc _
 have hTB:TB ((w.alloc (.cells #[.int .i64 0,.string ⟨#[]⟩,.slice none 0 0] 92)).alloc (.cells #[.string ⟨#[]⟩,.int .i64 0] 207)) (w.heap.size+1) ⟨#[]⟩ 0:=by
  have:=heap_alloc_new (w.alloc (.cells #[.int .i64 0,.string ⟨#[]⟩,.slice none 0 0] 92)) (.cells #[.string ⟨#[]⟩,.int .i64 0] 207)
  rw[show (w.alloc (.cells #[.int .i64 0,.string ⟨#[]⟩,.slice none 0 0] 92)).heap.size=w.heap.size+1 by simp] at this
  exact this
 have HT1:=mK hT1
 have HWH:=mK (whole_empty hTB)
 have HRB:=mK ((Below.heap_alloc (w.alloc (.cells #[.int .i64 0,.string ⟨#[]⟩,.slice none 0 0] 92)) (.cells #[.string ⟨#[]⟩,.int .i64 0] 207) w.heap.size (by simp)).trans (heap_alloc_new w _))
 clear hT1 hTB
 go_enter Tryz.func124,Tryz.ntmps124
 go_wp2_with (go_at_call 159;refine HWH.o.mono ?_;rintro e w1 ⟨rfl,hu⟩;have HU1:=mK hu;clear hu;apply As.o)
 refine⟨?_⟩
 have hrb1:=(HU1.o.block w.heap.size (by simp;omega) (fun h=>h)).trans HRB.o
 obtain⟨⟨r0,r1,r2⟩,⟨rf0,rf1,rf2⟩,hrl⟩:=x11 hrb1
 have HRB1:=mK hrb1
 clear hrb1
 go_wp2_with (go_at_call 160;refine(as_nil _ _).mono ?_;rintro e w2 ⟨rfl,rfl⟩)
 obtain⟨q0,q1,q2⟩:=set3_two HRB1.o (.int .i64 0) (.string ⟨#[]⟩) (.slice none 0 0) (.cells #[.int .i64 0,.string ⟨#[]⟩,.slice none 0 0] 92) (.cells #[.pointer none] 210)
 exact bodyPost_ret (v:=.tuple #[.agg #[.int .i64 0,.string ⟨#[]⟩,.slice none 0 0],.int .i64 0,.int .i64 0]) (by simp[results,Tryz.results124,go_sem,q0,q1,q2]) rfl ⟨none,0,rfl,Nat.le_refl _,.inl rfl,((((HT1.o.trans HU1.o (fun q hq h=>h)).trans (set3U w1 w.heap.size _ _ _) (fun q hq h=>by omega)).alloc _).alloc _)⟩
theorem New_calls {Bg:Option Addr} {d:Nat} {whole:ByteArray} {l:List Spec} {g:List Grp} {es:List Ex} (hr:specR.row w F A l) (hg:grpR.row w G Bg g) (hl:l.length < 16) (hgl:g.length<=16)
 (hls:∀ x ∈ l,x.name.size<=1048576) (hgs:∀ x ∈ g,x.name.size<=1048576/\x.types.length<=1000) (hnm:namesB l g=true) (hft:l.any (fun x=>!fitsB x)=false) (hes:es.length=l.length+1)
 (hpe:∀ (k:Nat) (s:Spec) (e:Ex),(x24 whole :: l)[k]?=some s->es[k]?=some e->x5f s.expr e/\x0k e (x1r l g)=0/\e.wt<=1048576) :
 Calls Tryz.prog 61 #[.string whole,.slice A l.length c,.slice Bg g.length d] w fun r w'=>∃ cb,r=.returned (.tuple #[.pointer (some ⟨cb,0,none⟩),.int .i64 0])/\SchR w' cb ((x24 whole :: l).zip es) (x1r l g)/\w.heap.size<=cb/\Pure w w':=by
 have HR:=mK hr
 have HG:=mK hg
 have HLS:=mK hls
 have HGS:=mK hgs
 have HNA:=mK (names_calls (c:=c) (d:=d) hr hg (by omega) (by omega) (fun x hx=>by have:=hls x hx;omega) (fun x hx=>by have:=(hgs x hx).1;omega))
 rw[hnm] at HNA
 have HFT:=mK (fun W (hu:Pure w W)=>ContainsFuncS_calls (c:=c) (F:=F) (fun x=>!fitsB x) (Rp.x01 hr hu) (by omega) (fun x _ w1 _=>new1_calls x w1))
 have HFN:=mK hft
 have HPE:=mK hpe
 have t1:decide (((l.length:Int)) >= 16)=false:=by simp;omega
 have t2:decide ((16:Int)<=(l.length:Int))=false:=by simp;omega
 have t3:decide (16<=l.length)=false:=by simp;omega
 have t4:decide (((g.length:Int)) > 16)=false:=by simp;omega
 have t5:decide ((16:Int) < (g.length:Int))=false:=by simp;omega
 have t6:decide (16 < g.length)=false:=by simp;omega
 clear hr hg hls hgs hnm hft hpe
 go_enter Tryz.func61,Tryz.ntmps61
 go_wp2_with (first | (go_at_call 120;refine(HFT.o _ HUA.o).mono ?_;rintro e w2 ⟨rfl,hu⟩;rw[HFN.o];have HUB:=mK (HUA.o.tt hu);clear hu;apply As.o) | (go_at_call 119;refine HNA.o.mono ?_;rintro e w1 ⟨rfl,hu⟩;have HUA:=mK hu;clear hu))
 refine⟨?_⟩
 have HN0:As (NewG w (w2.heap.size+1+1) (.slice (some ⟨w2.heap.size+1,0,none⟩) 1 1) (⟨x0u,[0]⟩ :: (x14 l).take 0) (((w2.alloc (.cells #[.int .i64 0] 3)).alloc (.cells #[.string x0u,.slice (some ⟨w2.heap.size,0,none⟩) 1 1] 85)).alloc (.cells #[.slice none 0 0,.slice (some ⟨w2.heap.size+1,0,none⟩) 1 1] 97))):=⟨by
  have hz:=HUB.o.size
  have e1:(w2.alloc (.cells #[.int .i64 0] 3)).heap.size=w2.heap.size+1:=by simp
  have e2:((w2.alloc (.cells #[.int .i64 0] 3)).alloc (.cells #[.string x0u,.slice (some ⟨w2.heap.size,0,none⟩) 1 1] 85)).heap.size=w2.heap.size+1+1:=by simp
  have hty:=heap_alloc_new w2 (.cells #[.int .i64 0] 3)
  have hrow:intR.row (w2.alloc (.cells #[.int .i64 0] 3)) (fun k=>k=w2.heap.size) (some ⟨w2.heap.size,0,none⟩) [0]:=Rp.x1k hty rfl (Reps.single (show intR.rep _ _ (0:Int) [.int .i64 0] from rfl) rfl)
  have ho:=Rp.own_lit (e:=85) grpR (G:=fun k=>w.heap.size<=k/\k ≠ w2.heap.size+1+1) (⟨x0u,[0]⟩:Grp) [.string x0u,.slice (some ⟨w2.heap.size,0,none⟩) 1 1] ⟨_,_,rfl,Nat.le_refl _,hrow⟩ (fun k hk _=>by subst hk;omega) (by rw[e1];omega)
  rw[e1] at ho
  have hcb:=heap_alloc_new ((w2.alloc (.cells #[.int .i64 0] 3)).alloc (.cells #[.string x0u,.slice (some ⟨w2.heap.size,0,none⟩) 1 1] 85)) (.cells #[.slice none 0 0,.slice (some ⟨w2.heap.size+1,0,none⟩) 1 1] 97)
  rw[e2] at hcb
  exact⟨hcb,Rp.x1s ho _,((HUB.o.alloc _).alloc _).alloc _,by omega⟩⟩
 have HCB:=mK (show w.heap.size<=w2.heap.size+1+1 by have:=HUB.o.size;omega)
 go_wp2
 go_loopg [43] l.length (fun gg i wr=>∃ k:Nat,k+gg=l.length/\i=.int .i64 k/\As (∃ Gv,NewG w (w2.heap.size+1+1) Gv (⟨x0u,[0]⟩ :: (x14 l).take k) wr))
 case atStart=>exact⟨0,by omega,rfl,⟨_,HN0.o⟩⟩
 case round=>
  obtain⟨k,hk,rfl,HP⟩:=hrel
  by_cases hlt:k < l.length
  ·obtain⟨x,hx⟩:=gS hlt
   obtain⟨g1,rfl⟩:=sC1 (by omega:0 < gk)
   obtain⟨Gv,hN⟩:=HP.o
   obtain⟨bx,ox,rfl,hFb,hbb,d0,d1,d2,d3,d4,d5,d6⟩:=x58 (Rp.x01 HR.o hN.up) hx
   have HK:=mK hk
   have HX:=mK (ownGroups_take hx)
   have hwrap:IntKind.i64.wrap ((k:Int)+1)=(k:Int)+1:=IntWalk.i64_in _ (by omega)
   obtain⟨W,hW⟩:∃ W,W=wr.alloc (.cells #[.string x.name,.string x.expr,.bool x.leaf,.int .i64 x.marks,.int .i64 x.least,.int .i64 x.most,.bool x.lines] 34):=⟨_,rfl⟩
   have HN:=mK ((hN.kept (hW ▸ Upd.alloc1 _ _ _:Pure wr W)).kept ((Upd.refl (fun _=>False) W).drew))
   have hWs:W.heap.size=wr.heap.size+1:=by subst hW;simp
   have hWb:W.heap[wr.heap.size]?=some (.cells #[.string x.name,.string x.expr,.bool x.leaf,.int .i64 x.marks,.int .i64 x.least,.int .i64 x.most,.bool x.lines] 34):=hW ▸ heap_alloc_new wr _
   have HWS:=mK hWs
   have HSK:As (∀ v,Upd (fun q=>Gv.ownBlock=some q) W.drew v->v.cell? ⟨w2.heap.size+1+1,1,none⟩=some Gv/\v.frozen? ⟨w2.heap.size+1+1,1,none⟩=false/\v.cell? ⟨wr.heap.size,0,none⟩=some (.string x.name)):=⟨by
    intro v hu
    obtain⟨f0,f1,f2,f3,f4⟩:=HN.o.cells
    have n1:¬ Gv.ownBlock=some (w2.heap.size+1+1):=fun e=>(Rp.x03 HN.o.grps _ e).1.2 rfl
    have n2:¬ Gv.ownBlock=some wr.heap.size:=fun e=>by have:=(Rp.x03 hN.grps _ e).2;omega
    have hb:W.drew.heap.size=W.heap.size:=rfl
    refine⟨(hu.cell f4 n1).trans f1,(hu.frozen f4 n1).trans f3,(hu.cell (by omega) n2).trans ?_⟩
    show W.cell? _=_
    unfold World.cell?;simp only[hWb];rfl⟩
   have HTY:As (grpR.rep (W.drew.alloc (.cells #[.int .i64 ((k:Int)+1)] 3)) (fun q=>q=W.heap.size) (⟨x.name,[(k:Int)+1]⟩:Grp) [.string x.name,.slice (some ⟨W.heap.size,0,none⟩) 1 1]):=⟨⟨_,_,rfl,Nat.le_refl _,Rp.x1k (heap_alloc_new W.drew (.cells #[.int .i64 ((k:Int)+1)] 3)) rfl (Reps.single (show intR.rep _ _ ((k:Int)+1) [.int .i64 ((k:Int)+1)] from rfl) rfl)⟩⟩
   have HSZ:=mK (show w.heap.size<=W.heap.size/\w2.heap.size+1+1 < W.heap.size from⟨HN.o.up.size,HN.o.cells.2.2.2.2⟩)
   have HFP:As (∀ q,q=W.heap.size->q < (W.drew.alloc (.cells #[.int .i64 ((k:Int)+1)] 3)).heap.size->(w.heap.size<=q/\q ≠ w2.heap.size+1+1)/\some q ≠ Gv.ownBlock):=⟨fun q hq _=>by
    have:=HSZ.o
    refine⟨by omega,fun e=>?_⟩
    have h9:q < W.heap.size:=(Rp.x03 HN.o.grps q e.symm).2
    omega⟩
   have HNEW:As (∀ q,(W.drew.alloc (.cells #[.int .i64 ((k:Int)+1)] 3)).heap.size<=q->w.heap.size<=q/\q ≠ w2.heap.size+1+1):=⟨fun q hq=>by
    have:=HSZ.o
    have h8:(W.drew.alloc (.cells #[.int .i64 ((k:Int)+1)] 3)).heap.size=W.drew.heap.size+1:=by simp
    have h9:W.drew.heap.size=W.heap.size:=rfl
    omega⟩
   have HNB:As (W.heap.size+1=(W.drew.alloc (.cells #[.int .i64 ((k:Int)+1)] 3)).heap.size):=⟨by
    have h8:(W.drew.alloc (.cells #[.int .i64 ((k:Int)+1)] 3)).heap.size=W.drew.heap.size+1:=by simp
    have h9:W.drew.heap.size=W.heap.size:=rfl
    omega⟩
   have HLEN:As ((((⟨x0u,[0]⟩:Grp) :: (x14 l).take k).length+1) * 40<=140737488355328):=⟨by
    simp only[List.length_cons,List.length_take,x2i]
    omega⟩
   have hdec:decide ((k:Int) < (l.length:Int))=true:=by simp;omega
   clear hk hx hWs hWb hN
   go_wp2
   rw[<- hW]
   clear hW
   refine x0m (P:=Tryz.prog) (fun v=>v.cell? ⟨w2.heap.size+1+1,1,none⟩=some Gv/\v.frozen? ⟨w2.heap.size+1+1,1,none⟩=false/\v.cell? ⟨wr.heap.size,0,none⟩=some (.string x.name)) 15 (by kernel_rfl) ?_ (fun hHeld=>?_)
   ·first | exact HSK.o _ rU | exact HSK.o _ aU | exact HSK.o _ (aU.alloc _) | exact HSK.o _ HU4.o
   refine zT 0 ?_
   refine zT 1 ?_
   refine zT 2 ?_
   refine zT 3 ?_
   (try simp only[Act.put,sA,sB,sC])
   refine zT 4 ?_
   refine zT 5 ?_
   refine zT 6 ?_
   refine zT 7 ?_
   (try simp only[Act.put,sA,sB,sC])
   refine zT 8 ?_
   refine oT 9 (fun K hK=>?_)
   go_simp
   refine hK.out _ _ (fun _=>by first | exact HSK.o _ rU | exact HSK.o _ aU | exact HSK.o _ (aU.alloc _) | exact HSK.o _ HU4.o) (fun hHeld=>?_)
   replace hHeld:=hHeld (by decide)
   clear hK K
   (try simp only[Act.put,sA,sB,sC])
   refine zT 10 ?_
   refine oT 11 (fun K hK=>?_)
   go_simp
   refine hK.out _ _ (fun _=>by first | exact HSK.o _ rU | exact HSK.o _ aU | exact HSK.o _ (aU.alloc _) | exact HSK.o _ HU4.o) (fun hHeld=>?_)
   replace hHeld:=hHeld (by decide)
   clear hK K
   (try simp only[Act.put,sA,sB,sC])
   refine oT 12 (fun K hK=>?_)
   refine Rp.x37 grpR (W:=W.drew.alloc (.cells #[.int .i64 ((k:Int)+1)] 3)) (F:=fun q=>w.heap.size<=q/\q ≠ w2.heap.size+1+1) (Fp:=fun q=>q=W.heap.size) (G:=fun q=>w.heap.size<=q/\q ≠ w2.heap.size+1+1) (Rp.x1s HN.o.grps _) (⟨x.name,[(k:Int)+1]⟩:Grp) [.string x.name,.slice (some ⟨W.heap.size,0,none⟩) 1 1] (HTY.o) (HFP.o) (fun _ h=>h) (HNEW.o) (by rfl) _ _ 86 (.agg #[.string ⟨#[]⟩,.slice none 0 0]) 40 (by rfl) Tryz.underlying86 grp_info rfl (by decide) (by decide) (by rfl) (n:=W.heap.size+1) HNB.o (by rfl) (HLEN.o) ?_;intro v4 w4 ho4 hu4;obtain⟨A4,c4,rfl,_,_⟩:=Rp.x0c ho4;have HO4:=mK ho4;have HU4:=mK (show Upd (fun q=>Gv.ownBlock=some q) W.drew w4 from aU.tt hu4);obtain⟨s1,s2,s3⟩:=HSK.o w4 HU4.o;clear ho4 hu4
   refine hK.out _ _ (fun _=>by first | exact HSK.o _ rU | exact HSK.o _ aU | exact HSK.o _ (aU.alloc _) | exact HSK.o _ HU4.o) (fun hHeld=>?_)
   replace hHeld:=hHeld (by decide)
   clear hK K
   (try simp only[Act.put,sA,sB,sC])
   refine oT 13 (fun K hK=>?_)
   go_simp
   refine hK.out _ _ (fun _=>by first | exact HSK.o _ rU | exact HSK.o _ aU | exact HSK.o _ (aU.alloc _) | exact HSK.o _ HU4.o) (fun hHeld=>?_)
   replace hHeld:=hHeld (by decide)
   clear hK K
   (try simp only[Act.put,sA,sB,sC])
   refine zT 14 ?_
   refine oT 15 (fun K hK=>?_)
   go_simp
   refine hK.out _ _ (fun h=>absurd rfl h) (fun hHeld=>?_)
   clear hK K
   (try simp only[Act.put,sA,sB,sC])
   refine x0l (by kernel_rfl) ?_ _
   have hN5:=NewG.next HN.o HO4.o HU4.o
   rw[show (((⟨x0u,[0]⟩:Grp) :: (x14 l).take k) ++ ([⟨x.name,[(k:Int)+1]⟩]:List Grp)).length=min k (x14 l).length+1+1 by simp] at hN5
   rw[show ((⟨x0u,[0]⟩:Grp) :: (x14 l).take k) ++ [⟨x.name,[(k:Int)+1]⟩]=⟨x0u,[0]⟩ :: (x14 l).take (k+1) by rw[HX.o];rfl] at hN5
   have HN5:=mK hN5
   clear hN5
   try go_wp2
   go_roundg g1
   case measure=>omega
   case rel=>exact⟨k+1,by have:=HK.o;omega,by go_num,⟨_,HN5.o⟩⟩
  ·obtain rfl:k=l.length:=by omega
   obtain⟨Gv,hN⟩:=HP.o
   rw[show (x14 l).take l.length=x14 l ++ g.take 0 by rw[List.take_of_length_le (by rw[x2i];omega)];simp] at hN
   have HN:=mK hN
   clear hN HP
   go_wp2
   go_loopg [66] g.length (fun gg i wr=>∃ k:Nat,k+gg=g.length/\i=.int .i64 k/\As (∃ Gv,NewG w (w2.heap.size+1+1) Gv (⟨x0u,[0]⟩ :: (x14 l ++ g.take k)) wr))
   case atStart=>exact⟨0,by omega,rfl,⟨_,HN.o⟩⟩
   case round=>
    obtain⟨k,hk,rfl,HP⟩:=hrel
    by_cases hlt:k < g.length
    ·obtain⟨x,hx⟩:=gS hlt
     obtain⟨g1,rfl⟩:=sC1 (by omega:0 < gk)
     clear HN
     obtain⟨Gv,hN⟩:=HP.o
     obtain⟨bx,ox,A1x,c1x,rfl,hFb,hbb,d0,d1,hlx,hrx⟩:=grp_at (Rp.x01 HG.o hN.up) hx
     have HK:=mK hk
     have hlen:=(HGS.o x (List.mem_of_getElem? hx)).2
     have HX:=mK (show g.take (k+1)=g.take k ++ [x] by rw[List.take_add_one,hx];rfl)
     obtain⟨W,hW⟩:∃ W,W=wr.alloc (.cells #[.string x.name,.slice A1x x.types.length c1x] 85):=⟨_,rfl⟩
     have HN:=mK ((hN.kept (hW ▸ Upd.alloc1 _ _ _:Pure wr W)).kept ((Upd.refl (fun _=>False) W).drew))
     have HRX:=mK (Rp.x01 (Rp.x01 hrx (hW ▸ Upd.alloc1 _ _ _:Pure wr W)) ((Upd.refl (fun _=>False) W).drew))
     have hWs:W.heap.size=wr.heap.size+1:=by subst hW;simp
     have hWb:W.heap[wr.heap.size]?=some (.cells #[.string x.name,.slice A1x x.types.length c1x] 85):=hW ▸ heap_alloc_new wr _
     have HSK:As (∀ v,Upd (fun q=>Gv.ownBlock=some q) W.drew v->v.cell? ⟨w2.heap.size+1+1,1,none⟩=some Gv/\v.frozen? ⟨w2.heap.size+1+1,1,none⟩=false/\v.cell? ⟨wr.heap.size,0,none⟩=some (.string x.name)/\v.cell? ⟨wr.heap.size,1,none⟩=some (.slice A1x x.types.length c1x)):=⟨by
      intro v hu
      obtain⟨f0,f1,f2,f3,f4⟩:=HN.o.cells
      have n1:¬ Gv.ownBlock=some (w2.heap.size+1+1):=fun e=>(Rp.x03 HN.o.grps _ e).1.2 rfl
      have n2:¬ Gv.ownBlock=some wr.heap.size:=fun e=>by have:=(Rp.x03 hN.grps _ e).2;omega
      have hb:W.drew.heap.size=W.heap.size:=rfl
      refine⟨(hu.cell f4 n1).trans f1,(hu.frozen f4 n1).trans f3,(hu.cell (by omega) n2).trans ?_,(hu.cell (by omega) n2).trans ?_⟩
      ·show W.cell? _=_
       unfold World.cell?;simp only[hWb];rfl
      ·show W.cell? _=_
       unfold World.cell?;simp only[hWb];rfl⟩
     have HSZ:=mK (show w.heap.size<=W.heap.size/\w2.heap.size+1+1 < W.heap.size from⟨HN.o.up.size,HN.o.cells.2.2.2.2⟩)
     have HLEN:As ((((⟨x0u,[0]⟩:Grp) :: (x14 l ++ g.take k)).length+1) * 40<=140737488355328):=⟨by
      simp only[List.length_cons,List.length_append,List.length_take,x2i]
      omega⟩
     have hdec:decide ((k:Int) < (g.length:Int))=true:=by simp;omega
     clear hk hx hWs hWb hN hrx
     go_wp2
     rw[<- hW]
     clear hW
     refine x0m (P:=Tryz.prog) (fun v=>v.cell? ⟨w2.heap.size+1+1,1,none⟩=some Gv/\v.frozen? ⟨w2.heap.size+1+1,1,none⟩=false/\v.cell? ⟨wr.heap.size,0,none⟩=some (.string x.name)/\v.cell? ⟨wr.heap.size,1,none⟩=some (.slice A1x x.types.length c1x)) 15 (by kernel_rfl) ?_ (fun hHeld=>?_)
     ·first | exact HSK.o _ rU | exact HSK.o _ HU5.o | exact HSK.o _ (HU5.o.alloc _) | exact HSK.o _ HU4.o
     refine zT 0 ?_
     refine zT 1 ?_
     refine zT 2 ?_
     refine zT 3 ?_
     (try simp only[Act.put,sA,sB,sC])
     refine zT 4 ?_
     refine zT 5 ?_
     refine zT 6 ?_
     refine zT 7 ?_
     (try simp only[Act.put,sA,sB,sC])
     refine zT 8 ?_
     refine oT 9 (fun K hK=>?_)
     go_simp
     (go_at_call 123;refine(x3f HRX.o (by omega)).mono ?_;rintro e w5 ⟨v5,rfl,ho5,hu5⟩;obtain⟨A5,c5,rfl,hl5,hr5⟩:=Rp.x0c ho5;have HU5:=mK (show Upd (fun q=>Gv.ownBlock=some q) W.drew w5 from hu5.mono (fun _ _ h=>h.elim));have HGR:=mK (Rp.x0w HN.o.grps hu5 (fun _ _ _ h=>h));have HTY:=mK (show grpR.rep w5 (fun q=>W.heap.size<=q) (⟨x.name,x.types⟩:Grp) [.string x.name,.slice A5 x.types.length c5] from⟨_,_,rfl,hl5,hr5⟩);have HS5:=mK (show W.heap.size<=w5.heap.size from hu5.size);clear ho5 hu5 hr5)
     refine hK.out _ _ (fun _=>by first | exact HSK.o _ rU | exact HSK.o _ HU5.o | exact HSK.o _ (HU5.o.alloc _) | exact HSK.o _ HU4.o) (fun hHeld=>?_)
     replace hHeld:=hHeld (by decide)
     clear hK K
     (try simp only[Act.put,sA,sB,sC])
     refine zT 10 ?_
     refine oT 11 (fun K hK=>?_)
     go_simp
     refine hK.out _ _ (fun _=>by first | exact HSK.o _ rU | exact HSK.o _ HU5.o | exact HSK.o _ (HU5.o.alloc _) | exact HSK.o _ HU4.o) (fun hHeld=>?_)
     replace hHeld:=hHeld (by decide)
     clear hK K
     (try simp only[Act.put,sA,sB,sC])
     refine oT 12 (fun K hK=>?_)
     refine Rp.x37 grpR (W:=w5) (F:=fun q=>w.heap.size<=q/\q ≠ w2.heap.size+1+1) (Fp:=fun q=>W.heap.size<=q) (G:=fun q=>w.heap.size<=q/\q ≠ w2.heap.size+1+1) HGR.o (⟨x.name,x.types⟩:Grp) [.string x.name,.slice A5 x.types.length c5] HTY.o (fun q hq _=>⟨⟨by have:=HSZ.o;omega,by have:=HSZ.o;omega⟩,fun e=>by have h9:q < W.heap.size:=(Rp.x03 HN.o.grps q e.symm).2;omega⟩) (fun _ h=>h) (fun q hq=>⟨by have:=HSZ.o;have:=HS5.o;omega,by have:=HSZ.o;have:=HS5.o;omega⟩) (by rfl) _ _ 86 (.agg #[.string ⟨#[]⟩,.slice none 0 0]) 40 (by rfl) Tryz.underlying86 grp_info rfl (by decide) (by decide) (by rfl) (n:=w5.heap.size) rfl (by rfl) (HLEN.o) ?_;intro v4 w4 ho4 hu4;obtain⟨A4,c4,rfl,_,_⟩:=Rp.x0c ho4;have HO4:=mK ho4;have HU4:=mK (show Upd (fun q=>Gv.ownBlock=some q) W.drew w4 from HU5.o.tt hu4);obtain⟨s1,s2,s3,s4⟩:=HSK.o w4 HU4.o;clear ho4 hu4
     refine hK.out _ _ (fun _=>by first | exact HSK.o _ rU | exact HSK.o _ HU5.o | exact HSK.o _ (HU5.o.alloc _) | exact HSK.o _ HU4.o) (fun hHeld=>?_)
     replace hHeld:=hHeld (by decide)
     clear hK K
     (try simp only[Act.put,sA,sB,sC])
     refine oT 13 (fun K hK=>?_)
     go_simp
     refine hK.out _ _ (fun _=>by first | exact HSK.o _ rU | exact HSK.o _ HU5.o | exact HSK.o _ (HU5.o.alloc _) | exact HSK.o _ HU4.o) (fun hHeld=>?_)
     replace hHeld:=hHeld (by decide)
     clear hK K
     (try simp only[Act.put,sA,sB,sC])
     refine zT 14 ?_
     refine oT 15 (fun K hK=>?_)
     go_simp
     refine hK.out _ _ (fun h=>absurd rfl h) (fun hHeld=>?_)
     clear hK K
     (try simp only[Act.put,sA,sB,sC])
     refine x0l (by kernel_rfl) ?_ _
     have hN5:=NewG.next HN.o HO4.o HU4.o
     rw[show (((⟨x0u,[0]⟩:Grp) :: (x14 l ++ g.take k)) ++ ([⟨x.name,x.types⟩]:List Grp)).length=(x14 l).length+min k g.length+1+1 by (simp only[List.length_cons,List.length_append,List.length_take,List.length_nil])] at hN5
     rw[show ((⟨x0u,[0]⟩:Grp) :: (x14 l ++ g.take k)) ++ [⟨x.name,x.types⟩]=⟨x0u,[0]⟩ :: (x14 l ++ g.take (k+1)) by rw[HX.o,List.cons_append,List.append_assoc]] at hN5
     have HN5:=mK hN5
     clear hN5
     try go_wp2
     go_roundg g1
     case measure=>omega
     case rel=>exact⟨k+1,by have:=HK.o;omega,by go_num,⟨_,HN5.o⟩⟩
    ·obtain rfl:k=g.length:=by omega
     clear HN
     obtain⟨Gv,hN⟩:=HP.o
     rw[show (⟨x0u,[0]⟩:Grp) :: (x14 l ++ g.take g.length)=x1r l g by rw[List.take_length];rfl] at hN
     have HOS:As (specR.own 34 (wr.alloc (.cells #[.string ⟨#[]⟩,.string whole,.bool false,.int .i64 0,.int .i64 0,.int .i64 0,.bool false] 34)) (fun q=>wr.heap.size<=q) (.slice (some ⟨wr.heap.size,0,none⟩) 1 1) [x24 whole]):=⟨Rp.own_lit (Fp:=fun _=>False) specR (x24 whole) (x24 whole).cs rfl (fun _ h _=>h.elim) (Nat.le_refl _)⟩
     have HRL:=mK (Rp.x01 HR.o (hN.up.alloc (.cells #[.string ⟨#[]⟩,.string whole,.bool false,.int .i64 0,.int .i64 0,.int .i64 0,.bool false] 34)))
     have HN:=mK hN
     clear hN HP hlt hk
     go_wp2_with (at_builtin;refine Rp.x1i specR (c:=c) HOS.o (Rp.x1q HRL.o (fun _ _ h=>h)) (Fz:=fun _=>False) (fun _ h=>h.elim) rfl _ _ 82 (x24 ⟨#[]⟩).val 72 rfl Tryz.underlying82 spec_info rfl (by decide) (by decide) rfl rfl (by simp;omega) ?_;intro v6 w6 ho6 hu6 hat6;obtain⟨A6,c6,rfl,_,hr6⟩:=Rp.x0c ho6;have HU6:=mK (show Pure wr w6 from aU.trans hu6 (fun q hq e=>by injection e with e;(have e9:q=wr.heap.size:=e.symm);omega));have HR6:=mK (show specR.row w6 (fun q=>q ≠ w2.heap.size+1+1) A6 (x24 whole :: l) from Rp.x09 hr6 (fun q hq=>new_fp (HN.o.cells.2.2.2.2) hat6 hq));clear ho6 hu6 hat6 hr6;apply As.o)
     refine⟨?_⟩
     have HN6:=mK (HN.o.kept HU6.o)
     obtain⟨Ag,cg,hGv,_,hgr⟩:=Rp.x0c HN6.o.grps
     have HGR:=mK (Rp.x09 (G:=fun q=>q ≠ w2.heap.size+1+1) hgr (fun _ h=>h.2))
     have HL6:=mK (NewL.start HN6.o)
     clear HN hgr HU6
     subst hGv
     go_wp2
     go_loopg [92] (l.length+1) (fun gg i wr=>∃ k:Nat,k+gg=l.length+1/\i=.int .i64 k/\As (∃ Lv,NewL w6 (w2.heap.size+1+1) Lv (.slice Ag (x1r l g).length cg) (((x24 whole :: l).zip es).take k) wr))
     case atStart=>exact⟨0,by omega,rfl,⟨_,HL6.o⟩⟩
     case round=>
      obtain⟨k,hk,rfl,HP⟩:=hrel
      by_cases hlt:k < l.length+1
      ·obtain⟨x,hx⟩:∃ x,(x24 whole :: l)[k]?=some x:=⟨_,List.getElem?_eq_getElem (by simpa using hlt)⟩
       obtain⟨e,he⟩:∃ e,es[k]?=some e:=⟨_,List.getElem?_eq_getElem (by omega)⟩
       obtain⟨g1,rfl⟩:=sC1 (by omega:0 < gk)
       clear HL6
       obtain⟨Lv,hN⟩:=HP.o
       obtain⟨bx,ox,rfl,hFb,hbb,d0,d1,d2,d3,d4,d5,d6⟩:=x58 (Rp.x0f HR6.o hN.up (fun q _ h e=>h e)) hx
       obtain⟨hpar,hchk,hwt⟩:=HPE.o k x e hx he
       have HPA:=mK hpar
       have HCHK:=mK hchk
       have HK:=mK hk
       have HN:=mK hN
       have HX:=mK (show ((x24 whole :: l).zip es).take (k+1)=((x24 whole :: l).zip es).take k ++ [(x,e)] by
        have hz:((x24 whole :: l).zip es)[k]?=some (x,e):=List.getElem?_zip_eq_some.2 ⟨hx,he⟩
        rw[List.take_add_one,hz]
        rfl)
       have hdec:decide ((k:Int) < (l.length:Int)+1)=true:=by simp;omega
       clear hk hx he hN hpar hchk
       go_wp2_with (go_at_call 124;refine(HPA.o _).mono ?_;rintro r w5 ⟨Ae,ce,rfl,hle,hrow,hu⟩;have HLE:=mK hle;have HROW:=mK hrow;have HU5:=mK ((Upd.alloc1 (fun _=>False) wr (.cells #[.string x.name,.string x.expr,.bool x.leaf,.int .i64 x.marks,.int .i64 x.least,.int .i64 x.most,.bool x.lines] 34)).tt hu);have HSB:=mK (And.intro ((hu.block wr.heap.size (by simp) (fun h=>h)).trans (heap_alloc_new wr (.cells #[.string x.name,.string x.expr,.bool x.leaf,.int .i64 x.marks,.int .i64 x.least,.int .i64 x.most,.bool x.lines] 34))) (show wr.heap.size+1<=w5.heap.size by have:=hu.size;simpa using this));clear hle hrow hu;apply As.o)
       refine⟨?_⟩
       go_wp2
       obtain⟨W,hW⟩:∃ W,W=w5.alloc (.cells #[.int .i64 e.k,.string e.name,.slice Ae e.l.length ce] 92):=⟨_,rfl⟩
       have hp5:Pure w5 W:=hW ▸ Upd.alloc1 _ _ _
       have hpW:Pure wr W.drew:=(HU5.o.tt hp5).drew
       have HPW:=mK hpW
       have hNW:=HN.o.kept hpW
       have HNW:=mK hNW
       have hRW:exR.row W.drew (fun q=>wr.heap.size+1<=q) Ae e.l:=Rp.x09 (Rp.x01 HROW.o hp5.drew) (fun q hq=>by simpa using hq)
       have HRW:=mK hRW
       have HGW:=mK (Rp.x0f HGR.o hNW.up (fun q _ h e=>h e))
       have HRC:=mK (x62 (c:=ce) (d:=cg) (e:=e) hRW HGW.o (by omega) (by simp only[x1r,List.length_cons,List.length_append,x2i];omega) (newGroups_types HGS.o))
       rw[HCHK.o] at HRC
       have hsp:(wr.alloc (.cells #[.string x.name,.string x.expr,.bool x.leaf,.int .i64 x.marks,.int .i64 x.least,.int .i64 x.most,.bool x.lines] 34)).heap.size=wr.heap.size+1:=by simp
       have hz5:wr.heap.size+1<=w5.heap.size:=by have:=HSB.o.2;omega
       have hWs:W.heap.size=w5.heap.size+1:=by subst hW;simp
       have hWe:W.heap[w5.heap.size]?=some (.cells #[.int .i64 e.k,.string e.name,.slice Ae e.l.length ce] 92 (0,0)):=hW ▸ heap_alloc_new w5 _
       have hWx:W.heap[wr.heap.size]?=some (.cells #[.string x.name,.string x.expr,.bool x.leaf,.int .i64 x.marks,.int .i64 x.least,.int .i64 x.most,.bool x.lines] 34 (0,0)):=(hp5.block wr.heap.size (by omega) (fun h=>h)).trans HSB.o.1
       have HB:=mK (And.intro hWs (And.intro hWe (And.intro hWx hz5)))
       have HSK:As (∀ v,Pure W.drew v->v.cell? ⟨w2.heap.size+1+1,1,none⟩=some (.slice Ag (x1r l g).length cg)/\v.cell? ⟨w5.heap.size,0,none⟩=some (.int .i64 e.k)/\v.cell? ⟨w5.heap.size,1,none⟩=some (.string e.name)/\v.cell? ⟨w5.heap.size,2,none⟩=some (.slice Ae e.l.length ce)):=⟨by
        intro v hu
        obtain⟨f0,f1,f2,f3,f4⟩:=HNW.o.cells
        have hb:W.drew.heap.size=W.heap.size:=rfl
        have c5:=(hu.block w5.heap.size (by omega) (fun h=>h)).trans (show W.drew.heap[w5.heap.size]?=_ from hWe)
        obtain⟨⟨q0,q1,q2⟩,_,_⟩:=x11 c5
        exact⟨(hu.cell f4 (fun h=>h)).trans f1,q0,q1,q2⟩⟩
       rw[<- hW]
       clear hW hp5 hpW hNW hRW hsp hz5 hWs hWe hWx d0 d1 d2 d3 d4 d5 d6
       refine x0m (P:=Tryz.prog) (fun v=>v.cell? ⟨w2.heap.size+1+1,1,none⟩=some (.slice Ag (x1r l g).length cg)/\v.cell? ⟨w5.heap.size,0,none⟩=some (.int .i64 e.k)/\v.cell? ⟨w5.heap.size,1,none⟩=some (.string e.name)/\v.cell? ⟨w5.heap.size,2,none⟩=some (.slice Ae e.l.length ce)) 6 (by kernel_rfl) ?_ (fun hHeld=>?_)
       ·first | exact HSK.o _ rU | exact HSK.o _ HU7.o
       refine zT 0 ?_
       refine zT 1 ?_
       refine zT 2 ?_
       refine zT 3 ?_
       (try simp only[Act.put,sA,sB,sC])
       refine zT 4 ?_
       refine oT 5 (fun K hK=>?_)
       go_simp
       (go_at_call 125;refine HRC.o.mono ?_;rintro r w7 ⟨rfl,hu⟩;have HU7:=mK hu;clear hu)
       refine hK.out _ _ (fun _=>by first | exact HSK.o _ rU | exact HSK.o _ HU7.o) (fun hHeld=>?_)
       replace hHeld:=hHeld (by decide)
       clear hK K
       (try simp only[Act.put,sA,sB,sC])
       refine oT 6 (fun K hK=>?_)
       go_simp
       refine hK.out _ _ (fun h=>absurd rfl h) (fun hHeld=>?_)
       clear hK K
       (try simp only[Act.put,sA,sB,sC])
       refine x0l (by kernel_rfl) ?_ _
       go_wp2
       have HN7:=mK ((HNW.o.kept HU7.o).kept ((Upd.refl (fun _=>False) w7).drew))
       have hR7:exR.row w7.drew (fun q=>wr.heap.size+1<=q) Ae e.l:=Rp.x01 HRW.o HU7.o.drew
       have hz7:W.heap.size<=w7.heap.size:=HU7.o.size
       have HRP:=mK (show ruleR.rep w7.drew (fun q=>wr.heap.size+1<=q) (x,e) [.string x.name,.string x.expr,.bool x.leaf,.int .i64 x.marks,.int .i64 x.least,.int .i64 x.most,.bool x.lines,.int .i64 e.k,.string e.name,.slice Ae e.l.length ce] from⟨x.cs,[.int .i64 e.k,.string e.name,.slice Ae e.l.length ce],rfl,rfl,ex_rep HLE.o hR7⟩)
       have HLB:=mK (fun (q:Nat) (h:Lv.ownBlock=some q)=>Rp.x03 HN.o.rules q h)
       have h6:w6.heap.size<=wr.heap.size:=HN.o.up.size
       have HSK2:As (∀ v,Upd (fun q=>Lv.ownBlock=some q) w7.drew v->v.cell? ⟨w2.heap.size+1+1,0,none⟩=some Lv/\v.frozen? ⟨w2.heap.size+1+1,0,none⟩=false/\(v.cell? ⟨w5.heap.size,0,none⟩=some (.int .i64 e.k)/\v.cell? ⟨w5.heap.size,1,none⟩=some (.string e.name)/\v.cell? ⟨w5.heap.size,2,none⟩=some (.slice Ae e.l.length ce))/\v.cell? ⟨wr.heap.size,0,none⟩=some (.string x.name)/\v.cell? ⟨wr.heap.size,1,none⟩=some (.string x.expr)/\v.cell? ⟨wr.heap.size,2,none⟩=some (.bool x.leaf)/\v.cell? ⟨wr.heap.size,3,none⟩=some (.int .i64 x.marks)/\v.cell? ⟨wr.heap.size,4,none⟩=some (.int .i64 x.least)/\v.cell? ⟨wr.heap.size,5,none⟩=some (.int .i64 x.most)/\v.cell? ⟨wr.heap.size,6,none⟩=some (.bool x.lines)):=⟨by
        intro v hu
        obtain⟨hWs,hWe,hWx,hz5⟩:=HB.o
        obtain⟨f0,f1,f2,f3,f4⟩:=HN7.o.cells
        have hcl:=HN7.o.cbl
        have n1:¬ Lv.ownBlock=some (w2.heap.size+1+1):=fun h=>by have:=(HLB.o _ h).1;omega
        have n2:¬ Lv.ownBlock=some wr.heap.size:=fun h=>by have:=(HLB.o _ h).2;omega
        have n3:¬ Lv.ownBlock=some w5.heap.size:=fun h=>by have:=(HLB.o _ h).2;omega
        have hd:w7.drew.heap.size=w7.heap.size:=rfl
        have hdW:W.drew.heap.size=W.heap.size:=rfl
        have c5:=(hu.block w5.heap.size (by omega) n3).trans ((HU7.o.drew.block w5.heap.size (by omega) (fun h=>h)).trans (show W.drew.heap[w5.heap.size]?=_ from hWe))
        have cx:=(hu.block wr.heap.size (by omega) n2).trans ((HU7.o.drew.block wr.heap.size (by omega) (fun h=>h)).trans (show W.drew.heap[wr.heap.size]?=_ from hWx))
        refine⟨(hu.cell f4 n1).trans f0,(hu.frozen f4 n1).trans f2,(x11 c5).1,?_,?_,?_,?_,?_,?_,?_⟩ <;> (unfold World.cell?;simp only[cx];rfl)⟩
       have HSQ:=mK (show w6.heap.size<=wr.heap.size/\w6.heap.size<=w7.heap.size from⟨h6,by have:=HB.o;omega⟩)
       have HLEN:As (((((x24 whole :: l).zip es).take k).length+1) * 120<=140737488355328):=⟨by
        simp only[List.length_take,List.length_zip,List.length_cons]
        omega⟩
       clear hR7 hz7 h6
       refine x0m (P:=Tryz.prog) (fun v=>v.cell? ⟨w2.heap.size+1+1,0,none⟩=some Lv/\v.frozen? ⟨w2.heap.size+1+1,0,none⟩=false/\(v.cell? ⟨w5.heap.size,0,none⟩=some (.int .i64 e.k)/\v.cell? ⟨w5.heap.size,1,none⟩=some (.string e.name)/\v.cell? ⟨w5.heap.size,2,none⟩=some (.slice Ae e.l.length ce))/\v.cell? ⟨wr.heap.size,0,none⟩=some (.string x.name)/\v.cell? ⟨wr.heap.size,1,none⟩=some (.string x.expr)/\v.cell? ⟨wr.heap.size,2,none⟩=some (.bool x.leaf)/\v.cell? ⟨wr.heap.size,3,none⟩=some (.int .i64 x.marks)/\v.cell? ⟨wr.heap.size,4,none⟩=some (.int .i64 x.least)/\v.cell? ⟨wr.heap.size,5,none⟩=some (.int .i64 x.most)/\v.cell? ⟨wr.heap.size,6,none⟩=some (.bool x.lines)) 12 (by kernel_rfl) ?_ (fun hHeld=>?_)
       ·first | exact HSK2.o _ rU | exact HSK2.o _ aU | exact HSK2.o _ HU9.o
       refine zT 0 ?_
       refine zT 1 ?_
       refine zT 2 ?_
       refine zT 3 ?_
       refine zT 4 ?_
       (try simp only[Act.put,sA,sB,sC])
       refine zT 5 ?_
       refine zT 6 ?_
       refine zT 7 ?_
       refine oT 8 (fun K hK=>?_)
       go_simp
       refine hK.out _ _ (fun _=>by first | exact HSK2.o _ rU | exact HSK2.o _ aU | exact HSK2.o _ HU9.o) (fun hHeld=>?_)
       replace hHeld:=hHeld (by decide)
       clear hK K
       (try simp only[Act.put,sA,sB,sC])
       refine oT 9 (fun K hK=>?_)
       refine Rp.x37 ruleR (W:=w7.drew) (F:=fun q=>w6.heap.size<=q) (Fp:=fun q=>wr.heap.size+1<=q) (G:=fun q=>w6.heap.size<=q) HN7.o.rules (x,e) [.string x.name,.string x.expr,.bool x.leaf,.int .i64 x.marks,.int .i64 x.least,.int .i64 x.most,.bool x.lines,.int .i64 e.k,.string e.name,.slice Ae e.l.length ce] HRP.o (fun q hq _=>⟨by have:=HSQ.o.1;omega,fun h=>by have:=(HLB.o q h.symm).2;omega⟩) (fun _ h=>h) (fun q hq=>by have h8:w7.heap.size<=q:=hq;have:=HSQ.o.2;omega) (by rfl) _ _ 95 (.agg #[.string ⟨#[]⟩,.string ⟨#[]⟩,.bool false,.int .i64 0,.int .i64 0,.int .i64 0,.bool false,.int .i64 0,.string ⟨#[]⟩,.slice none 0 0]) 120 (by rfl) Tryz.underlying95 rule_info rfl (by decide) (by decide) (by rfl) (n:=w7.heap.size) rfl (by rfl) (HLEN.o) ?_;intro v9 w9 ho9 hu9;obtain⟨A9,c9,rfl,_,_⟩:=Rp.x0c ho9;have HO9:=mK ho9;have HU9:=mK hu9;obtain⟨s1,s2,s3⟩:=HSK2.o w9 hu9;clear ho9 hu9
       refine hK.out _ _ (fun _=>by first | exact HSK2.o _ rU | exact HSK2.o _ aU | exact HSK2.o _ HU9.o) (fun hHeld=>?_)
       replace hHeld:=hHeld (by decide)
       clear hK K
       (try simp only[Act.put,sA,sB,sC])
       refine oT 10 (fun K hK=>?_)
       go_simp
       refine hK.out _ _ (fun _=>by first | exact HSK2.o _ rU | exact HSK2.o _ aU | exact HSK2.o _ HU9.o) (fun hHeld=>?_)
       replace hHeld:=hHeld (by decide)
       clear hK K
       (try simp only[Act.put,sA,sB,sC])
       refine zT 11 ?_
       refine oT 12 (fun K hK=>?_)
       go_simp
       refine hK.out _ _ (fun h=>absurd rfl h) (fun hHeld=>?_)
       clear hK K
       (try simp only[Act.put,sA,sB,sC])
       refine x0l (by kernel_rfl) ?_ _
       have hN9:=NewL.next HN7.o HO9.o HU9.o
       rw[show ((((x24 whole :: l).zip es).take k) ++ ([(x,e)]:List (Spec × Ex))).length=min k (l.length+1)+1 by simp[hes]] at hN9
       rw[<- HX.o] at hN9
       have HN9:=mK hN9
       clear hN9
       try go_wp2
       go_roundg g1
       case measure=>omega
       case rel=>exact⟨k+1,by have:=HK.o;omega,by go_num,⟨_,HN9.o⟩⟩
      ·obtain rfl:k=l.length+1:=by omega
       obtain⟨Lv,hN⟩:=HP.o
       have hzl:((x24 whole :: l).zip es).length=l.length+1:=by simp[hes]
       rw[List.take_of_length_le (by omega)] at hN
       have HN:=mK hN
       clear hN HP hlt hk hzl HL6
       go_wp2
       obtain⟨AL,cL,hLv,hlL,hrL⟩:=Rp.x0c HN.o.rules
       have hb:=HN.o.blk
       rw[hLv] at hb
       exact bodyPost_ret (v:=.tuple #[.pointer (some ⟨w2.heap.size+1+1,0,none⟩),.int .i64 0]) (by simp[results,Tryz.results61,go_sem]) rfl ⟨_,rfl,⟨AL,cL,Ag,cg,hb,hlL,Rp.x09 hrL (fun _ _=>trivial),Rp.x09 (Rp.x0f HGR.o HN.o.up (fun q _ h e=>h e)) (fun _ _=>trivial)⟩,HCB.o,HN6.o.up.trans HN.o.up (fun q hq h=>by have:=HCB.o;omega)⟩
open Go.Great
def x1c:List Spec:=[⟨⟨#[112,97,114,97]⟩,⟨#[116,101,120,116,42]⟩,false,7,0,0,false⟩,⟨⟨#[104,101,97,100]⟩,⟨#[116,101,120,116,42]⟩,false,7,1,6,false⟩,⟨⟨#[113,117,111,116,101]⟩,⟨#[98,108,111,99,107,43]⟩,false,0,0,0,false⟩,⟨⟨#[99,111,100,101]⟩,⟨#[116,101,120,116,42]⟩,false,0,0,0,true⟩,⟨⟨#[108,105,115,116]⟩,⟨#[105,116,101,109,43]⟩,false,0,0,1,false⟩,⟨⟨#[105,116,101,109]⟩,⟨#[98,108,111,99,107,43]⟩,false,0,0,0,false⟩,⟨⟨#[114,117,108,101]⟩,⟨#[]⟩,true,0,0,0,false⟩]
def x48:Array Value:=(x1c.flatMap Spec.cs).toArray
def zeroCells:Array Value:=((List.replicate 7 (Spec.mk ⟨#[]⟩ ⟨#[]⟩ false 0 0 0 false)).flatMap Spec.cs).toArray
theorem arr_info:(Tryz.prog.info? 78).map (fun i=>(i.zero,i.size))=some (some (.agg zeroCells),49):=by kernel_rfl
theorem specs_calls (w:World):Calls Tryz.prog 60 #[] w fun r w'=>r=.returned (.agg x48)/\Pure w w':=by
 obtain⟨hz,hs⟩:=zero_of_info arr_info
 go_enter Tryz.func60,Tryz.ntmps60
 refine wp_seq (wp_region_list ?_)
 refine wpList_allocTo rfl _ rfl (.pointer (some ⟨w.heap.size,0,none⟩)) (.cells zeroCells 78) (by simp[execOp,Instr.alloc,hz,Value.cells,newVar,newRow]) ?_
 refine wpList_nil ?_
 refine wp_seq (wp_region_list ?_)
 iterate 8 refine wpList_build rfl _ _ rfl (by kernel_rfl) ?_
 refine wpList_store_row rfl _ _ _ rfl w.heap.size x48 (by kernel_rfl) (by kernel_rfl) _ zeroCells (heap_alloc_new w _) (by rw[hs];kernel_rfl) (by kernel_rfl) (by kernel_rfl) ?_
 refine wpList_nil ?_
 rw[World.setRow_alloc_new]
 refine wp_ret ?_
 exact bodyPost_ret (results_cell_row (P:=Tryz.prog) rfl _ _ w.heap.size 78 x48 (0,0) _ (by kernel_rfl) (heap_alloc_new w _) Tryz.underlying78 rfl (by rw[hs];kernel_rfl)) rfl ⟨rfl,Upd.alloc1 _ _ _⟩
end Go.Proofs.YtofjodppljnlaaaGreatDoor
namespace Go.Proofs.YtofjodppljnlaaaGreatDoor
open Go.RowKit
def x2h:ByteArray:=⟨#[98,108,111,99,107]⟩
def itemName:ByteArray:=⟨#[105,116,101,109]⟩
def x39:ByteArray:=⟨#[98,108,111,99,107,43]⟩
def x5h:ByteArray:=⟨#[105,116,101,109,43]⟩
def x4p:ByteArray:=⟨#[116,101,120,116,42]⟩
def x2z:List Grp:=[⟨x2h,[1,2,3,4,5,7]⟩]
def exS (kk:Int) (nm:ByteArray):Ex:=.mk kk ⟨#[]⟩ [.mk 1 nm []]
def houseEs:List Ex:=[exS 5 x2h,exS 4 x0u,exS 4 x0u,exS 5 x2h,exS 4 x0u,exS 5 itemName,exS 5 x2h,.mk 0 ⟨#[]⟩ []]
theorem house_names:namesB x1c x2z=true:=by kernel_rfl
theorem house_fits:x1c.any (fun x=>!fitsB x)=false:=by kernel_rfl
theorem house_checks:houseEs.all (fun e=>decide (x0k e (x1r x1c x2z)=0))=true:=by kernel_rfl
theorem sign_text:x2r x4p 4 4:=by
 refine⟨⟨by decide,by decide,by decide,fun i h1 h2=>?_,fun _=>by kernel_rfl⟩,rfl,fun h=>.inl ⟨by rfl,rfl⟩,by kernel_rfl,fun h=>⟨by rfl,by rfl,Nat.le_of_ble_eq_true (by rfl)⟩⟩
 have h:i=0\/i=1\/i=2\/i=3:=by omega
 rcases h with rfl | rfl | rfl | rfl
 ·exact(by kernel_rfl:nameB (x4p.extract 0 (0+1))=true)
 ·exact(by kernel_rfl:nameB (x4p.extract 1 (1+1))=true)
 ·exact(by kernel_rfl:nameB (x4p.extract 2 (2+1))=true)
 ·exact(by kernel_rfl:nameB (x4p.extract 3 (3+1))=true)
theorem sign_block:x2r x39 5 5:=by
 refine⟨⟨by decide,by decide,by decide,fun i h1 h2=>?_,fun _=>by kernel_rfl⟩,rfl,fun h=>.inr (.inl ⟨by rfl,rfl⟩),by kernel_rfl,fun h=>⟨by rfl,by rfl,Nat.le_of_ble_eq_true (by rfl)⟩⟩
 have h:i=0\/i=1\/i=2\/i=3\/i=4:=by omega
 rcases h with rfl | rfl | rfl | rfl | rfl
 ·exact(by kernel_rfl:nameB (x39.extract 0 (0+1))=true)
 ·exact(by kernel_rfl:nameB (x39.extract 1 (1+1))=true)
 ·exact(by kernel_rfl:nameB (x39.extract 2 (2+1))=true)
 ·exact(by kernel_rfl:nameB (x39.extract 3 (3+1))=true)
 ·exact(by kernel_rfl:nameB (x39.extract 4 (4+1))=true)
theorem sign_item:x2r x5h 4 5:=by
 refine⟨⟨by decide,by decide,by decide,fun i h1 h2=>?_,fun _=>by kernel_rfl⟩,rfl,fun h=>.inr (.inl ⟨by rfl,rfl⟩),by kernel_rfl,fun h=>⟨by rfl,by rfl,Nat.le_of_ble_eq_true (by rfl)⟩⟩
 have h:i=0\/i=1\/i=2\/i=3:=by omega
 rcases h with rfl | rfl | rfl | rfl
 ·exact(by kernel_rfl:nameB (x5h.extract 0 (0+1))=true)
 ·exact(by kernel_rfl:nameB (x5h.extract 1 (1+1))=true)
 ·exact(by kernel_rfl:nameB (x5h.extract 2 (2+1))=true)
 ·exact(by kernel_rfl:nameB (x5h.extract 3 (3+1))=true)
theorem parse_text:x5f x4p (exS 4 x0u):=parse_name sign_text (by decide)
theorem parse_block:x5f x39 (exS 5 x2h):=parse_name sign_block (by decide)
theorem parse_item:x5f x5h (exS 5 itemName):=parse_name sign_item (by decide)
theorem house_parses:∀ (k:Nat) (s:Spec) (e:Ex),(x24 x39 :: x1c)[k]?=some s->houseEs[k]?=some e->x5f s.expr e/\x0k e (x1r x1c x2z)=0/\e.wt<=1048576:=by
 intro k s e hs he
 have hc:x0k e (x1r x1c x2z)=0:=by simpa using List.all_eq_true.1 house_checks e (List.mem_of_getElem? he)
 have hw:houseEs.all (fun e=>decide (e.wt<=1048576))=true:=by kernel_rfl
 have hw1:e.wt<=1048576:=by simpa using List.all_eq_true.1 hw e (List.mem_of_getElem? he)
 refine⟨?_,hc,hw1⟩
 have hk:k < 8:=(List.getElem?_eq_some_iff.1 he).1
 have h:k=0\/k=1\/k=2\/k=3\/k=4\/k=5\/k=6\/k=7:=by omega
 rcases h with rfl | rfl | rfl | rfl | rfl | rfl | rfl | rfl <;> (injection hs with hs;injection he with he;subst hs;subst he)
 ·exact parse_block
 ·exact parse_text
 ·exact parse_text
 ·exact parse_block
 ·exact parse_text
 ·exact parse_item
 ·exact parse_block
 ·exact parse_empty
open Go.Great
def x02:List (Spec × Ex):=(x24 x39 :: x1c).zip houseEs
def x07:List Grp:=x1r x1c x2z
theorem house_reps (w:World) (F:Nat->Prop):Reps (specR.rep w F) 7 x1c x48.toList:=by
 refine⟨by kernel_rfl,fun j x hx=>?_⟩
 have hk:j < 7:=(List.getElem?_eq_some_iff.1 hx).1
 have h:j=0\/j=1\/j=2\/j=3\/j=4\/j=5\/j=6:=by omega
 rcases h with rfl | rfl | rfl | rfl | rfl | rfl | rfl <;> (injection hx with hx;subst hx;rfl)
theorem house_ints (w:World) (F:Nat->Prop):Reps (intR.rep w F) 1 [1,2,3,4,5,7] [.int .i64 1,.int .i64 2,.int .i64 3,.int .i64 4,.int .i64 5,.int .i64 7]:=by
 refine⟨rfl,fun j x hx=>?_⟩
 have hk:j < 6:=(List.getElem?_eq_some_iff.1 hx).1
 have h:j=0\/j=1\/j=2\/j=3\/j=4\/j=5:=by omega
 rcases h with rfl | rfl | rfl | rfl | rfl | rfl <;> (injection hx with hx;subst hx;rfl)
theorem house_small:∀ x ∈ x1c,x.name.size<=1048576:=by
 have h:x1c.all (fun x=>decide (x.name.size<=1048576))=true:=by kernel_rfl
 intro x hx
 simpa using List.all_eq_true.1 h x hx
theorem house_gsmall:∀ x ∈ x2z,x.name.size<=1048576/\x.types.length<=1000:=by
 have h:x2z.all (fun x=>decide (x.name.size<=1048576/\x.types.length<=1000))=true:=by kernel_rfl
 intro x hx
 simpa using List.all_eq_true.1 h x hx
theorem house_cells_size:x48.size=49:=by kernel_rfl
theorem x4r (w:World):Calls Tryz.prog 13 #[] w fun r w'=>∃ cb,r=.returned (.pointer (some ⟨cb,0,none⟩))/\SchR w' cb x02 x07/\Pure w w':=by
 have HZ:=mK (zero_of_info arr_info)
 have HSP:=mK (specs_calls w)
 have HCR:=mK (fun W F=>house_reps W F)
 have HC1:=mK (by kernel_rfl:(x48.all (·.oneCell'))=true)
 have HC2:=mK house_cells_size
 have HC3:=mK (by kernel_rfl:zeroCells.size=49)
 generalize x48=hc at *
 go_enter Tryz.func13,Tryz.ntmps13
 go_wp2_with (go_at_call 60;refine HSP.o.mono ?_;rintro e w1 ⟨rfl,hu⟩;have HU1:=mK hu;clear hu;apply As.o)
 refine⟨?_⟩
 rename_i hKK
 refine hKK _ _ ?_
 refine wpList_allocTo rfl _ rfl (.pointer (some ⟨w1.heap.size,0,none⟩)) (.cells zeroCells 78) (by simp[execOp,Instr.alloc,HZ.o.1,Value.cells,newVar,newRow]) ?_
 refine wpList_store_row rfl _ _ _ rfl w1.heap.size hc (by rfl) (by rfl) _ zeroCells (heap_alloc_new w1 _) (by rw[HZ.o.2,HC2.o]) (by rw[HC2.o,HC3.o]) HC1.o ?_
 rw[World.setRow_alloc_new]
 obtain⟨W,hW⟩:∃ W,W=w1.alloc (.cells hc 78):=⟨_,rfl⟩
 have HWB:=mK (show W.heap[w1.heap.size]?=some (.cells hc 78 (0,0)) from hW ▸ heap_alloc_new w1 _)
 have HPW:=mK (show Pure w W from hW ▸ HU1.o.alloc _)
 rw[<- hW]
 clear hW
 have hI:Pure W ((W.alloc (.cells #[.int .i64 1,.int .i64 2,.int .i64 3,.int .i64 4,.int .i64 5,.int .i64 7] 3)).alloc (.cells #[.string x2h,.slice (some ⟨W.heap.size,0,none⟩) 6 6] 85)):=aU.alloc _
 have hz:(W.alloc (.cells #[.int .i64 1,.int .i64 2,.int .i64 3,.int .i64 4,.int .i64 5,.int .i64 7] 3)).heap.size=W.heap.size+1:=by simp
 have hir:=Rp.x01 (Rp.x1k (d:=intR) (F:=fun _=>True) (heap_alloc_new W (.cells #[.int .i64 1,.int .i64 2,.int .i64 3,.int .i64 4,.int .i64 5,.int .i64 7] 3)) trivial (house_ints _ _)) (Upd.alloc1 (fun _=>False) _ (.cells #[.string x2h,.slice (some ⟨W.heap.size,0,none⟩) 6 6] 85))
 have hgb:=heap_alloc_new (W.alloc (.cells #[.int .i64 1,.int .i64 2,.int .i64 3,.int .i64 4,.int .i64 5,.int .i64 7] 3)) (.cells #[.string x2h,.slice (some ⟨W.heap.size,0,none⟩) 6 6] 85)
 rw[hz] at hgb
 have hgr:grpR.row _ (fun _=>True) (some ⟨W.heap.size+1,0,none⟩) x2z:=Rp.x1k hgb trivial (Reps.single (x:=(⟨x2h,[1,2,3,4,5,7]⟩:Grp)) ⟨_,_,rfl,Nat.le_refl 6,hir⟩ rfl)
 have hsr:=Rp.x01 (Rp.x1k (d:=specR) (F:=fun _=>True) HWB.o trivial (HCR.o W _)) hI
 have HNEW:=mK (New_calls (c:=7) (d:=1) (whole:=x39) (es:=houseEs) hsr hgr (by decide) (by decide) house_small house_gsmall house_names house_fits rfl house_parses)
 have HI:=mK (HPW.o.tt hI)
 clear hI hz hir hgb hgr hsr
 go_wp2_with (go_at_call 61;refine HNEW.o.mono ?_;rintro e w7 ⟨cb,rfl,hsch,_,hu⟩;have HS:=mK hsch;have HU7:=mK (HI.o.tt hu);clear hsch hu)
 go_ret
 exact⟨_,rfl,HS.o,HU7.o⟩
end Go.Proofs.YtofjodppljnlaaaGreatDoor
namespace Go.Proofs.YtofjodppljnlaaaGreatDoor
open Go.RowKit
theorem exprCheck5_calls {e:Ex} (hr:exR.row w F A e.l) (hb:e.wt<=1048576 * 4) :
 Calls Tryz.prog 168 #[e.val A c] w fun r w'=>r=.returned (.int .i64 (x0z e))/\Pure w w':=by
 have hcb:e.cnt<=1048576 * 4:=Nat.le_trans e.cnt_le_wt hb
 have hdb:e.dep<=e.cnt:=e.x5w
 have HC:=mK (fun W (hu:Pure w W)=>count_all (1048576 * 4) e hcb (Nat.le_refl _) F A c W (Rp.x01 hr hu))
 have HD:=mK (fun W (hu:Pure w W)=>deep_all (1048576 * 4) e hcb (Nat.le_refl _) F A c W (Rp.x01 hr hu))
 have HRT:=mK (fun W (hu:Pure w W)=>right5_all (1048576 * 4) e hb (Nat.le_refl _) F A c W (Rp.x01 hr hu))
 have HV:=mK (show x0z e=if e.cnt > 200\/e.dep > 60 then 2 else if e.okR=false then 4 else 0 by
  unfold x0z
  rw[Ex.okR_okB e 0 (by omega)]
  have:(!(decide (e.k=2\/e.k=3) && decide ((0:Int)=e.k)))=true:=by simp;omega
  rw[this]
  simp)
 clear hr
 obtain⟨k0,nm,l⟩:=e
 unfold Ex.val at *
 try simp only at HC HD HRT
 generalize x0z (.mk k0 nm l)=ec at *
 generalize (Ex.mk k0 nm l).cnt=cn at *
 generalize (Ex.mk k0 nm l).dep=dn at *
 generalize (Ex.mk k0 nm l).okR=ok at *
 show Calls Tryz.prog 168 #[.agg #[.int .i64 k0,.string nm,.slice A l.length c]] w _
 by_cases h1:200 < cn
 ·have i1:(200:Int) < (cn:Int):=by omega
  rw[if_pos (.inl h1)] at HV
  go_enter Tryz.func168,Tryz.ntmps168
  go_wp2_with (go_at_call 196;refine(HC.o _ aU).mono ?_;rintro e w1 ⟨rfl,hu⟩;obtain⟨hb1,hu1⟩:=one_up5 hu;have HU:=mK hu1;clear hu hb1 hu1)
  go_ret
  exact⟨by rw[HV.o];rfl,HU.o⟩
 ·have i1:¬ (200:Int) < (cn:Int):=by omega
  by_cases h2:60 < dn
  ·have i2:(60:Int) < (dn:Int):=by omega
   rw[if_pos (.inr h2)] at HV
   go_enter Tryz.func168,Tryz.ntmps168
   go_wp2_with (first | (go_at_call 197;refine(HD.o _ HU.o).mono ?_;rintro e w2 ⟨rfl,hu⟩;have HU2:=mK (HU.o.tt hu);clear hu) | (go_at_call 196;refine(HC.o _ aU).mono ?_;rintro e w1 ⟨rfl,hu⟩;obtain⟨hb1,hu1⟩:=one_up5 hu;obtain⟨⟨q0,q1,q2⟩,_⟩:=cells3r5 hb1;have HU:=mK hu1;clear hu hb1 hu1))
   go_ret
   exact⟨by rw[HV.o];rfl,HU2.o⟩
  ·have i2:¬ (60:Int) < (dn:Int):=by omega
   rw[if_neg (by omega)] at HV
   cases ok
   all_goals
    have HV2:=mK HV.o
    go_enter Tryz.func168,Tryz.ntmps168
    go_wp2_with (first | (go_at_call 198;refine(HRT.o _ HU2.o).mono ?_;rintro e w3 ⟨rfl,hu⟩;have HU3:=mK (HU2.o.tt hu);clear hu) | (go_at_call 197;refine(HD.o _ HU.o).mono ?_;rintro e w2 ⟨rfl,hu⟩;obtain⟨⟨p0,p1,p2⟩,_⟩:=cells3r5 ((hu.block _ (lt5 HB1.o) (fun h=>h)).trans HB1.o);have HU2:=mK (HU.o.tt hu);clear hu) | (go_at_call 196;refine(HC.o _ aU).mono ?_;rintro e w1 ⟨rfl,hu⟩;obtain⟨hb1,hu1⟩:=one_up5 hu;have HB1:=mK hb1;obtain⟨⟨q0,q1,q2⟩,_⟩:=cells3r5 hb1;have HU:=mK hu1;clear hu hb1 hu1))
    go_ret
    exact⟨by rw[HV2.o];rfl,HU3.o⟩
theorem parse6_name {m:Nat} {s:ByteArray} {kk:Int} (hn:x2r s m kk) (hs:s.size<=200) (hck:x0z (.mk kk ⟨#[]⟩ [.mk 1 (s.extract 0 m) []])=0) (hwt:(Ex.mk kk ⟨#[]⟩ [.mk 1 (s.extract 0 m) []]).wt<=1048576 * 4):x50 s (.mk kk ⟨#[]⟩ [.mk 1 (s.extract 0 m) []]):=by
 intro w
 have e2:¬ (200:Int) < (s.size:Int):=by omega
 have e4:¬ ((s.size:Int) > 200):=by omega
 have hm:=hn.nm.lt
 have hlen:=hn.len
 have hsm:=hn.nm.small
 obtain⟨f1,f2⟩:=name_letters hn 0 hm (by omega)
 obtain⟨a1,a2,a3⟩:=hn.c0 (by omega)
 obtain⟨c0,hc0⟩:∃ c:Int,c=(s[0]'(by omega)).toNat:=⟨_,rfl⟩
 have g1:(c0 == 0)=false:=by simp;omega
 have HP0:=mK (show ∀ W tb,PB W tb s 0->Calls Tryz.prog 191 #[.pointer (some ⟨tb,0,none⟩)] W fun r w'=>r=.returned (.int .u8 c0)/\Pure W w' from fun W tb hT=>hc0 ▸ peek_at hT (by omega) a2 a3 hsm)
 have HPE:=mK (fun (W:World) tb (hT:PB W tb s s.size)=>peek_end hT hsm)
 have HAL:=mK (fun (W:World) tb (hT:PB W tb s 0)=>alt6_name hT hn)
 have hT1:Pure w ((w.alloc (.cells #[.int .i64 0,.string ⟨#[]⟩,.slice none 0 0] 92)).alloc (.cells #[.string s,.int .i64 0,.bool false] 262)):=aU.alloc _
 have hTB:PB ((w.alloc (.cells #[.int .i64 0,.string ⟨#[]⟩,.slice none 0 0] 92)).alloc (.cells #[.string s,.int .i64 0,.bool false] 262)) (w.heap.size+1) s 0:=by
  have:=heap_alloc_new (w.alloc (.cells #[.int .i64 0,.string ⟨#[]⟩,.slice none 0 0] 92)) (.cells #[.string s,.int .i64 0,.bool false] 262)
  rw[show (w.alloc (.cells #[.int .i64 0,.string ⟨#[]⟩,.slice none 0 0] 92)).heap.size=w.heap.size+1 by simp] at this
  exact this
 have HT1:=mK hT1
 have HTB:=mK hTB
 have HCK:=mK hck
 have HWT:=mK hwt
 have HRB:=mK ((Below.heap_alloc (w.alloc (.cells #[.int .i64 0,.string ⟨#[]⟩,.slice none 0 0] 92)) (.cells #[.string s,.int .i64 0,.bool false] 262) w.heap.size (by simp)).trans (heap_alloc_new w _))
 clear hn hT1 hTB hck hwt f1 f2 a1 a2 a3 hc0
 go_enter Tryz.func164,Tryz.ntmps164
 go_wp2_with (first | (go_at_call 192;refine(HAL.o _ _ (HTB.o.pure HU1.o)).mono ?_;rintro e w2 ⟨nb,rfl,hnm,hnb,hT,hu⟩;have HNM:=mK hnm;have HNB:=mK hnb;have HT2:=mK hT;have HU2:=mK hu;clear hnm hnb hT hu;apply As.o) | (go_at_call 191;refine(HP0.o _ _ HTB.o).mono ?_;rintro e w1 ⟨rfl,hu⟩;have HU1:=mK hu;clear hu))
 refine⟨?_⟩
 have hz1:=HU1.o.size
 simp at hz1
 have hz2:=HU2.o.size
 have hnb0:=HNB.o
 have hrb2:=(HU2.o.block w.heap.size (by omega) (by omega)).trans ((HU1.o.block w.heap.size (by simp;omega) (fun h=>h)).trans HRB.o)
 have HRB2:=mK hrb2
 obtain⟨⟨r0,r1,r2⟩,⟨rf0,rf1,rf2⟩,hrl⟩:=x11 hrb2
 have HNMb:=mK (lB HNM.o)
 obtain⟨⟨c0',c1',c2'⟩,pf1,htb2⟩:=HT2.o.cells
 have HP02:=mK (show Pure w w2 from(HT1.o.tt HU1.o).trans HU2.o (fun q hq h=>by omega))
 clear hrb2
 generalize hW:w2.alloc (.cells #[.int .i64 kk,.string ⟨#[]⟩,.slice (some ⟨nb,0,none⟩) 1 1] 92)=W
 have hPW:Pure w2 W:=hW ▸ Upd.alloc1 _ _ _
 have HPW:=mK hPW
 have HPWW:=mK (HP02.o.tt hPW)
 have HTW:=mK (HT2.o.pure hPW)
 have HE:=mK (show W.heap[w2.heap.size]?=some (.cells #[.int .i64 kk,.string ⟨#[]⟩,.slice (some ⟨nb,0,none⟩) 1 1] 92 (0,0)) from hW ▸ heap_alloc_new _ _)
 have HNW:=mK (show NameB W nb (s.extract 0 m) from(hPW.block nb HNMb.o (fun h=>h)).trans HNM.o)
 have HRBW:=mK ((hPW.block w.heap.size hrl (fun h=>h)).trans HRB2.o)
 clear hPW r0 r1 r2 rf0 rf1 rf2 c0' c1' c2' pf1
 obtain⟨⟨c0',c1',c2'⟩,pf1,htb3⟩:=HTW.o.cells
 go_wp2_with (go_at_call 191;refine(HPE.o _ _ HTW.o).mono ?_;rintro e w3 ⟨rfl,hu⟩;have HU3:=mK hu;clear hu;apply As.o)
 refine⟨?_⟩
 obtain⟨⟨e0,e1,e2'⟩,_,hel⟩:=x11 ((HU3.o.block _ (lB HE.o) (fun h=>h)).trans HE.o)
 have HN3:=mK (show NameB w3 nb (s.extract 0 m) from(HU3.o.block nb (lB HNW.o) (fun h=>h)).trans HNW.o)
 have HC3:=mK (show Calls Tryz.prog 168 #[.agg #[.int .i64 kk,.string ⟨#[]⟩,.slice (some ⟨nb,0,none⟩) 1 1]] w3 fun r w'=>r=.returned (.int .i64 0)/\Pure w3 w' from HCK.o ▸ exprCheck5_calls (e:=.mk kk ⟨#[]⟩ [.mk 1 (s.extract 0 m) []]) (A:=some ⟨nb,0,none⟩) (c:=1) (F:=fun _=>True) (name_row HN3.o trivial) HWT.o)
 go_wp2_with (go_at_call 168;refine HC3.o.mono ?_;rintro e w4 ⟨rfl,hu⟩;have HU4:=mK (HU3.o.tt hu);clear hu;apply As.o)
 refine⟨?_⟩
 clear e0 e1 e2'
 obtain⟨⟨e0,e1,e2'⟩,_,hel4⟩:=x11 ((HU4.o.block _ (lB HE.o) (fun h=>h)).trans HE.o)
 have hrb4:=(HU4.o.block w.heap.size (lB HRBW.o) (fun h=>h)).trans HRBW.o
 obtain⟨⟨r0,r1,r2⟩,⟨rf0,rf1,rf2⟩,hrl4⟩:=x11 hrb4
 clear hrb4
 go_wp2
 exact bodyPost_ret (v:=.tuple #[.agg #[.int .i64 kk,.string ⟨#[]⟩,.slice (some ⟨nb,0,none⟩) 1 1],.int .i64 s.size,.int .i64 0]) (by simp[results,Tryz.results164,go_sem,r0,r1,r2,rf0,rf1,rf2]) rfl ⟨some ⟨nb,0,none⟩,1,rfl,Nat.le_refl _,name_row (show NameB _ nb (s.extract 0 m) from by
  have hn4:=(HU4.o.block nb (lB HNW.o) (fun h=>h)).trans HNW.o
  exact((set3U w4 w.heap.size _ _ _).block nb (lB hn4) (by omega)).trans hn4) (by omega),(HPWW.o.tt HU4.o).trans (set3U w4 w.heap.size _ _ _) (fun q hq h=>by omega)⟩
end Go.Proofs.YtofjodppljnlaaaGreatDoor
