/- My own texts, packed: Expr, Names, Pars5, Sl, New, Mach2, NetN, Own3, Reg29. -/
import Derived.Test.YtofjodppljnlaaaGreatDoorP3
import Derived.Test.YtofjodppljnlaaaGreatDoorP2
import Derived.WalkSpells
import Derived.Lib.SliceRun
import Derived.Deep.WholeRow
import Derived.Great.Walk
set_option maxRecDepth 100000
set_option maxHeartbeats 4000000
set_option linter.unusedVariables false
set_option linter.unusedSimpArgs false
variable {w w1 W:Go.World} {F G:Nat → Prop} {A B:Option Go.Addr} {cb c:Nat}
namespace Go.Proofs.YtofjodppljnlaaaGreatDoor
open Go.RowKit
theorem x5p (s:ByteArray) (w:World) (hs:s.size<=1048576 * 4):Calls Tryz.prog 157 #[.string s] w fun r w'=>r=.returned (.bool (nameB s))/\Pure w w':=by
 have hconv:=fun W:World=>run_bytes_of_string (P:=Tryz.prog) W 9 72 5 s Tryz.underlying9 Tryz.underlying72 Tryz.underlying5
 have hfits:s.data.size=s.size:=rfl
 go_enter Tryz.func157,Tryz.ntmps157
 go_wp2
 generalize hcap:grownCap w s.size 0 5=cap
 go_loopg [4,8] s.size (fun g c i wr=>∃ k:Nat,k+g=s.size/\i=.int .i64 k/\As ((s.data.toList.take k).all lettB=true)/\As (Pure w wr/\w.heap.size < wr.heap.size/\∃ fr,wr.heap[w.heap.size]?=some (.cells (bytesRow s cap) 5 fr)))
 case atStart=>exact⟨0,by omega,rfl,⟨by simp⟩,⟨(rU.drew).alloc _,by simp,_,heap_alloc_new _ _⟩⟩
 case round=>
  obtain⟨k,hk,rfl,HA,HB⟩:=hrel
  obtain⟨hp,hz,fr,hblk⟩:=HB.o
  by_cases hlt:k < s.size
  ·obtain⟨g1,rfl⟩:=sC1 (by omega:0 < gk)
   have hlt':k < s.data.size:=hlt
   have hcell:wr.cell? ⟨w.heap.size,k,none⟩=some (.int .u8 (s.data[k].toNat:Int)):=by
    have:=bytesRow_at s cap k hlt'
    simp[World.cell?,hblk,this]
   have hx:s.data.toList[k]?=some s.data[k]:=by simp[hlt']
   have HT:As ((s.data.toList.take (k+1)).all lettB=((s.data.toList.take k).all lettB && lettB s.data[k])):=⟨by rw[List.take_add_one,hx,List.all_append];simp⟩
   rw[HA.o] at HT
   have HN:As (lettB s.data[k]=false->nameB s=false):=⟨fun h=>by
    have:s.data.toList.all lettB=false:=by
     rw[List.all_eq_false]
     exact⟨_,List.mem_of_getElem? hx,by simp[h]⟩
    simp[nameB,this]⟩
   generalize hc:s.data[k]=c at *
   have HK:=mK hk
   have HP:=mK hp
   have HL:=mK hblk
   have h256:=c.toNat_lt
   clear hk hp hblk hx hc HB
   by_cases h1:c.toNat < 97
   ·have hn:=mK (HN.o (by simp[lettB];omega))
    have e1:((c.toNat:Int) < 97):=by omega
    go_wp2
    go_ret
    exact⟨x0h hn.o.symm,HP.o⟩
   ·by_cases h2:122 < c.toNat
    ·have hn:=mK (HN.o (by simp[lettB];omega))
     have e1:¬ ((c.toNat:Int) < 97):=by omega
     have e2:((c.toNat:Int) > 122):=by omega
     go_wp2
     go_ret
     exact⟨x0h hn.o.symm,HP.o⟩
    ·have HC:As (lettB c=true):=⟨by simp[lettB];omega⟩
     have e1:¬ ((c.toNat:Int) < 97):=by omega
     have e2:¬ ((c.toNat:Int) > 122):=by omega
     go_wp2
     go_roundg g1
     case measure=>omega
     case rel=>exact⟨k+1,by have:=HK.o;omega,by go_num,⟨by rw[HT.o,HC.o];rfl⟩,⟨HP.o,hz,fr,HL.o⟩⟩
  ·have hkl:k=s.size:=by omega
   have HA':As (s.data.toList.all lettB=true):=⟨by have:=HA.o;rwa [List.take_of_length_le (by simp;omega)] at this⟩
   subst hkl
   have HP:=mK hp
   clear hp hblk HB HA
   go_wp2
   go_ret
   refine⟨x0h ?_,HP.o⟩
   rw[nameB,HA'.o,Bool.true_and,x1h]
   by_cases h:s.size=0 <;> simp[h]
theorem right_all (N:Nat):∀ (e:Ex) (i:Int),e.wt<=N->N<=1048576 * 4->∀ (F:Nat->Prop) (A:Option Addr) (c:Nat) (w:World),exR.row w F A e.l ->
 Calls Tryz.prog 187 #[e.val A c,.int .i64 i] w fun r w'=>r=.returned (.bool (e.okB i))/\Pure w w':=by
 induction N with
 | zero=>intro e i he;have:=e.wt_pos;omega
 | succ N ih=>
   intro e i he hN F A c w hr
   obtain⟨k0,nm,l⟩:=e
   have HI:=mK (fun (x:Ex) (i:Int) (hx:x.wt<=N)=>ih x i hx (by omega))
   have HR:=mK hr
   have hc0:Ex.wts l<=N:=by simp only[Ex.wt] at he;omega
   have hs0:nm.size<=1048576 * 4:=by simp only[Ex.wt] at he;omega
   have hll:=Ex.wts_len l
   clear hr he ih
   by_cases h1:k0=1
   ·subst h1
    have HV:As (Ex.okB i (.mk 1 nm l)=(nameB nm && decide (l.length=0))):=⟨by rw[Ex.okB,if_pos rfl]⟩
    cases hq:nameB nm
    ·have HV':=mK (show false=Ex.okB i (.mk 1 nm l) by rw[HV.o,hq];rfl)
     clear HV
     go_enter Tryz.func187,Tryz.ntmps187
     go_wp2_with (go_at_call 157;refine(x5p nm _ hs0).mono ?_;rintro e w1 ⟨rfl,hu⟩;rw[hq];have HU:=mK (Upd.trans aU hu (fun _ _ h=>h));clear hu)
     go_ret
     exact⟨x0h HV'.o,HU.o⟩
    ·have HV':=mK (show decide (l.length=0)=Ex.okB i (.mk 1 nm l) by rw[HV.o,hq];rfl)
     clear HV
     go_enter Tryz.func187,Tryz.ntmps187
     go_wp2_with (go_at_call 157;refine(x5p nm _ hs0).mono ?_;rintro e w1 ⟨rfl,hu⟩;rw[hq];obtain⟨oc,of⟩:=hu.olds;have HU:=mK (Upd.trans aU hu (fun _ _ h=>h));clear hu)
     go_ret
     exact⟨x0h (by rw[<- HV'.o];show (((l.length:Nat):Int) == 0)=_;rw[Bool.eq_iff_iff,beq_iff_eq,decide_eq_true_iff];omega),HU.o⟩
   ·by_cases h2:(k0=0/\i ≠ 0)\/((k0=2\/k0=3)/\i=k0)\/¬ (k0=0\/k0=2\/k0=3\/k0=4\/k0=5\/k0=6)
    ·have HV:=mK (right_early (nm:=nm) (l:=l) h1 h2)
     rcases h2 with ⟨rfl,h⟩ | ⟨rfl | rfl,rfl⟩ | h
     ·have e0:(i != 0)=true:=by simp[h]
      clear h h1
      go_enter Tryz.func187,Tryz.ntmps187
      go_wp2
      go_ret
      exact⟨x0h HV.o.symm,rU.alloc _⟩
     ·clear h1
      go_enter Tryz.func187,Tryz.ntmps187
      go_wp2
      go_ret
      exact⟨x0h HV.o.symm,rU.alloc _⟩
     ·clear h1
      go_enter Tryz.func187,Tryz.ntmps187
      go_wp2
      go_ret
      exact⟨x0h HV.o.symm,rU.alloc _⟩
     ·have e0:(k0 == 0)=false:=by simp;omega
      have e1:(k0 == 1)=false:=by simp;omega
      have e2:(k0 == 2)=false:=by simp;omega
      have e3:(k0 == 3)=false:=by simp;omega
      have e4:(k0 == 4)=false:=by simp;omega
      have e5:(k0 == 5)=false:=by simp;omega
      have e6:(k0 == 6)=false:=by simp;omega
      clear h h1
      go_enter Tryz.func187,Tryz.ntmps187
      go_wp2
      go_ret
      exact⟨x0h HV.o.symm,rU.alloc _⟩
    ·have h3:k0=0\/k0=2\/k0=3\/k0=4\/k0=5\/k0=6:=by omega
     rcases h3 with rfl | rfl | rfl | rfl | rfl | rfl
     ·have HV:=mK (x4n (i:=i) (k:=0) (nm:=nm) (l:=l) (by omega) (by omega))
      obtain rfl:i=0:=by omega
      clear h1 h2
      go_enter Tryz.func187,Tryz.ntmps187
      go_wp2
      go_loopg [43] l.length (fun g i wr=>∃ k:Nat,k+g=l.length/\i=.int .i64 k/\As (Ex.oksB 0 (l.take k)=true)/\As (Pure w wr/\BoxE w.heap.size 0 nm l.length A c wr))
      case atStart=>exact⟨0,by omega,rfl,⟨by simp[Ex.oksB]⟩,⟨by first | exact rU.alloc _ | exact(rU.alloc _).drewN _,by first | exact BoxE.new w _ _ _ _ _ _ | exact(BoxE.new w _ _ _ _ _ _).pure (rU.drewN _)⟩⟩
      case round=>
       obtain⟨k,hk,rfl,HA,HB⟩:=hrel
       obtain⟨hp,hbx⟩:=HB.o
       have HP:=mK hp
       have HX:=mK hbx
       obtain⟨b0,b1,b2,b3⟩:=hbx
       by_cases hlt:k < l.length
       ·obtain⟨x,hx⟩:=gS hlt
        obtain⟨b,o,A1,c1,rfl,hF,hbl,d0,d1,d2,hle1,hrow1⟩:=ex_at (Rp.x01 HR.o hp) hx
        obtain⟨g1,rfl⟩:=sC1 (by omega:0 < gk)
        have hx1:x.wt<=N:=Nat.le_trans (Ex.wt_mem (List.mem_of_getElem? hx)) hc0
        have HT:=mK (Ex.oks_succ (i:=0) hx)
        rw[HA.o] at HT
        have HM:=mK (fun h=>Ex.oks_mem (i:=0) (List.mem_of_getElem? hx) h)
        have HR1:=mK hrow1
        have HK:=mK hk
        clear hrow1 hk hx hp HB
        cases hq:Ex.okB 0 x
        ·have HF:=mK (show false=Ex.okB 0 (.mk 0 nm l) by rw[HV.o,HM.o hq];rfl)
         go_wp2_with (go_at_call 187;with_reducible refine(HI.o x 0 hx1 _ _ c1 _ (Rp.x01 HR1.o aU)).mono ?_;rintro e w1 ⟨rfl,hu⟩;rw[hq];have HU:=mK (show Pure wr w1 from Upd.trans aU hu (fun _ _ h=>h));clear hu)
         go_ret
         exact⟨x0h HF.o,HP.o.tt HU.o⟩
        ·rw[hq] at HT
         go_wp2_with (go_at_call 187;with_reducible refine(HI.o x 0 hx1 _ _ c1 _ (Rp.x01 HR1.o aU)).mono ?_;rintro e w1 ⟨rfl,hu⟩;rw[hq];have HU:=mK (show Pure wr w1 from Upd.trans aU hu (fun _ _ h=>h));clear hu)
         go_roundg g1
         case measure=>omega
         case rel=>exact⟨k+1,by have:=HK.o;omega,by go_num,HT,⟨HP.o.tt HU.o,HX.o.pure HU.o⟩⟩
       ·have hkl:k=l.length:=by omega
        subst hkl
        rw[List.take_length] at HA
        rw[HA.o,Bool.true_and] at HV
        clear hp HB
        by_cases a1:nm.size=0
        ·have f1:nm.toList.isEmpty=true:=by rw[x1h];simp[a1]
         by_cases a2:0<=l.length
         ·have f2:((l.length:Int) >= 0):=by omega
          have HF:As (decide (l.length<=mostE 0 l.length)=Ex.okB 0 (.mk 0 nm l)):=⟨by rw[HV.o,decide_eq_true a1,decide_eq_true (show x23 0<=l.length from a2)];rfl⟩
          go_wp2
          go_ret
          refine⟨x0h ?_,HP.o⟩
          rw[<- HF.o,Bool.eq_iff_iff]
          simp[mostE]
          try omega
         ·exact absurd (Nat.zero_le _) a2
        ·have f1:nm.toList.isEmpty=false:=by rw[x1h];simp[a1]
         have HF:As (false=Ex.okB 0 (.mk 0 nm l)):=⟨by rw[HV.o,decide_eq_false a1];rfl⟩
         go_wp2
         go_ret
         exact⟨x0h HF.o,HP.o⟩
     ·have HV:=mK (x4n (i:=i) (k:=2) (nm:=nm) (l:=l) (by omega) (by omega))
      have e0:(i == 2)=false:=by simp;omega
      clear h1 h2
      go_enter Tryz.func187,Tryz.ntmps187
      go_wp2
      go_quiet (fail)
      go_wp2
      go_loopg [43] l.length (fun g i wr=>∃ k:Nat,k+g=l.length/\i=.int .i64 k/\As (Ex.oksB 2 (l.take k)=true)/\As (Pure w wr/\BoxE w.heap.size 2 nm l.length A c wr))
      case atStart=>exact⟨0,by omega,rfl,⟨by simp[Ex.oksB]⟩,⟨by first | exact rU.alloc _ | exact(rU.alloc _).drewN _,by first | exact BoxE.new w _ _ _ _ _ _ | exact(BoxE.new w _ _ _ _ _ _).pure (rU.drewN _)⟩⟩
      case round=>
       obtain⟨k,hk,rfl,HA,HB⟩:=hrel
       obtain⟨hp,hbx⟩:=HB.o
       have HP:=mK hp
       have HX:=mK hbx
       obtain⟨b0,b1,b2,b3⟩:=hbx
       by_cases hlt:k < l.length
       ·obtain⟨x,hx⟩:=gS hlt
        obtain⟨b,o,A1,c1,rfl,hF,hbl,d0,d1,d2,hle1,hrow1⟩:=ex_at (Rp.x01 HR.o hp) hx
        obtain⟨g1,rfl⟩:=sC1 (by omega:0 < gk)
        have hx1:x.wt<=N:=Nat.le_trans (Ex.wt_mem (List.mem_of_getElem? hx)) hc0
        have HT:=mK (Ex.oks_succ (i:=2) hx)
        rw[HA.o] at HT
        have HM:=mK (fun h=>Ex.oks_mem (i:=2) (List.mem_of_getElem? hx) h)
        have HR1:=mK hrow1
        have HK:=mK hk
        clear hrow1 hk hx hp HB
        cases hq:Ex.okB 2 x
        ·have HF:=mK (show false=Ex.okB i (.mk 2 nm l) by rw[HV.o,HM.o hq];rfl)
         go_wp2_with (go_at_call 187;with_reducible refine(HI.o x 2 hx1 _ _ c1 _ (Rp.x01 HR1.o aU)).mono ?_;rintro e w1 ⟨rfl,hu⟩;rw[hq];have HU:=mK (show Pure wr w1 from Upd.trans aU hu (fun _ _ h=>h));clear hu)
         go_ret
         exact⟨x0h HF.o,HP.o.tt HU.o⟩
        ·rw[hq] at HT
         go_wp2_with (go_at_call 187;with_reducible refine(HI.o x 2 hx1 _ _ c1 _ (Rp.x01 HR1.o aU)).mono ?_;rintro e w1 ⟨rfl,hu⟩;rw[hq];have HU:=mK (show Pure wr w1 from Upd.trans aU hu (fun _ _ h=>h));clear hu)
         go_roundg g1
         case measure=>omega
         case rel=>exact⟨k+1,by have:=HK.o;omega,by go_num,HT,⟨HP.o.tt HU.o,HX.o.pure HU.o⟩⟩
       ·have hkl:k=l.length:=by omega
        subst hkl
        rw[List.take_length] at HA
        rw[HA.o,Bool.true_and] at HV
        clear hp HB
        by_cases a1:nm.size=0
        ·have f1:nm.toList.isEmpty=true:=by rw[x1h];simp[a1]
         by_cases a2:2<=l.length
         ·have f2:((l.length:Int) >= 2):=by omega
          have HF:As (decide (l.length<=mostE 2 l.length)=Ex.okB i (.mk 2 nm l)):=⟨by rw[HV.o,decide_eq_true a1,decide_eq_true (show x23 2<=l.length from a2)];rfl⟩
          go_wp2
          go_ret
          refine⟨x0h ?_,HP.o⟩
          rw[<- HF.o,Bool.eq_iff_iff]
          simp[mostE]
          try omega
         ·have f2:¬ ((l.length:Int) >= 2):=by omega
          have HF:As (false=Ex.okB i (.mk 2 nm l)):=⟨by rw[HV.o,decide_eq_true a1,decide_eq_false (show ¬ x23 2<=l.length from a2)];rfl⟩
          go_wp2
          go_ret
          exact⟨x0h HF.o,HP.o⟩
        ·have f1:nm.toList.isEmpty=false:=by rw[x1h];simp[a1]
         have HF:As (false=Ex.okB i (.mk 2 nm l)):=⟨by rw[HV.o,decide_eq_false a1];rfl⟩
         go_wp2
         go_ret
         exact⟨x0h HF.o,HP.o⟩
     ·have HV:=mK (x4n (i:=i) (k:=3) (nm:=nm) (l:=l) (by omega) (by omega))
      have e0:(i == 3)=false:=by simp;omega
      clear h1 h2
      go_enter Tryz.func187,Tryz.ntmps187
      go_wp2
      go_quiet (fail)
      go_wp2
      go_loopg [43] l.length (fun g i wr=>∃ k:Nat,k+g=l.length/\i=.int .i64 k/\As (Ex.oksB 3 (l.take k)=true)/\As (Pure w wr/\BoxE w.heap.size 3 nm l.length A c wr))
      case atStart=>exact⟨0,by omega,rfl,⟨by simp[Ex.oksB]⟩,⟨by first | exact rU.alloc _ | exact(rU.alloc _).drewN _,by first | exact BoxE.new w _ _ _ _ _ _ | exact(BoxE.new w _ _ _ _ _ _).pure (rU.drewN _)⟩⟩
      case round=>
       obtain⟨k,hk,rfl,HA,HB⟩:=hrel
       obtain⟨hp,hbx⟩:=HB.o
       have HP:=mK hp
       have HX:=mK hbx
       obtain⟨b0,b1,b2,b3⟩:=hbx
       by_cases hlt:k < l.length
       ·obtain⟨x,hx⟩:=gS hlt
        obtain⟨b,o,A1,c1,rfl,hF,hbl,d0,d1,d2,hle1,hrow1⟩:=ex_at (Rp.x01 HR.o hp) hx
        obtain⟨g1,rfl⟩:=sC1 (by omega:0 < gk)
        have hx1:x.wt<=N:=Nat.le_trans (Ex.wt_mem (List.mem_of_getElem? hx)) hc0
        have HT:=mK (Ex.oks_succ (i:=3) hx)
        rw[HA.o] at HT
        have HM:=mK (fun h=>Ex.oks_mem (i:=3) (List.mem_of_getElem? hx) h)
        have HR1:=mK hrow1
        have HK:=mK hk
        clear hrow1 hk hx hp HB
        cases hq:Ex.okB 3 x
        ·have HF:=mK (show false=Ex.okB i (.mk 3 nm l) by rw[HV.o,HM.o hq];rfl)
         go_wp2_with (go_at_call 187;with_reducible refine(HI.o x 3 hx1 _ _ c1 _ (Rp.x01 HR1.o aU)).mono ?_;rintro e w1 ⟨rfl,hu⟩;rw[hq];have HU:=mK (show Pure wr w1 from Upd.trans aU hu (fun _ _ h=>h));clear hu)
         go_ret
         exact⟨x0h HF.o,HP.o.tt HU.o⟩
        ·rw[hq] at HT
         go_wp2_with (go_at_call 187;with_reducible refine(HI.o x 3 hx1 _ _ c1 _ (Rp.x01 HR1.o aU)).mono ?_;rintro e w1 ⟨rfl,hu⟩;rw[hq];have HU:=mK (show Pure wr w1 from Upd.trans aU hu (fun _ _ h=>h));clear hu)
         go_roundg g1
         case measure=>omega
         case rel=>exact⟨k+1,by have:=HK.o;omega,by go_num,HT,⟨HP.o.tt HU.o,HX.o.pure HU.o⟩⟩
       ·have hkl:k=l.length:=by omega
        subst hkl
        rw[List.take_length] at HA
        rw[HA.o,Bool.true_and] at HV
        clear hp HB
        by_cases a1:nm.size=0
        ·have f1:nm.toList.isEmpty=true:=by rw[x1h];simp[a1]
         by_cases a2:2<=l.length
         ·have f2:((l.length:Int) >= 2):=by omega
          have HF:As (decide (l.length<=mostE 3 l.length)=Ex.okB i (.mk 3 nm l)):=⟨by rw[HV.o,decide_eq_true a1,decide_eq_true (show x23 3<=l.length from a2)];rfl⟩
          go_wp2
          go_ret
          refine⟨x0h ?_,HP.o⟩
          rw[<- HF.o,Bool.eq_iff_iff]
          simp[mostE]
          try omega
         ·have f2:¬ ((l.length:Int) >= 2):=by omega
          have HF:As (false=Ex.okB i (.mk 3 nm l)):=⟨by rw[HV.o,decide_eq_true a1,decide_eq_false (show ¬ x23 3<=l.length from a2)];rfl⟩
          go_wp2
          go_ret
          exact⟨x0h HF.o,HP.o⟩
        ·have f1:nm.toList.isEmpty=false:=by rw[x1h];simp[a1]
         have HF:As (false=Ex.okB i (.mk 3 nm l)):=⟨by rw[HV.o,decide_eq_false a1];rfl⟩
         go_wp2
         go_ret
         exact⟨x0h HF.o,HP.o⟩
     ·have HV:=mK (x4n (i:=i) (k:=4) (nm:=nm) (l:=l) (by omega) (by omega))
      clear h1 h2
      go_enter Tryz.func187,Tryz.ntmps187
      go_wp2
      go_loopg [43] l.length (fun g i wr=>∃ k:Nat,k+g=l.length/\i=.int .i64 k/\As (Ex.oksB 4 (l.take k)=true)/\As (Pure w wr/\BoxE w.heap.size 4 nm l.length A c wr))
      case atStart=>exact⟨0,by omega,rfl,⟨by simp[Ex.oksB]⟩,⟨by first | exact rU.alloc _ | exact(rU.alloc _).drewN _,by first | exact BoxE.new w _ _ _ _ _ _ | exact(BoxE.new w _ _ _ _ _ _).pure (rU.drewN _)⟩⟩
      case round=>
       obtain⟨k,hk,rfl,HA,HB⟩:=hrel
       obtain⟨hp,hbx⟩:=HB.o
       have HP:=mK hp
       have HX:=mK hbx
       obtain⟨b0,b1,b2,b3⟩:=hbx
       by_cases hlt:k < l.length
       ·obtain⟨x,hx⟩:=gS hlt
        obtain⟨b,o,A1,c1,rfl,hF,hbl,d0,d1,d2,hle1,hrow1⟩:=ex_at (Rp.x01 HR.o hp) hx
        obtain⟨g1,rfl⟩:=sC1 (by omega:0 < gk)
        have hx1:x.wt<=N:=Nat.le_trans (Ex.wt_mem (List.mem_of_getElem? hx)) hc0
        have HT:=mK (Ex.oks_succ (i:=4) hx)
        rw[HA.o] at HT
        have HM:=mK (fun h=>Ex.oks_mem (i:=4) (List.mem_of_getElem? hx) h)
        have HR1:=mK hrow1
        have HK:=mK hk
        clear hrow1 hk hx hp HB
        cases hq:Ex.okB 4 x
        ·have HF:=mK (show false=Ex.okB i (.mk 4 nm l) by rw[HV.o,HM.o hq];rfl)
         go_wp2_with (go_at_call 187;with_reducible refine(HI.o x 4 hx1 _ _ c1 _ (Rp.x01 HR1.o aU)).mono ?_;rintro e w1 ⟨rfl,hu⟩;rw[hq];have HU:=mK (show Pure wr w1 from Upd.trans aU hu (fun _ _ h=>h));clear hu)
         go_ret
         exact⟨x0h HF.o,HP.o.tt HU.o⟩
        ·rw[hq] at HT
         go_wp2_with (go_at_call 187;with_reducible refine(HI.o x 4 hx1 _ _ c1 _ (Rp.x01 HR1.o aU)).mono ?_;rintro e w1 ⟨rfl,hu⟩;rw[hq];have HU:=mK (show Pure wr w1 from Upd.trans aU hu (fun _ _ h=>h));clear hu)
         go_roundg g1
         case measure=>omega
         case rel=>exact⟨k+1,by have:=HK.o;omega,by go_num,HT,⟨HP.o.tt HU.o,HX.o.pure HU.o⟩⟩
       ·have hkl:k=l.length:=by omega
        subst hkl
        rw[List.take_length] at HA
        rw[HA.o,Bool.true_and] at HV
        clear hp HB
        by_cases a1:nm.size=0
        ·have f1:nm.toList.isEmpty=true:=by rw[x1h];simp[a1]
         by_cases a2:1<=l.length
         ·have f2:((l.length:Int) >= 1):=by omega
          have HF:As (decide (l.length<=mostE 4 l.length)=Ex.okB i (.mk 4 nm l)):=⟨by rw[HV.o,decide_eq_true a1,decide_eq_true (show x23 4<=l.length from a2)];rfl⟩
          go_wp2
          go_ret
          refine⟨x0h ?_,HP.o⟩
          rw[<- HF.o,Bool.eq_iff_iff]
          simp[mostE]
          try omega
         ·have f2:¬ ((l.length:Int) >= 1):=by omega
          have HF:As (false=Ex.okB i (.mk 4 nm l)):=⟨by rw[HV.o,decide_eq_true a1,decide_eq_false (show ¬ x23 4<=l.length from a2)];rfl⟩
          go_wp2
          go_ret
          exact⟨x0h HF.o,HP.o⟩
        ·have f1:nm.toList.isEmpty=false:=by rw[x1h];simp[a1]
         have HF:As (false=Ex.okB i (.mk 4 nm l)):=⟨by rw[HV.o,decide_eq_false a1];rfl⟩
         go_wp2
         go_ret
         exact⟨x0h HF.o,HP.o⟩
     ·have HV:=mK (x4n (i:=i) (k:=5) (nm:=nm) (l:=l) (by omega) (by omega))
      clear h1 h2
      go_enter Tryz.func187,Tryz.ntmps187
      go_wp2
      go_loopg [43] l.length (fun g i wr=>∃ k:Nat,k+g=l.length/\i=.int .i64 k/\As (Ex.oksB 5 (l.take k)=true)/\As (Pure w wr/\BoxE w.heap.size 5 nm l.length A c wr))
      case atStart=>exact⟨0,by omega,rfl,⟨by simp[Ex.oksB]⟩,⟨by first | exact rU.alloc _ | exact(rU.alloc _).drewN _,by first | exact BoxE.new w _ _ _ _ _ _ | exact(BoxE.new w _ _ _ _ _ _).pure (rU.drewN _)⟩⟩
      case round=>
       obtain⟨k,hk,rfl,HA,HB⟩:=hrel
       obtain⟨hp,hbx⟩:=HB.o
       have HP:=mK hp
       have HX:=mK hbx
       obtain⟨b0,b1,b2,b3⟩:=hbx
       by_cases hlt:k < l.length
       ·obtain⟨x,hx⟩:=gS hlt
        obtain⟨b,o,A1,c1,rfl,hF,hbl,d0,d1,d2,hle1,hrow1⟩:=ex_at (Rp.x01 HR.o hp) hx
        obtain⟨g1,rfl⟩:=sC1 (by omega:0 < gk)
        have hx1:x.wt<=N:=Nat.le_trans (Ex.wt_mem (List.mem_of_getElem? hx)) hc0
        have HT:=mK (Ex.oks_succ (i:=5) hx)
        rw[HA.o] at HT
        have HM:=mK (fun h=>Ex.oks_mem (i:=5) (List.mem_of_getElem? hx) h)
        have HR1:=mK hrow1
        have HK:=mK hk
        clear hrow1 hk hx hp HB
        cases hq:Ex.okB 5 x
        ·have HF:=mK (show false=Ex.okB i (.mk 5 nm l) by rw[HV.o,HM.o hq];rfl)
         go_wp2_with (go_at_call 187;with_reducible refine(HI.o x 5 hx1 _ _ c1 _ (Rp.x01 HR1.o aU)).mono ?_;rintro e w1 ⟨rfl,hu⟩;rw[hq];have HU:=mK (show Pure wr w1 from Upd.trans aU hu (fun _ _ h=>h));clear hu)
         go_ret
         exact⟨x0h HF.o,HP.o.tt HU.o⟩
        ·rw[hq] at HT
         go_wp2_with (go_at_call 187;with_reducible refine(HI.o x 5 hx1 _ _ c1 _ (Rp.x01 HR1.o aU)).mono ?_;rintro e w1 ⟨rfl,hu⟩;rw[hq];have HU:=mK (show Pure wr w1 from Upd.trans aU hu (fun _ _ h=>h));clear hu)
         go_roundg g1
         case measure=>omega
         case rel=>exact⟨k+1,by have:=HK.o;omega,by go_num,HT,⟨HP.o.tt HU.o,HX.o.pure HU.o⟩⟩
       ·have hkl:k=l.length:=by omega
        subst hkl
        rw[List.take_length] at HA
        rw[HA.o,Bool.true_and] at HV
        clear hp HB
        by_cases a1:nm.size=0
        ·have f1:nm.toList.isEmpty=true:=by rw[x1h];simp[a1]
         by_cases a2:1<=l.length
         ·have f2:((l.length:Int) >= 1):=by omega
          have HF:As (decide (l.length<=mostE 5 l.length)=Ex.okB i (.mk 5 nm l)):=⟨by rw[HV.o,decide_eq_true a1,decide_eq_true (show x23 5<=l.length from a2)];rfl⟩
          go_wp2
          go_ret
          refine⟨x0h ?_,HP.o⟩
          rw[<- HF.o,Bool.eq_iff_iff]
          simp[mostE]
          try omega
         ·have f2:¬ ((l.length:Int) >= 1):=by omega
          have HF:As (false=Ex.okB i (.mk 5 nm l)):=⟨by rw[HV.o,decide_eq_true a1,decide_eq_false (show ¬ x23 5<=l.length from a2)];rfl⟩
          go_wp2
          go_ret
          exact⟨x0h HF.o,HP.o⟩
        ·have f1:nm.toList.isEmpty=false:=by rw[x1h];simp[a1]
         have HF:As (false=Ex.okB i (.mk 5 nm l)):=⟨by rw[HV.o,decide_eq_false a1];rfl⟩
         go_wp2
         go_ret
         exact⟨x0h HF.o,HP.o⟩
     ·have HV:=mK (x4n (i:=i) (k:=6) (nm:=nm) (l:=l) (by omega) (by omega))
      clear h1 h2
      go_enter Tryz.func187,Tryz.ntmps187
      go_wp2
      go_loopg [43] l.length (fun g i wr=>∃ k:Nat,k+g=l.length/\i=.int .i64 k/\As (Ex.oksB 6 (l.take k)=true)/\As (Pure w wr/\BoxE w.heap.size 6 nm l.length A c wr))
      case atStart=>exact⟨0,by omega,rfl,⟨by simp[Ex.oksB]⟩,⟨by first | exact rU.alloc _ | exact(rU.alloc _).drewN _,by first | exact BoxE.new w _ _ _ _ _ _ | exact(BoxE.new w _ _ _ _ _ _).pure (rU.drewN _)⟩⟩
      case round=>
       obtain⟨k,hk,rfl,HA,HB⟩:=hrel
       obtain⟨hp,hbx⟩:=HB.o
       have HP:=mK hp
       have HX:=mK hbx
       obtain⟨b0,b1,b2,b3⟩:=hbx
       by_cases hlt:k < l.length
       ·obtain⟨x,hx⟩:=gS hlt
        obtain⟨b,o,A1,c1,rfl,hF,hbl,d0,d1,d2,hle1,hrow1⟩:=ex_at (Rp.x01 HR.o hp) hx
        obtain⟨g1,rfl⟩:=sC1 (by omega:0 < gk)
        have hx1:x.wt<=N:=Nat.le_trans (Ex.wt_mem (List.mem_of_getElem? hx)) hc0
        have HT:=mK (Ex.oks_succ (i:=6) hx)
        rw[HA.o] at HT
        have HM:=mK (fun h=>Ex.oks_mem (i:=6) (List.mem_of_getElem? hx) h)
        have HR1:=mK hrow1
        have HK:=mK hk
        clear hrow1 hk hx hp HB
        cases hq:Ex.okB 6 x
        ·have HF:=mK (show false=Ex.okB i (.mk 6 nm l) by rw[HV.o,HM.o hq];rfl)
         go_wp2_with (go_at_call 187;with_reducible refine(HI.o x 6 hx1 _ _ c1 _ (Rp.x01 HR1.o aU)).mono ?_;rintro e w1 ⟨rfl,hu⟩;rw[hq];have HU:=mK (show Pure wr w1 from Upd.trans aU hu (fun _ _ h=>h));clear hu)
         go_ret
         exact⟨x0h HF.o,HP.o.tt HU.o⟩
        ·rw[hq] at HT
         go_wp2_with (go_at_call 187;with_reducible refine(HI.o x 6 hx1 _ _ c1 _ (Rp.x01 HR1.o aU)).mono ?_;rintro e w1 ⟨rfl,hu⟩;rw[hq];have HU:=mK (show Pure wr w1 from Upd.trans aU hu (fun _ _ h=>h));clear hu)
         go_roundg g1
         case measure=>omega
         case rel=>exact⟨k+1,by have:=HK.o;omega,by go_num,HT,⟨HP.o.tt HU.o,HX.o.pure HU.o⟩⟩
       ·have hkl:k=l.length:=by omega
        subst hkl
        rw[List.take_length] at HA
        rw[HA.o,Bool.true_and] at HV
        clear hp HB
        by_cases a1:nm.size=0
        ·have f1:nm.toList.isEmpty=true:=by rw[x1h];simp[a1]
         by_cases a2:1<=l.length
         ·have f2:((l.length:Int) >= 1):=by omega
          have HF:As (decide (l.length<=mostE 6 l.length)=Ex.okB i (.mk 6 nm l)):=⟨by rw[HV.o,decide_eq_true a1,decide_eq_true (show x23 6<=l.length from a2)];rfl⟩
          go_wp2
          go_ret
          refine⟨x0h ?_,HP.o⟩
          rw[<- HF.o,Bool.eq_iff_iff]
          simp[mostE]
          try omega
         ·have f2:¬ ((l.length:Int) >= 1):=by omega
          have HF:As (false=Ex.okB i (.mk 6 nm l)):=⟨by rw[HV.o,decide_eq_true a1,decide_eq_false (show ¬ x23 6<=l.length from a2)];rfl⟩
          go_wp2
          go_ret
          exact⟨x0h HF.o,HP.o⟩
        ·have f1:nm.toList.isEmpty=false:=by rw[x1h];simp[a1]
         have HF:As (false=Ex.okB i (.mk 6 nm l)):=⟨by rw[HV.o,decide_eq_false a1];rfl⟩
         go_wp2
         go_ret
         exact⟨x0h HF.o,HP.o⟩
open Go.Maps (Keyed)
theorem fresh_calls {b n sb:Nat} {S:ByteArray->Bool} {s:ByteArray} (h:StrM w b n S) (hc:w.cell? ⟨sb,0,none⟩=some (.map (some b))) (hne:sb ≠ b) (hs:s.size<=1048576 * 4) (hn:n<=1000000) :
 Calls Tryz.prog 156 #[.string s,.pointer (some ⟨sb,0,none⟩)] w fun r w'=>r=.returned (.bool (nameB s && !S s))/\StrM w' b (n+1) (fun x=>S x || decide (x=s))/\Upd (fun q=>q=b) w w':=by
 have hsb:=World.block_lt_of_cell? w _ hc
 obtain⟨D,hD,hS⟩:=h
 have HD:=mK hD
 have HSS:=mK hS
 have HN:=mK (x5p s w hs)
 have HK:=mK (key_str (s:=s) (by unfold maxLen;omega))
 have hzb:=fun W:World=>(by kernel_rfl:(zeroValue 4).run Tryz.prog W=.ok (.bool false) W)
 have HZ:=mK hzb
 clear hD hS hzb
 cases hq:nameB s
 ·rw[hq] at HN
  go_enter Tryz.func156,Tryz.ntmps156
  go_wp2_with (go_at_call 157;refine HN.o.mono ?_;rintro e w1 ⟨rfl,hu⟩;have HU:=mK hu;have HC1:=mK ((hu.cell hsb (fun h=>h)).trans hc);clear hu;apply As.o)
  refine⟨?_⟩
  have c1:=HC1.o
  have HD1:As (w1.ownsMap Tryz.prog 9 (plainElem Tryz.prog 4) b n D):=⟨by
   obtain⟨es,clock,h1,h2⟩:=HD.o
   exact⟨es,clock,by rw[HU.o.block b (lB h1) (fun h=>h)];exact h1,h2⟩⟩
  go_wp2_with (at_mapUpdate;refine wpList_mapUpdate_own _ rfl _ _ _ 202 rfl 9 4 keyed_str Tryz.underlying202 _ b n D rfl HD1.o (by unfold maxLen;omega) _ _ _ rfl rfl HK.o _ [] (plainElem_bool Tryz.underlying4 true) ?_;intro w2 hown2 hg2)
  go_ret
  exact⟨rfl,⟨_,hown2,fun x=>StrM.put (World.ownsMap.isMap HD.o) HSS.o s x⟩,(HU.o.mono (fun _ _ h=>h.elim)).trans (Upd.x3o (S:=fun q=>q=b) hg2 (fun q hq=>by injection hq with hq;exact hq.symm)) (fun _ _ h=>h)⟩
 ·rw[hq] at HN
  go_enter Tryz.func156,Tryz.ntmps156
  go_wp2_with (go_at_call 157;refine HN.o.mono ?_;rintro e w1 ⟨rfl,hu⟩;have HU:=mK hu;have HC1:=mK ((hu.cell hsb (fun h=>h)).trans hc);clear hu;apply As.o)
  refine⟨?_⟩
  have c1:=HC1.o
  have HD1:As (w1.ownsMap Tryz.prog 9 (plainElem Tryz.prog 4) b n D):=⟨by
   obtain⟨es,clock,h1,h2⟩:=HD.o
   exact⟨es,clock,by rw[HU.o.block b (lB h1) (fun h=>h)];exact h1,h2⟩⟩
  go_wp2_with (first | (at_lookup;refine wpList_lookup_own_bool _ (by rfl) _ _ 202 rfl 9 4 keyed_str Tryz.underlying202 Tryz.underlying4 (HZ.o _) b n D rfl HD1.o _ _ rfl HK.o (S s) (HSS.o s) ?_) | (at_mapUpdate;refine wpList_mapUpdate_own _ rfl _ _ _ 202 rfl 9 4 keyed_str Tryz.underlying202 _ b n D rfl HD1.o (by unfold maxLen;omega) _ _ _ rfl rfl HK.o _ [] (plainElem_bool Tryz.underlying4 true) ?_;intro w2 hown2 hg2))
  go_ret
  exact⟨by simp;try rfl,⟨_,hown2,fun x=>StrM.put (World.ownsMap.isMap HD.o) HSS.o s x⟩,(HU.o.mono (fun _ _ h=>h.elim)).trans (Upd.x3o (S:=fun q=>q=b) hg2 (fun q hq=>by injection hq with hq;exact hq.symm)) (fun _ _ h=>h)⟩
theorem names_calls {Bg:Option Addr} {d:Nat} {l:List Spec} {g:List Grp} (hr:specR.row w F A l) (hg:grpR.row w G Bg g) (hl:l.length<=1000) (hgl:g.length<=1000) (hls:∀ x ∈ l,x.name.size<=1048576 * 4) (hgs:∀ x ∈ g,x.name.size<=1048576 * 4) :
 Calls Tryz.prog 119 #[.slice A l.length c,.slice Bg g.length d] w fun r w'=>r=.returned (.bool (namesB l g))/\Pure w w':=by
 have HR:=mK hr
 have HG:=mK hg
 have HLS:=mK hls
 have HGS:=mK hgs
 have HNB:=mK (show namesB l g=x3x (l.map (·.name) ++ g.map (·.name)) (fun x=>decide (x=x0u)) from rfl)
 have hmm:=@run_makeMap Tryz.prog
 have HMADE:=mK (World.ownsMap_made (H:=Unit) w Tryz.prog 9 (plainElem Tryz.prog 4))
 have HK:=mK (key_str (s:=x0u) (by decide))
 clear hr hg hls hgs
 go_enter Tryz.func119,Tryz.ntmps119
 go_wp2_with (refine wpList_insert_own' _ rfl _ _ _ 202 rfl 9 4 keyed_str Tryz.underlying202 _ w.heap.size 0 _ rfl HMADE.o (by unfold maxLen;omega) _ _ _ rfl rfl HK.o _ [] (plainElem_bool Tryz.underlying4 true) (fun w1 hown1 hg1=>As.o ?_))
 refine⟨?_⟩
 have hset1:StrM w1 w.heap.size 1 (fun x=>decide (x=x0u)):=⟨_,hown1,fun x=>by
  have:=StrM.put (S:=fun _=>false) (D:=.map []) (World.ownsMap.isMap HMADE.o) (fun _=>rfl) x0u x
  rw[this]
  simp⟩
 have hup1:Pure w w1:=(Upd.alloc1 (fun _=>False) w (.map #[] 0)).trans (Upd.x3o (S:=fun q=>q=w.heap.size) hg1 (fun q hq=>by injection hq with hq;exact hq.symm)) (fun q hq h=>by omega)
 have hz1:w.heap.size < w1.heap.size:=hset1.lt
 have HST:=mK (hset1.kept (Upd.alloc1 (fun _=>False) w1 (.cells #[.map (some w.heap.size)] 202)) (fun h=>h))
 have hsb0:=heap_alloc_new w1 (.cells #[.map (some w.heap.size)] 202)
 have HSB:As ((w1.alloc (.cells #[.map (some w.heap.size)] 202)).cell? ⟨w1.heap.size,0,none⟩=some (.map (some w.heap.size))):=⟨by unfold World.cell?;simp only[hsb0];rfl⟩
 have HPW:=mK (hup1.alloc (.cells #[.map (some w.heap.size)] 202))
 clear hset1 hup1 hown1 hg1 hsb0
 go_wp2
 go_loopg [16] l.length (fun gg i wr=>∃ (k n:Nat) (S:ByteArray->Bool),k+gg=l.length/\i=.int .i64 k/\n=k+1/\As (NamR w w.heap.size w1.heap.size n S wr/\x3x ((l.map (·.name) ++ g.map (·.name)).drop k) S=namesB l g))
 case atStart=>exact⟨0,1,_,by omega,rfl,rfl,⟨⟨HST.o,HSB.o,HPW.o⟩,rfl⟩⟩
 case round=>
  obtain⟨k,n,S,hk,rfl,hnk,HP⟩:=hrel
  by_cases hlt:k < l.length
  ·obtain⟨x,hx⟩:=gS hlt
   obtain⟨g1,rfl⟩:=sC1 (by omega:0 < gk)
   obtain⟨bx,ox,rfl,hFb,hbb,d0,d1,d2,d3,d4,d5,d6⟩:=x58 (Rp.x01 HR.o HP.o.1.up) hx
   have hdr:(l.map (·.name) ++ g.map (·.name)).drop k=x.name :: (l.map (·.name) ++ g.map (·.name)).drop (k+1):=by
    have hg0:(l.map (·.name) ++ g.map (·.name))[k]?=some x.name:=by rw[List.getElem?_append_left (by simpa using hlt),List.getElem?_map,hx];rfl
    obtain⟨hl0,he0⟩:=List.getElem?_eq_some_iff.1 hg0
    rw[List.drop_eq_getElem_cons hl0,he0]
   have hfa:=HP.o.2
   rw[hdr] at hfa
   have HFA:=mK hfa
   have hsbl:w1.heap.size < wr.heap.size:=World.block_lt_of_cell? wr _ HP.o.1.c
   have HFR:=mK (fresh_calls (sb:=w1.heap.size) (b:=w.heap.size) (s:=x.name) (HP.o.1.set.kept (Upd.alloc1 (fun _=>False) wr (.cells #[.string x.name,.string x.expr,.bool x.leaf,.int .i64 x.marks,.int .i64 x.least,.int .i64 x.most,.bool x.lines] 34)) (fun h=>h)) (((Upd.alloc1 (fun _=>False) wr (.cells #[.string x.name,.string x.expr,.bool x.leaf,.int .i64 x.marks,.int .i64 x.least,.int .i64 x.most,.bool x.lines] 34)).cell hsbl (fun h=>h)).trans HP.o.1.c) (by omega) (HLS.o x (List.mem_of_getElem? hx)) (by omega))
   have HK:=mK hk
   have HHS:=mK hx
   clear hk hx hdr hfa
   cases hq:(nameB x.name && !S x.name)
   ·rw[hq] at HFR
    have HQ:=mK (show namesB l g=false by rw[<- HFA.o];simp only[x3x,hq,Bool.false_and])
    clear hq
    go_wp2_with (go_at_call 156;refine HFR.o.mono ?_;rintro e w2 ⟨rfl,hs,hu⟩;have HU:=mK hu;clear hu hs)
    go_ret
    exact⟨by rw[HQ.o];rfl,(HP.o.1.up.alloc _).trans HU.o (fun q hq h=>by omega)⟩
   ·rw[hq] at HFR
    have HQ:=mK (show x3x ((l.map (·.name) ++ g.map (·.name)).drop (k+1)) (fun y=>S y || decide (y=x.name))=namesB l g by rw[<- HFA.o];simp only[x3x,hq,Bool.true_and])
    clear hq
    go_wp2_with (go_at_call 156;refine HFR.o.mono ?_;rintro e w2 ⟨rfl,hs,hu⟩;have HS2:=mK hs;have HU:=mK hu;clear hu hs)
    go_roundg g1
    case measure=>omega
    case rel=>exact⟨k+1,n+1,_,by have:=HK.o;omega,by go_num,by omega,⟨HP.o.1.step (by omega) (Nat.le_refl _) _ HS2.o HU.o,HQ.o⟩⟩
  ·obtain rfl:k=l.length:=by omega
   have HP':=mK HP.o
   go_wp2
   go_loopg [28] g.length (fun gg i wr=>∃ (k n:Nat) (S:ByteArray->Bool),k+gg=g.length/\i=.int .i64 k/\n=(l.length+k)+1/\As (NamR w w.heap.size w1.heap.size n S wr/\x3x ((l.map (·.name) ++ g.map (·.name)).drop (l.length+k)) S=namesB l g))
   case atStart=>exact⟨0,n,S,by omega,rfl,by omega,HP⟩
   case round=>
    obtain⟨k,n,S,hk,rfl,hnk,HP⟩:=hrel
    by_cases hlt:k < g.length
    ·obtain⟨x,hx⟩:=gS hlt
     obtain⟨g1,rfl⟩:=sC1 (by omega:0 < gk)
     obtain⟨bx,ox,A1x,c1x,rfl,hFb,hbb,d0,d1,_,_⟩:=grp_at (Rp.x01 HG.o HP.o.1.up) hx
     have hdr:(l.map (·.name) ++ g.map (·.name)).drop (l.length+k)=x.name :: (l.map (·.name) ++ g.map (·.name)).drop ((l.length+k)+1):=by
      have hg0:(l.map (·.name) ++ g.map (·.name))[(l.length+k)]?=some x.name:=by rw[List.getElem?_append_right (by simp),List.length_map,Nat.add_sub_cancel_left,List.getElem?_map,hx];rfl
      obtain⟨hl0,he0⟩:=List.getElem?_eq_some_iff.1 hg0
      rw[List.drop_eq_getElem_cons hl0,he0]
     have hfa:=HP.o.2
     rw[hdr] at hfa
     have HFA:=mK hfa
     have hsbl:w1.heap.size < wr.heap.size:=World.block_lt_of_cell? wr _ HP.o.1.c
     have HFR:=mK (fresh_calls (sb:=w1.heap.size) (b:=w.heap.size) (s:=x.name) (HP.o.1.set.kept (Upd.alloc1 (fun _=>False) wr (.cells #[.string x.name,.slice A1x x.types.length c1x] 85)) (fun h=>h)) (((Upd.alloc1 (fun _=>False) wr (.cells #[.string x.name,.slice A1x x.types.length c1x] 85)).cell hsbl (fun h=>h)).trans HP.o.1.c) (by omega) (HGS.o x (List.mem_of_getElem? hx)) (by omega))
     have HK:=mK hk
     have HHS:=mK hx
     clear hk hx hdr hfa
     cases hq:(nameB x.name && !S x.name)
     ·rw[hq] at HFR
      have HQ:=mK (show namesB l g=false by rw[<- HFA.o];simp only[x3x,hq,Bool.false_and])
      clear hq
      go_wp2_with (go_at_call 156;refine HFR.o.mono ?_;rintro e w2 ⟨rfl,hs,hu⟩;have HU:=mK hu;clear hu hs)
      go_ret
      exact⟨by rw[HQ.o];rfl,(HP.o.1.up.alloc _).trans HU.o (fun q hq h=>by omega)⟩
     ·rw[hq] at HFR
      have HQ:=mK (show x3x ((l.map (·.name) ++ g.map (·.name)).drop ((l.length+k)+1)) (fun y=>S y || decide (y=x.name))=namesB l g by rw[<- HFA.o];simp only[x3x,hq,Bool.true_and])
      clear hq
      go_wp2_with (go_at_call 156;refine HFR.o.mono ?_;rintro e w2 ⟨rfl,hs,hu⟩;have HS2:=mK hs;have HU:=mK hu;clear hu hs)
      go_roundg g1
      case measure=>omega
      case rel=>exact⟨k+1,n+1,_,by have:=HK.o;omega,by go_num,by omega,⟨HP.o.1.step (by omega) (Nat.le_refl _) _ HS2.o HU.o,HQ.o⟩⟩
    ·obtain rfl:k=g.length:=by omega
     have HQ:=mK (show namesB l g=true by
      rw[<- HP.o.2,List.drop_eq_nil_of_le (by simp)]
      rfl)
     go_wp2
     go_ret
     exact⟨by rw[HQ.o];rfl,HP.o.1.up⟩
end Go.Proofs.YtofjodppljnlaaaGreatDoor
namespace Go.Proofs.YtofjodppljnlaaaGreatDoor
open Go.RowKit
/-- A text that is read, up to a place. -/
def TB (w:World) (tb:Nat) (s:ByteArray) (k:Nat):Prop:=w.heap[tb]?=some (.cells #[.string s,.int .i64 k] 207 (0,0))
theorem TB.pure {tb:Nat} {s:ByteArray} {k:Nat} (h:TB w tb s k) (hu:Pure w w1):TB w1 tb s k:=(hu.block _ (lB h) (fun h=>h)).trans h
theorem TB.cells {tb:Nat} {s:ByteArray} {k:Nat} (h:TB w tb s k):(w.cell? ⟨tb,0,none⟩=some (.string s)/\w.cell? ⟨tb,1,none⟩=some (.int .i64 k))/\w.frozen? ⟨tb,1,none⟩=false/\tb < w.heap.size:=by
 have h':w.heap[tb]?=some (.cells #[.string s,.int .i64 k] 207 (0,0)):=h
 refine⟨⟨?_,?_⟩,?_,(lB h)⟩
 ·unfold World.cell?;simp only[h'];rfl
 ·unfold World.cell?;simp only[h'];rfl
 ·simp[World.frozen?,h']
theorem TB.set {tb:Nat} {s:ByteArray} {k:Nat} (h:TB w tb s k) (m:Nat):TB (w.setCell ⟨tb,1,none⟩ (.int .i64 m)) tb s m:=by
 have h':w.heap[tb]?=some (.cells #[.string s,.int .i64 k] 207 (0,0)):=h
 unfold TB
 simp[World.setCell,Array.getElem?_modify,h']
theorem next_end {tb:Nat} {s:ByteArray} (h:TB w tb s s.size) (hs:s.size<=1000) :
 Calls Tryz.prog 179 #[.pointer (some ⟨tb,0,none⟩)] w fun r w'=>r=.returned (.int .u8 0)/\Pure w w':=by
 have HT:=mK h
 have hlt:¬ ((s.size:Int) < (s.size:Int)):=by omega
 have hlt2:decide (s.size < s.size)=false:=by simp
 have heq2:(s.size == s.size)=true:=by simp
 clear h
 go_enter Tryz.func179,Tryz.ntmps179
 go_wp2
 go_loopg [] 0 (fun g wr=>As (wr=w))
 case atStart=>exact⟨rfl⟩
 case round=>
  obtain rfl:=hrel.o
  obtain⟨⟨c0,c1⟩,f1,htb⟩:=HT.o.cells
  have c0d:wr.drew.cell? ⟨tb,0,none⟩=some (.string s):=c0
  have c1d:wr.drew.cell? ⟨tb,1,none⟩=some (.int .i64 s.size):=c1
  go_wp2
  refine wp_region_held_drew (S:=(fun v=>v.cell? ⟨tb,0,none⟩=some (.string s)/\v.cell? ⟨tb,1,none⟩=some (.int .i64 s.size))) (by kernel_rfl) ?_ (fun hHeld=>?_)
  ·exact⟨c0d,c1d⟩
  refine zH 0 ?_
  refine zH 1 ?_
  refine zH 2 ?_
  refine zH 3 ?_
  (try simp only[Act.put,sA,sB,sC])
  refine zH 4 ?_
  refine zH 5 ?_
  refine zH 6 ?_
  refine zH 7 ?_
  (try simp only[Act.put,sA,sB,sC])
  refine zH 8 ?_
  refine zH 9 ?_
  refine zH 10 ?_
  refine sH 11 ?_
  (try simp only[Act.put,sA,sB,sC])
  refine sH 12 ?_
  refine sH 13 ?_
  refine sH 14 ?_
  refine sH 15 ?_
  (try simp only[Act.put,sA,sB,sC])
  refine sH 16 ?_
  refine sH 17 ?_
  refine sH 18 ?_
  refine sH 19 ?_
  (try simp only[Act.put,sA,sB,sC])
  refine sH 20 ?_
  refine zH 21 ?_
  refine wpAnyH_done (by kernel_rfl) ?_ _
  go_wp2
  refine wp_region_held_drew (S:=(fun v=>v.cell? ⟨tb,0,none⟩=some (.string s)/\v.cell? ⟨tb,1,none⟩=some (.int .i64 s.size))) (by kernel_rfl) ?_ (fun hHeld=>?_)
  ·exact⟨c0d,c1d⟩
  refine zH 0 ?_
  refine zH 1 ?_
  (try simp only[Act.put,sA,sB,sC])
  refine zH 2 ?_
  refine zH 3 ?_
  refine zH 4 ?_
  refine zH 5 ?_
  (try simp only[Act.put,sA,sB,sC])
  refine zH 6 ?_
  refine zH 7 ?_
  refine zH 8 ?_
  refine zH 9 ?_
  (try simp only[Act.put,sA,sB,sC])
  refine wpAnyH_done (by kernel_rfl) ?_ _
  go_wp2
  go_ret
  exact⟨rfl,(rU.drew).drew⟩
theorem set3U (w:World) (rb:Nat) (y0 y1 y2:Value):Upd (fun k=>k=rb) w (((w.setCell ⟨rb,0,none⟩ y0).setCell ⟨rb,1,none⟩ y1).setCell ⟨rb,2,none⟩ y2):=
 (((Upd.refl (fun k=>k=rb) w).setCell (p:=⟨rb,0,none⟩) (fun _=>rfl) _).setCell (p:=⟨rb,1,none⟩) (fun _=>rfl) _).setCell (p:=⟨rb,2,none⟩) (fun _=>rfl) _
theorem x11 {b:Nat} {x0 x1 x2:Value} {t:TypeId} (h:w.heap[b]?=some (.cells #[x0,x1,x2] t (0,0))) :
 (w.cell? ⟨b,0,none⟩=some x0/\w.cell? ⟨b,1,none⟩=some x1/\w.cell? ⟨b,2,none⟩=some x2)/\(w.frozen? ⟨b,0,none⟩=false/\w.frozen? ⟨b,1,none⟩=false/\w.frozen? ⟨b,2,none⟩=false)/\b < w.heap.size:=by
 refine⟨⟨?_,?_,?_⟩,⟨?_,?_,?_⟩,(lB h)⟩
 all_goals first | (unfold World.cell?;simp only[h];rfl) | simp[World.frozen?,h]
/-- A name in a text: from k to m. -/
structure NameIn (s:ByteArray) (k m:Nat):Prop where
 lt:k < m
 le:m<=s.size
 small:s.size<=1000
 in_:∀ i,k<=i->i < m->nameB (s.extract i (i+1))=true
 o:m < s.size->nameB (s.extract m (m+1))=false
theorem sign_is {c kk:Int} (h:(c=42/\kk=4)\/(c=43/\kk=5)\/(c=63/\kk=6)\/(c=0/\kk=0)) (w:World):Calls Tryz.prog 221 #[.int .u8 c] w fun r w'=>r=.returned (.int .i64 kk)/\w=w':=by
 rcases h with ⟨rfl,rfl⟩ | ⟨rfl,rfl⟩ | ⟨rfl,rfl⟩ | ⟨rfl,rfl⟩
 all_goals
  go_enter Tryz.func221,Tryz.ntmps221
  go_wp2
  go_ret
  exact⟨rfl,rfl⟩
/-- A text: a name, and one sign. -/
structure x2r (s:ByteArray) (m:Nat) (kk:Int):Prop where
 nm:NameIn s 0 m
 len:m+1=s.size
 sg:∀ h:m < s.size,((s[m].toNat:Int)=42/\kk=4)\/((s[m].toNat:Int)=43/\kk=5)\/((s[m].toNat:Int)=63/\kk=6)
 nb:nameB (s.extract 0 m)=true
 c0:∀ h:0 < s.size,(s[0] == 40)=false/\(s[0] == 32)=false/\1<=s[0].toNat
/-- A name in a block of its own. -/
abbrev NameB (w:World) (nb:Nat) (nm:ByteArray):Prop:=w.heap[nb]?=some (.cells #[.int .i64 1,.string nm,.slice none 0 0] 92 (0,0))
/-- What lies there behind the sign. -/
structure PartR (w:World) (tb:Nat) (s:ByteArray) (m:Nat) (kk:Int) (eb nb:Nat) (wr:World):Prop where
 ht:TB wr tb s s.size
 nm:NameB wr nb (s.extract 0 m)
 le:w.heap.size < nb
 eb:wr.heap[eb]?=some (.cells #[.int .i64 kk,.string ⟨#[]⟩,.slice (some ⟨nb,0,none⟩) 1 1] 92 (0,0))
 rb:wr.heap[w.heap.size]?=some (.cells #[.int .i64 0,.string ⟨#[]⟩,.slice none 0 0] 92 (0,0))
 up:Upd (fun q=>q=tb) w wr
theorem ex_info:(Tryz.prog.info? 92).map (fun i=>(i.zero,i.size,i.bytes))=some (some (.agg #[.int .i64 0,.string ⟨#[]⟩,.slice none 0 0]),3,48):=by kernel_rfl
/-- What a name with a sign gives. -/
abbrev PartPost (w:World) (tb:Nat) (s:ByteArray) (m:Nat) (kk:Int) (r:Ending) (w':World):Prop:=∃ nb,r=.returned (.tuple #[.agg #[.int .i64 kk,.string ⟨#[]⟩,.slice (some ⟨nb,0,none⟩) 1 1],.nilIface])/\NameB w' nb (s.extract 0 m)/\w.heap.size<=nb/\TB w' tb s s.size/\Upd (fun q=>q=tb) w w'
theorem name_row {nb:Nat} {nm:ByteArray} (h:NameB w nb nm) (hF:F nb):exR.row w F (some ⟨nb,0,none⟩) [.mk 1 nm []]:=
 Rp.x1k h hF (Reps.single (R:=exR.rep _ _) (size:=exR.sz) (ExRep.of_parts (l:=[]) (Nat.le_refl _) (.inl rfl)) rfl)
theorem name_rep {nb:Nat} {nm:ByteArray} {kk:Int} (h:NameB w nb nm) (hF:F nb):exR.rep w F (.mk kk ⟨#[]⟩ [.mk 1 nm []]) [.int .i64 kk,.string ⟨#[]⟩,.slice (some ⟨nb,0,none⟩) 1 1]:=
 ExRep.of_parts (l:=[.mk 1 nm []]) (Nat.le_refl _) (name_row h hF)
theorem moreRow {tb mb:Nat} {s:ByteArray} (h:TB w tb s s.size) (hc:w.cell? ⟨mb,0,none⟩=some (.pointer (some ⟨tb,0,none⟩))) (hs:s.size<=1000) :
 Calls Tryz.prog 218 #[.pointer (some ⟨mb,0,none⟩)] w fun r w'=>r=.returned (.bool false)/\Pure w w':=by
 have HN:=mK (next_end h hs)
 clear h
 go_enter Tryz.func218,Tryz.ntmps218
 go_wp2_with (go_at_call 179;refine HN.o.mono ?_;rintro e w1 ⟨rfl,hu⟩)
 go_ret
 exact⟨rfl,hu⟩
theorem moreChoice {tb mb:Nat} {s:ByteArray} (h:TB w tb s s.size) (hc:w.cell? ⟨mb,0,none⟩=some (.pointer (some ⟨tb,0,none⟩))) (hs:s.size<=1000) :
 Calls Tryz.prog 209 #[.pointer (some ⟨mb,0,none⟩)] w fun r w'=>r=.returned (.bool false)/\Pure w w':=by
 have HN:=mK (next_end h hs)
 clear h
 go_enter Tryz.func209,Tryz.ntmps209
 go_wp2_with (go_at_call 179;refine HN.o.mono ?_;rintro e w1 ⟨rfl,hu⟩)
 go_ret
 exact⟨rfl,hu⟩
theorem x31 {e:Nat} {v:Value} {xs:List Int} (h:intR.own e w F v xs):intR.own e w (fun k=>v.ownBlock=some k) v xs:=by
 obtain⟨inner,h1,h2,h3⟩:=h
 exact⟨inner,h1,fun _ hk=>hk,h3⟩
theorem x3h {e:Nat} {v:Value} {xs:List Int} (h:intR.own e w F v xs) (hG:∀ k,v.ownBlock=some k->G k):intR.own e w G v xs:=by
 obtain⟨inner,h1,h2,h3⟩:=h
 exact⟨inner,h1,hG,h3⟩
def posI (v:Int):Nat->List Int->Int
 | _,[]=>-1
 | k,x :: r=>if x=v then (k:Int) else posI v (k+1) r
theorem posI_mem (v:Int) (l:List Int) (k:Nat):decide (posI v k l >= 0)=decide (v ∈ l):=by
 induction l generalizing k with
 | nil=>simp[posI]
 | cons x r ih=>
   by_cases h:x=v
   ·simp[posI,h]
   ·have h':¬ v=x:=fun e=>h e.symm
    simp[posI,h,h',ih]
theorem int_drop {l:List Int} {k:Nat} {x:Int} (h:l[k]?=some x):l.drop k=x :: l.drop (k+1):=by
 obtain⟨hk,he⟩:=List.getElem?_eq_some_iff.1 h
 rw[List.drop_eq_getElem_cons hk,he]
theorem Index_calls {l:List Int} (v:Int) (hr:intR.row w F A l) (hb:l.length<=1048576 * 4) :
 Calls Tryz.prog 195 #[.slice A l.length c,.int .i64 v] w fun r w'=>r=.returned (.int .i64 (posI v 0 l))/\w=w':=by
 have HR:=mK hr
 clear hr
 go_enter Tryz.func195,Tryz.ntmps195
 go_wp2
 go_loopg [8] l.length (fun g i wr=>∃ k:Nat,k+g=l.length/\i=.int .i64 k/\As (posI v k (l.drop k)=posI v 0 l)/\w=wr)
 case atStart=>exact⟨0,by omega,rfl,⟨rfl⟩,rfl⟩
 case round=>
  obtain⟨k,hk,rfl,HT,rfl⟩:=hrel
  by_cases hlt:k < l.length
  ·obtain⟨x,hx⟩:=gS hlt
   obtain⟨b,o,rfl,hF,hbl,d0⟩:=int_at HR.o hx
   obtain⟨g1,rfl⟩:=sC1 (by omega:0 < gk)
   rw[int_drop hx] at HT
   have HK:=mK hk
   clear hk hx
   by_cases hq:x=v
   ·have HV:As ((k:Int)=posI v 0 l):=⟨by rw[<- HT.o,posI,if_pos hq]⟩
    have e1:(v == x)=true:=by simp[hq]
    clear HT
    go_wp2
    go_ret
    exact⟨by rw[<- HV.o];rfl,rfl⟩
   ·have HV:As (posI v (k+1) (l.drop (k+1))=posI v 0 l):=⟨by rw[<- HT.o,posI,if_neg hq]⟩
    have e1:(v == x)=false:=by simp;exact fun e=>hq e.symm
    clear HT
    go_wp2
    go_roundg g1
    case measure=>omega
    case rel=>exact⟨k+1,by have:=HK.o;omega,by go_num,HV,rfl⟩
  ·have hkl:k=l.length:=by omega
   subst hkl
   rw[List.drop_length] at HT
   have HV:As ((-1:Int)=posI v 0 l):=⟨HT.o⟩
   clear HT
   go_wp2
   go_ret
   exact⟨by rw[<- HV.o];rfl,rfl⟩
theorem x4z {l:List Int} (v:Int) (hr:intR.row w F A l) (hb:l.length<=1048576 * 4) :
 Calls Tryz.prog 167 #[.slice A l.length c,.int .i64 v] w fun r w'=>r=.returned (.bool (decide (v ∈ l)))/\w=w':=by
 have HC:=mK (Index_calls (c:=c) v hr hb)
 have HV:=mK (posI_mem v l 0)
 clear hr
 go_enter Tryz.func167,Tryz.ntmps167
 go_wp2_with (go_at_call 195;refine HC.o.mono ?_;rintro e w1 ⟨rfl,rfl⟩)
 go_ret
 exact⟨by rw[<- HV.o];rfl,rfl⟩
theorem x3f {l:List Int} (hr:intR.row w F A l) (hb:l.length<=1048576 * 4) :
 Calls Tryz.prog 123 #[.slice A l.length c] w fun r w'=>∃ v,r=.returned v/\intR.own 3 w' (fun k=>w.heap.size<=k) v l/\Pure w w':=by
 have HR:=mK hr
 have heqn:=fun (W:World) (a:Option Addr) (n c:Nat)=>Lib.run_eql_slice_nil (P:=Tryz.prog) W 83 3 a n c 0 0 Tryz.underlying83
 cases A with
 | none=>
   have hl:l=[]:=by
    rcases hr with h | ⟨_,_,h,_⟩
    ·exact h
    ·cases h
   subst hl
   clear hr
   go_enter Tryz.func123,Tryz.ntmps123
   go_wp2
   go_ret
   exact⟨_,rfl,Rp.x0v _ _ _ _,Upd.refl _ _⟩
 | some ad=>
   clear hr
   have HO:As (intR.own 3 (w.alloc (.cells #[] 3)) (fun k=>w.heap.size<=k) (.slice (some ⟨w.heap.size,0,none⟩) 0 0) []):=
    ⟨[],⟨by simp,.inr ⟨w.heap.size,0,#[],rfl,Nat.zero_le _,heap_alloc_new w _,Nat.le_refl _,by simp[maxLen],by simp,by simp⟩⟩,fun k hk=>by simp[Value.ownBlock] at hk;omega,Reps.nil _ _⟩
   go_enter Tryz.func123,Tryz.ntmps123
   go_wp2_with (at_builtin;refine Rp.x1i intR (c:=c) HO.o (Rp.x1q (Rp.x01 HR.o aU) (fun _ _ h=>h)) (Fz:=fun _=>False) (fun _ h=>h.elim) rfl _ _ 83 (.int .i64 0) 8 rfl Tryz.underlying83 x3n rfl (by decide) (by decide) (by rfl) (by rfl) (by simp;omega) ?_;intro v1 w1 ho1 hu1 hat;have HO1:=mK ho1;have HU1:=mK hu1;have HAT:=mK hat;clear ho1 hu1 hat)
   go_ret
   exact⟨v1,rfl,x3h HO1.o (fun k hk=>by
    rcases HAT.o with h | ⟨b,hb,hle⟩
    ·rw[h] at hk;simp[Value.ownBlock] at hk;omega
    ·rw[hb] at hk;injection hk with hk;simp at hle;omega),Upd.trans aU HU1.o (fun k hk h=>by simp[Value.ownBlock] at h;omega)⟩
/-- append(v, x) of one element at a drawn region's step: x's cells lie in the newest block. -/
theorem Rp.x37 {α:Type} (d:Rp α) {P:Program} {ops:Array Oper} {o:Oper} {a:Act} {Q:Exit->Act->World->Prop} {K:Act->World->Prop} {E:Prop} {e:Nat} {W:World} {F Fp G:Nat->Prop} {v:Value} {xs:List α} (HO:d.own e W F v xs) (p:α) (cs:List Value) (hp:d.rep W Fp p cs)
 (hFp:∀ k,Fp k->k < W.heap.size->G k/\some k ≠ v.ownBlock) (hFG:∀ k,F k->G k) (hnew:∀ k,W.heap.size<=k->G k)
 (hgd:o.guard=none) (s x:Operand) (t:TypeId) (z:Value) (bytes:Nat)
 (ho:o.op=.call { callee:=.builtin .append,args:=#[s,x],argTypes:=#[t,t] })
 (ht:P.underlying t=some (.slice e)) (hinfo:(P.info? e).map (fun i=>(i.zero,i.size,i.bytes))=some (some z,d.sz,bytes)) (hz:z.cells.size=d.sz) (hs0:0 < d.sz) (hb0:0 < bytes)
 (hs:a.eval s=v) {n:Nat} (hnb:n=W.heap.size) (hx:a.eval x=.slice (some ⟨n,0,none⟩) 1 1) (hl:(xs.length+1) * bytes<=140737488355328)
 (h:∀ v1 w1,d.own e w1 G v1 (xs ++ [p])->Upd (fun k=>v.ownBlock=some k) W w1->K (a.put o.dst v1) w1) :
 if Region.wanted o (yielded ops a.tmps)=true then Oper.wp P o a (W.alloc (.cells cs.toArray e)) K Q else E:=by
 have hp1:d.rep (W.alloc (.cells cs.toArray e)) (fun k=>Fp k/\k < W.heap.size) p cs:=d.move (fun k hk hl=>⟨⟨hk,hl⟩,by simp;omega,Below.heap_alloc W _ k hl⟩) hp
 refine Rp.x1g d (c:=1) (Rp.x1s HO (.cells cs.toArray e)) (Rp.x5j hp1 (heap_alloc_new W _)) (fun k hk _=>(hFp k hk.1 hk.2).2) hgd s x t z bytes ho ht hinfo hz hs0 hb0 hs (by rw[hx,hnb];rfl) (by simpa using hl) ?_
 intro v1 w1 ho1 hu1 hat
 refine h v1 w1 (Rp.x3a ho1 (fun k hk=>?_)) (aU.tt hu1)
 rcases hk with hk | hk | hk
 ·exact hFG k hk.1
 ·exact(hFp k hk.1 hk.2).1
 ·rcases hat with hat | ⟨b,hb,hle⟩
  ·rw[hat] at hk
   exact hFG k (Rp.x03 HO k hk).1
  ·rw[hb] at hk
   injection hk with hk
   have h9:W.heap.size+1<=b:=by simpa using hle
   exact hnew k (by omega)
/-- A slice's literal of one element: its own row. -/
theorem Rp.own_lit {α:Type} (d:Rp α) {e:Nat} {W:World} {Fp G:Nat->Prop} (p:α) (cs:List Value) (hp:d.rep W Fp p cs) (hFp:∀ k,Fp k->k < W.heap.size->G k) (hnew:G W.heap.size) :
 d.own e (W.alloc (.cells cs.toArray e)) G (.slice (some ⟨W.heap.size,0,none⟩) 1 1) [p]:=by
 have hl:=d.len hp
 refine⟨cs,⟨by simp[hl],.inr ⟨W.heap.size,1,cs.toArray,rfl,Nat.zero_le _,heap_alloc_new W _,Nat.le_refl _,by unfold maxLen;omega,by simp[hl],?_⟩⟩,?_,Reps.single (d.move (fun k hk hl=>?_) hp) hl⟩
 ·simp only[List.length_singleton,Nat.one_mul]
  rw[<- hl,List.take_length]
 ·intro k hk
  injection hk with hk
  rw[<- hk]
  exact hnew
 ·refine⟨⟨hFp k hk hl,?_⟩,by simp;omega,Below.heap_alloc W _ k hl⟩
  intro h
  injection h with h
  have h9:k=W.heap.size:=h
  omega
abbrev ruleR:Rp (Spec × Ex):=Rp.pair specR exR
theorem grp_info:(Tryz.prog.info? 85).map (fun i=>(i.zero,i.size,i.bytes))=some (some (.agg #[.string ⟨#[]⟩,.slice none 0 0]),2,40):=by kernel_rfl
/-- The schema while its groups are told. -/
structure NewG (w0:World) (cb:Nat) (Gv:Value) (gs:List Grp) (wr:World):Prop where
 blk:wr.heap[cb]?=some (.cells #[.slice none 0 0,Gv] 97 (0,0))
 grps:grpR.own 85 wr (fun k=>w0.heap.size<=k/\k ≠ cb) Gv gs
 up:Pure w0 wr
 cbn:w0.heap.size<=cb
theorem NewG.cells {w0 wr:World} {Gv:Value} {gs:List Grp} (h:NewG w0 cb Gv gs wr):wr.cell? ⟨cb,0,none⟩=some (.slice none 0 0)/\wr.cell? ⟨cb,1,none⟩=some Gv/\wr.frozen? ⟨cb,0,none⟩=false/\wr.frozen? ⟨cb,1,none⟩=false/\cb < wr.heap.size:=by
 have hb:=h.blk
 refine⟨?_,?_,?_,?_,(lB hb)⟩
 ·unfold World.cell?;simp only[hb];rfl
 ·unfold World.cell?;simp only[hb];rfl
 ·simp[World.frozen?,hb]
 ·simp[World.frozen?,hb]
theorem NewG.kept {w0 wr:World} {Gv:Value} {gs:List Grp} (h:NewG w0 cb Gv gs wr) (hu:Pure wr w1):NewG w0 cb Gv gs w1:=
 ⟨(hu.block cb h.cells.2.2.2.2 (fun h=>h)).trans h.blk,Rp.x0w h.grps hu (fun _ _ _ h=>h),h.up.tt hu,h.cbn⟩
theorem NewG.next {w0 wr w2:World} {Gv v1:Value} {gs:List Grp} {x:Grp} (h:NewG w0 cb Gv gs wr) (ho:grpR.own 85 w2 (fun k=>w0.heap.size<=k/\k ≠ cb) v1 (gs ++ [x])) (hu:Upd (fun k=>Gv.ownBlock=some k) wr w2) :
 NewG w0 cb v1 (gs ++ [x]) (w2.setCell ⟨cb,1,none⟩ v1):=by
 have hn:¬ Gv.ownBlock=some cb:=fun e=>(Rp.x03 h.grps cb e).1.2 rfl
 have hb2:=(hu.block cb h.cells.2.2.2.2 hn).trans h.blk
 refine⟨by simp[World.setCell,Array.getElem?_modify,hb2],Rp.x0w ho (Upd.x1v (S:=fun q=>q=cb) w2 rfl v1) (fun k _ hk=>hk.2),(h.up.trans hu (fun q hq e=>?_)).setCell (fun hq=>?_) _,h.cbn⟩
 ·have:=(Rp.x03 h.grps q e).1.1
  omega
 ·have:=h.cbn
  simp at hq
  omega
theorem new_fp {wr:World} {q:Nat} {v:Value} {o:Obj} {P:Prop} (hcb:cb < wr.heap.size) (hat:v.ownBlock=some wr.heap.size\/∃ b,v.ownBlock=some b/\(wr.alloc o).heap.size<=b) (hq:(wr.heap.size<=q/\P)\/False\/v.ownBlock=some q):q ≠ cb:=by
 rcases hq with hq | hq | hq
 ·have:=hq.1
  omega
 ·exact hq.elim
 ·rcases hat with h | ⟨b,hb,hle⟩
  ·rw[h] at hq
   injection hq with hq
   omega
  ·rw[hb] at hq
   injection hq with hq
   have h9:wr.heap.size+1<=b:=by simpa using hle
   omega
/-- The schema while its rules are told. -/
structure NewL (w6:World) (cb:Nat) (Lv Gv:Value) (rs:List (Spec × Ex)) (wr:World):Prop where
 blk:wr.heap[cb]?=some (.cells #[Lv,Gv] 97 (0,0))
 rules:ruleR.own 94 wr (fun k=>w6.heap.size<=k) Lv rs
 up:Upd (fun k=>k=cb) w6 wr
 cbl:cb < w6.heap.size
theorem NewL.start {w0 w6:World} {Gv:Value} {gs:List Grp} (h:NewG w0 cb Gv gs w6):NewL w6 cb (.slice none 0 0) Gv [] w6:=
 ⟨h.blk,Rp.x0v _ _ _ _,Upd.refl _ _,h.cells.2.2.2.2⟩
theorem NewL.cells {w6 wr:World} {Lv Gv:Value} {rs:List (Spec × Ex)} (h:NewL w6 cb Lv Gv rs wr):wr.cell? ⟨cb,0,none⟩=some Lv/\wr.cell? ⟨cb,1,none⟩=some Gv/\wr.frozen? ⟨cb,0,none⟩=false/\wr.frozen? ⟨cb,1,none⟩=false/\cb < wr.heap.size:=by
 have hb:=h.blk
 refine⟨?_,?_,?_,?_,(lB hb)⟩
 ·unfold World.cell?;simp only[hb];rfl
 ·unfold World.cell?;simp only[hb];rfl
 ·simp[World.frozen?,hb]
 ·simp[World.frozen?,hb]
theorem NewL.kept {w6 wr:World} {Lv Gv:Value} {rs:List (Spec × Ex)} (h:NewL w6 cb Lv Gv rs wr) (hu:Pure wr w1):NewL w6 cb Lv Gv rs w1:=
 ⟨(hu.block cb h.cells.2.2.2.2 (fun h=>h)).trans h.blk,Rp.x0w h.rules hu (fun _ _ _ h=>h),h.up.trans hu (fun _ _ h=>h.elim),h.cbl⟩
theorem NewL.next {w6 wr w2:World} {Lv Gv v1:Value} {rs:List (Spec × Ex)} {x:Spec × Ex} (h:NewL w6 cb Lv Gv rs wr) (ho:ruleR.own 94 w2 (fun k=>w6.heap.size<=k) v1 (rs ++ [x])) (hu:Upd (fun k=>Lv.ownBlock=some k) wr w2) :
 NewL w6 cb v1 Gv (rs ++ [x]) (w2.setCell ⟨cb,0,none⟩ v1):=by
 have hcl:=h.cbl
 have hn:¬ Lv.ownBlock=some cb:=fun e=>by
  have:=(Rp.x03 h.rules cb e).1
  omega
 have hb2:=(hu.block cb h.cells.2.2.2.2 hn).trans h.blk
 refine⟨by simp[World.setCell,Array.getElem?_modify,hb2],Rp.x0w ho (Upd.x1v (S:=fun q=>q=cb) w2 rfl v1) (fun k _ hk e=>by omega),(h.up.trans hu (fun q hq e=>?_)).setCell (fun _=>rfl) _,h.cbl⟩
 have:=(Rp.x03 h.rules q e).1
 omega
def x24 (s:ByteArray):Spec:=⟨⟨#[]⟩,s,false,0,0,0,false⟩
theorem spec_info:(Tryz.prog.info? 34).map (fun i=>(i.zero,i.size,i.bytes))=some (some (x24 ⟨#[]⟩).val,7,72):=by kernel_rfl
def x14 (l:List Spec):List Grp:=l.mapIdx fun i s=>⟨s.name,[(i:Int)+1]⟩
def x1r (l:List Spec) (g:List Grp):List Grp:=⟨x0u,[0]⟩ :: (x14 l ++ g)
theorem ownGroups_take {l:List Spec} {k:Nat} {x:Spec} (hx:l[k]?=some x):(x14 l).take (k+1)=(x14 l).take k ++ [⟨x.name,[(k:Int)+1]⟩]:=by
 rw[List.take_add_one]
 simp[x14,hx]
theorem x2i (l:List Spec):(x14 l).length=l.length:=by simp[x14]
/-- A schema that New made. -/
def SchR (w:World) (cb:Nat) (rs:List (Spec × Ex)) (gs:List Grp):Prop:=∃ AL cL AG cG,w.heap[cb]?=some (.cells #[.slice AL rs.length cL,.slice AG gs.length cG] 97 (0,0))/\rs.length<=cL/\ruleR.row w (fun _=>True) AL rs/\grpR.row w (fun _=>True) AG gs
theorem SchR.pure {rs:List (Spec × Ex)} {gs:List Grp} (h:SchR w cb rs gs) (hu:Pure w w1):SchR w1 cb rs gs:=by
 obtain⟨AL,cL,AG,cG,h1,h2,h3,h4⟩:=h
 exact⟨AL,cL,AG,cG,(hu.block cb (lB h1) (fun h=>h)).trans h1,h2,Rp.x01 h3 hu,Rp.x01 h4 hu⟩
theorem newGroups_types {l:List Spec} {g:List Grp} (h:∀ x ∈ g,x.name.size<=1048576/\x.types.length<=1000):∀ x ∈ x1r l g,x.types.length<=1048576:=by
 intro x hx
 simp only[x1r,x14,List.mem_cons,List.mem_append,List.mem_mapIdx] at hx
 rcases hx with rfl | ⟨i,hi,rfl⟩ | hx
 ·decide
 ·show 1<=1048576
  decide
 ·have:=(h x hx).2
  omega
theorem ex_rep {e:Ex} (hl:e.l.length<=c) (h:exR.row w F A e.l):exR.rep w F e [.int .i64 e.k,.string e.name,.slice A e.l.length c]:=by
 cases e
 exact ExRep.of_parts hl h
theorem rule_info:(Tryz.prog.info? 94).map (fun i=>(i.zero,i.size,i.bytes))=some (some (.agg #[.string ⟨#[]⟩,.string ⟨#[]⟩,.bool false,.int .i64 0,.int .i64 0,.int .i64 0,.bool false,.int .i64 0,.string ⟨#[]⟩,.slice none 0 0]),10,120):=by kernel_rfl
/-- A cell of a row of one-cell elements is set. -/
theorem x5b {e:TypeId} {g len cap n:Nat} {xs:List Value} (h:w.ownsRow 0 e 1 (.slice (some ⟨g,0,none⟩) len cap) len xs) (hn:n < len) (u:Value) :
 (w.setCell ⟨g,n,none⟩ u).ownsRow 0 e 1 (.slice (some ⟨g,0,none⟩) len cap) len (xs.set n u):=by
 obtain⟨h1,h2⟩:=h
 refine⟨by simpa using h1,?_⟩
 rcases h2 with ⟨h2,_⟩ | ⟨g',cap',cur,hv,hb,hg,hle,hcm,hcs,htake⟩
 ·cases h2
 ·simp at hv
  obtain⟨rfl,rfl⟩:=hv
  refine .inr ⟨g,cap,cur.setIfInBounds n u,rfl,hb,by simp[World.setCell,Array.getElem?_modify,hg],hle,hcm,by simpa using hcs,?_⟩
  rw[Array.toList_setIfInBounds,<- htake,List.take_set]
/-- Blocks of different element types are two. -/
theorem own_ne {e e':TypeId} {size size' n n':Nat} {v v':Value} {xs xs':List Value} (h:w.ownsRow 0 e size v n xs) (h':w.ownsRow 0 e' size' v' n' xs') (he:e ≠ e'):∀ k,v.ownBlock=some k->v'.ownBlock ≠ some k:=by
 intro k hk hk'
 rcases h.2 with ⟨rfl,_⟩ | ⟨g,cap,cur,rfl,_,hg,_⟩
 ·cases hk
 ·rcases h'.2 with ⟨rfl,_⟩ | ⟨g',cap',cur',rfl,_,hg',_⟩
  ·cases hk'
  ·simp[Value.ownBlock] at hk hk'
   subst hk hk'
   rw[hg] at hg'
   simp at hg'
   exact he hg'.2
theorem x1j {e e':TypeId} {size n b:Nat} {v:Value} {xs:List Value} {cs:Array Value} {fr:Nat × Nat} (h:w.ownsRow 0 e size v n xs) (hb:w.heap[b]?=some (.cells cs e' fr)) (he:e ≠ e'):v.ownBlock ≠ some b:=by
 intro hk
 rcases h.2 with ⟨rfl,_⟩ | ⟨g,cap,cur,rfl,_,hg,_⟩
 ·cases hk
 ·simp[Value.ownBlock] at hk
  subst hk
  rw[hg] at hb
  simp at hb
  exact he hb.2.1
/-- The rows of followers: each its own block. -/
structure Foll (w:World) (M:Nat->Prop) (v:Value) (fs:List (List Int)) (vs:List Value):Prop where
 own:w.ownsRow 0 83 1 v fs.length vs
 inM:∀ k,v.ownBlock=some k->M k
 each:∀ (i:Nat) (u:Value) (x:List Int),vs[i]?=some u->fs[i]?=some x->intR.own 3 w (fun k=>u.ownBlock=some k) u x/\∀ k,u.ownBlock=some k->M k
 two:∀ (i j:Nat) (u u':Value) (k:Nat),vs[i]?=some u->vs[j]?=some u'->i ≠ j->u.ownBlock=some k->u'.ownBlock ≠ some k
/-- A machine at block mb: the types of its places, the followers of each; what it may write lies in M. -/
structure Mach (w:World) (B:Nat) (M:Nat->Prop) (mb:Nat) (ts fs:List (List Int)) (b0 b1 b2 tv fv:Value) (vs:List Value):Prop where
 blk:w.heap[mb]?=some (.cells #[tv,fv,b0,b1,b2] 223 (0,0))
 mbM:M mb
 low:∀ k,M k->B<=k/\k < w.heap.size
 types:intR.slice.own 83 w (fun k=>k < B\/tv.ownBlock=some k) tv ts
 typesM:∀ k,tv.ownBlock=some k->M k
 foll:Foll w M fv fs vs
 apart:∀ k,tv.ownBlock=some k->fv.ownBlock ≠ some k
theorem x4e {S:Nat->Prop} {e:TypeId} {size n:Nat} {v:Value} {xs:List Value} (h:w.ownsRow 0 e size v n xs) (hu:Upd S w w1) (hs:∀ k,v.ownBlock=some k->¬ S k):w1.ownsRow 0 e size v n xs:=by
 refine⟨h.1,?_⟩
 rcases h.2 with hn | ⟨g,cap,cur,rfl,hb,hg,rest⟩
 ·exact .inl hn
 ·refine .inr ⟨g,cap,cur,rfl,hb,?_,rest⟩
  rw[hu.block g (lB hg) (hs g rfl)]
  exact hg
theorem Foll.upd {S M:Nat->Prop} {v:Value} {fs:List (List Int)} {vs:List Value} (h:Foll w M v fs vs) (hu:Upd S w w1) (hs:∀ k,M k->¬ S k):Foll w1 M v fs vs where
 own:=x4e h.own hu (fun k hk=>hs k (h.inM k hk))
 inM:=h.inM
 each:=fun i u x hu' hx=>⟨Rp.x0w (h.each i u x hu' hx).1 hu (fun k _ hk=>hs k ((h.each i u x hu' hx).2 k hk)),(h.each i u x hu' hx).2⟩
 two:=h.two
theorem Mach.upd {S:Nat->Prop} {B:Nat} {M:Nat->Prop} {mb:Nat} {ts fs:List (List Int)} {b0 b1 b2 tv fv:Value} {vs:List Value} (h:Mach w B M mb ts fs b0 b1 b2 tv fv vs) (hu:Upd S w w1) (hs:∀ k,k < w.heap.size->S k->B<=k/\¬ M k):Mach w1 B M mb ts fs b0 b1 b2 tv fv vs where
 blk:=by rw[hu.block mb (h.low mb h.mbM).2 (fun hS=>(hs mb (h.low mb h.mbM).2 hS).2 h.mbM)];exact h.blk
 mbM:=h.mbM
 low:=fun k hk=>⟨(h.low k hk).1,Nat.lt_of_lt_of_le (h.low k hk).2 hu.size⟩
 types:=Rp.x0w h.types hu (fun k hl hk hS=>by
  have:=hs k hl hS
  rcases hk with hk | hk
  ·omega
  ·exact this.2 (h.typesM k hk))
 typesM:=h.typesM
 foll:=h.foll.upd (S:=fun k=>S k/\k < w.heap.size) ⟨hu.os,hu.tape,hu.output,hu.size,fun k hk hn=>hu.block k hk (fun hS=>hn ⟨hS,hk⟩)⟩ (fun k hk hS=>(hs k hS.2 hS.1).2 hk)
 apart:=h.apart
theorem Mach.pure {B:Nat} {M:Nat->Prop} {mb:Nat} {ts fs:List (List Int)} {b0 b1 b2 tv fv:Value} {vs:List Value} (h:Mach w B M mb ts fs b0 b1 b2 tv fv vs) (hu:Pure w w1):Mach w1 B M mb ts fs b0 b1 b2 tv fv vs:=h.upd hu (fun _ _ h=>h.elim)
/-- What join does to the rows. -/
def joinF (fs:List (List Int)) (last first:List Int):List (List Int):=last.foldl (fun fs a=>fs.modify a.toNat (· ++ first)) fs
theorem x49 (fs:List (List Int)) (last first:List Int):(joinF fs last first).length=fs.length:=by
 unfold joinF
 induction last generalizing fs with
 | nil=>rfl
 | cons a r ih=>simp[ih]
theorem joinF_succ {fs:List (List Int)} {last first:List Int} {k:Nat} {a:Int} (ha:last[k]?=some a):joinF fs (last.take (k+1)) first=(joinF fs (last.take k) first).modify a.toNat (· ++ first):=by
 unfold joinF
 rw[List.take_add_one,ha,List.foldl_append]
 rfl
theorem x66 {fs:List (List Int)} {last first:List Int} {b:Nat} (hb:∀ x ∈ fs,x.length<=b):∀ x ∈ joinF fs last first,x.length<=b+last.length * first.length:=by
 unfold joinF
 induction last generalizing fs b with
 | nil=>intro x hx;have:=hb x hx;simp;omega
 | cons a r ih=>
   intro x hx
   have:=ih (fs:=fs.modify a.toNat (· ++ first)) (b:=b+first.length) (fun y hy=>by
    obtain⟨i,hi⟩:=List.getElem?_of_mem hy
    rw[List.getElem?_modify] at hi
    cases hfi:fs[i]? with
    | none=>simp[hfi] at hi
    | some z=>
      have hz:=hb z (List.mem_of_getElem? hfi)
      rw[hfi] at hi
      by_cases he:a.toNat=i
      ·simp[he] at hi
       rw[<- hi,List.length_append]
       omega
      ·simp[he] at hi
       rw[<- hi]
       omega) x hx
   rw[List.length_cons,Nat.add_mul]
   omega
abbrev Grow (M M':Nat->Prop) (lo hi:Nat):Prop:=(∀ k,M k->M' k)/\∀ k,M' k->M k\/(lo<=k/\k < hi)
def JoinRel (w wr:World) (B:Nat) (M:Nat->Prop) (mb:Nat) (ts fs:List (List Int)) (b0 b1 b2 tv:Value):Prop:=
 ∃ M' fv vs,Mach wr B M' mb ts fs b0 b1 b2 tv fv vs/\Grow M M' w.heap.size wr.heap.size/\Upd M w wr
theorem Foll.upd2 {S M M':Nat->Prop} {v:Value} {fs:List (List Int)} {vs:List Value} (h:Foll w M v fs vs) (hu:Upd S w w1) (h1:∀ k,v.ownBlock=some k->¬ S k) (h2:∀ u ∈ vs,∀ k,u.ownBlock=some k->¬ S k) (hM:∀ k,M k->M' k):Foll w1 M' v fs vs where
 own:=x4e h.own hu h1
 inM:=fun k hk=>hM k (h.inM k hk)
 each:=fun i u x hu' hx=>⟨Rp.x0w (h.each i u x hu' hx).1 hu (fun k _ hk=>h2 u (List.mem_of_getElem? hu') k hk),fun k hk=>hM k ((h.each i u x hu' hx).2 k hk)⟩
 two:=h.two
theorem Foll.int {M:Nat->Prop} {v:Value} {fs:List (List Int)} {vs:List Value} (h:Foll w M v fs vs) {u:Value} (hu:u ∈ vs):∃ n inner,w.ownsRow 0 3 1 u n inner/\∀ k,u.ownBlock=some k->M k:=by
 obtain⟨i,hi⟩:=List.getElem?_of_mem hu
 have hl:vs.length=fs.length:=by simpa using h.own.1
 have hlt:i < fs.length:=by rw[<- hl];exact(List.getElem?_eq_some_iff.1 hi).1
 obtain⟨⟨inner,h1,_⟩,h2⟩:=h.each i u _ hi (List.getElem?_eq_getElem hlt)
 exact⟨_,inner,h1,h2⟩
theorem Mach.types1 {w2:World} {B:Nat} {M:Nat->Prop} {mb:Nat} {ts fs:List (List Int)} {b0 b1 b2 tv fv v1:Value} {vs:List Value} (h:Mach w B M mb ts fs b0 b1 b2 tv fv vs) {x:List Int}
 (ho:intR.slice.own 83 w2 (fun k=>((k < B\/tv.ownBlock=some k)/\some k ≠ tv.ownBlock)\/k < B\/v1.ownBlock=some k) v1 (ts ++ [x])) (hU:Upd (fun k=>tv.ownBlock=some k) w w2)
 (hat:v1.ownBlock=tv.ownBlock\/∃ b,v1.ownBlock=some b/\w.heap.size<=b) :
 Mach (w2.setCell ⟨mb,0,none⟩ v1) B (fun k=>M k\/(w.heap.size<=k/\k < w2.heap.size)) mb (ts ++ [x]) fs b0 b1 b2 v1 fv vs/\Upd M w (w2.setCell ⟨mb,0,none⟩ v1):=by
 have hB:B<=w.heap.size:=by have:=h.low mb h.mbM;omega
 have hsz:(w2.setCell ⟨mb,0,none⟩ v1).heap.size=w2.heap.size:=by simp[World.setCell]
 obtain⟨ti,hto,_⟩:=h.types
 have hmt:tv.ownBlock ≠ some mb:=x1j hto h.blk (by decide)
 have hblk2:w2.heap[mb]?=some (.cells #[tv,fv,b0,b1,b2] 223 (0,0)):=by rw[hU.block mb (h.low mb h.mbM).2 hmt];exact h.blk
 have hU2:Upd (fun k=>tv.ownBlock=some k\/k=mb) w (w2.setCell ⟨mb,0,none⟩ v1):=(hU.mono (fun k _ hk=>.inl hk)).setCell (p:=⟨mb,0,none⟩) (fun _=>.inr rfl) v1
 have hm1:v1.ownBlock ≠ some mb:=by obtain⟨i2,ho2,_⟩:=ho;exact x1j ho2 hblk2 (by decide)
 have hlt1:=Rp.x03 ho
 refine⟨⟨by simp[World.setCell,Array.getElem?_modify,hblk2],.inl h.mbM,?_,?_,?_,?_,?_⟩,hU2.mono (fun k _ hk=>?_)⟩
 ·rintro k (hk | hk)
  ·exact⟨(h.low k hk).1,by rw[hsz];exact Nat.lt_of_lt_of_le (h.low k hk).2 hU.size⟩
  ·exact⟨by omega,by rw[hsz];exact hk.2⟩
 ·refine Rp.x3a (Rp.x0w ho (Upd.x1v (S:=fun k=>k=mb) w2 (p:=⟨mb,0,none⟩) rfl v1) (fun k _ hk he=>?_)) (fun k hk=>?_)
  ·subst he
   have:=(h.low k h.mbM).1
   rcases hk with ⟨hk | hk,h3⟩ | hk | hk
   ·omega
   ·exact h3 hk.symm
   ·omega
   ·exact hm1 hk
  ·rcases hk with ⟨hk | hk,h3⟩ | hk | hk
   ·exact .inl hk
   ·exact absurd hk.symm h3
   ·exact .inl hk
   ·exact .inr hk
 ·intro k hk
  have h4:=(hlt1 k hk).2
  rcases hat with hat | ⟨b,hb,hle⟩
  ·exact .inl (h.typesM k (hat ▸ hk))
  ·rw[hb] at hk
   injection hk with hk
   exact .inr ⟨by omega,h4⟩
 ·refine h.foll.upd2 hU2 ?_ ?_ (fun k hk=>.inl hk)
  ·rintro k hk (hS | rfl)
   ·exact h.apart k hS hk
   ·exact x1j h.foll.own h.blk (by decide) hk
  ·rintro u hu k hk (hS | rfl)
   ·obtain⟨n,inner,h5,_⟩:=h.foll.int hu
    exact own_ne h5 hto (by decide) k hk hS
   ·obtain⟨n,inner,h5,_⟩:=h.foll.int hu
    exact x1j h5 h.blk (by decide) hk
 ·intro k hk hk'
  rcases hat with hat | ⟨b,hb,hle⟩
  ·exact h.apart k (hat ▸ hk) hk'
  ·rw[hb] at hk
   injection hk with hk
   have:=(h.low k (h.foll.inM k hk')).2
   omega
 ·rcases hk with hk | rfl
  ·exact h.typesM k hk
  ·exact h.mbM
theorem Mach.foll1 {w2:World} {B:Nat} {M:Nat->Prop} {mb:Nat} {ts fs:List (List Int)} {b0 b1 b2 tv fv v1:Value} {vs:List Value} (h:Mach w B M mb ts fs b0 b1 b2 tv fv vs)
 (ho:w2.ownsRow 0 83 1 v1 (fs.length+1) (vs ++ [.slice none 0 0])) (hU:Upd (fun k=>fv.ownBlock=some k) w w2)
 (hat:v1.ownBlock=fv.ownBlock\/∃ b,v1.ownBlock=some b/\w.heap.size<=b) :
 Mach (w2.setCell ⟨mb,1,none⟩ v1) B (fun k=>M k\/(w.heap.size<=k/\k < w2.heap.size)) mb ts (fs ++ [[]]) b0 b1 b2 tv v1 (vs ++ [.slice none 0 0])/\Upd M w (w2.setCell ⟨mb,1,none⟩ v1):=by
 have hB:B<=w.heap.size:=by have:=h.low mb h.mbM;omega
 have hsz:(w2.setCell ⟨mb,1,none⟩ v1).heap.size=w2.heap.size:=by simp[World.setCell]
 obtain⟨ti,hto,_⟩:=h.types
 have hl:vs.length=fs.length:=by simpa using h.foll.own.1
 have hmt:fv.ownBlock ≠ some mb:=x1j h.foll.own h.blk (by decide)
 have hblk2:w2.heap[mb]?=some (.cells #[tv,fv,b0,b1,b2] 223 (0,0)):=by rw[hU.block mb (h.low mb h.mbM).2 hmt];exact h.blk
 have hU2:Upd (fun k=>fv.ownBlock=some k\/k=mb) w (w2.setCell ⟨mb,1,none⟩ v1):=(hU.mono (fun k _ hk=>.inl hk)).setCell (p:=⟨mb,1,none⟩) (fun _=>.inr rfl) v1
 have hm1:v1.ownBlock ≠ some mb:=x1j ho hblk2 (by decide)
 have hlt1:∀ k,v1.ownBlock=some k->k < w2.heap.size:=fun k hk=>(ho.lt k hk).2
 have hv1M:∀ k,v1.ownBlock=some k->M k\/(w.heap.size<=k/\k < w2.heap.size):=by
  intro k hk
  have h4:=hlt1 k hk
  rcases hat with hat | ⟨b,hb,hle⟩
  ·exact .inl (h.foll.inM k (hat ▸ hk))
  ·rw[hb] at hk
   injection hk with hk
   exact .inr ⟨by omega,h4⟩
 refine⟨⟨by simp[World.setCell,Array.getElem?_modify,hblk2],.inl h.mbM,?_,?_,fun k hk=>.inl (h.typesM k hk),⟨?_,hv1M,?_,?_⟩,?_⟩,hU2.mono (fun k _ hk=>?_)⟩
 ·rintro k (hk | hk)
  ·exact⟨(h.low k hk).1,by rw[hsz];exact Nat.lt_of_lt_of_le (h.low k hk).2 hU.size⟩
  ·exact⟨by omega,by rw[hsz];exact hk.2⟩
 ·refine Rp.x0w h.types hU2 (fun k hl2 hk hS=>?_)
  rcases hk with hk | hk
  ·rcases hS with hS | rfl
   ·have:=(h.low k (h.foll.inM k hS)).1;omega
   ·have:=(h.low k h.mbM).1;omega
  ·rcases hS with hS | rfl
   ·exact h.apart k hk hS
   ·exact x1j hto h.blk (by decide) hk
 ·rw[List.length_append]
  exact x4e ho (Upd.x1v (S:=fun k=>k=mb) w2 (p:=⟨mb,1,none⟩) rfl v1) (fun k hk he=>hm1 (he ▸ hk))
 ·intro i u x hu hx
  rcases Nat.lt_or_ge i vs.length with hi | hi
  ·rw[List.getElem?_append_left hi] at hu
   rw[List.getElem?_append_left (by omega)] at hx
   obtain⟨h5,h6⟩:=h.foll.each i u x hu hx
   refine⟨Rp.x0w h5 hU2 (fun k _ hk hS=>?_),fun k hk=>.inl (h6 k hk)⟩
   obtain⟨inner,h7,_⟩:=h5
   rcases hS with hS | rfl
   ·exact own_ne h7 h.foll.own (by decide) k hk hS
   ·exact x1j h7 h.blk (by decide) hk
  ·rw[List.getElem?_append_right hi] at hu
   rw[List.getElem?_append_right (by omega)] at hx
   match hk:i - vs.length,hu with
   | 0,hu=>
     rw[<- hl,hk] at hx
     simp at hu hx
     subst hu hx
     exact⟨Rp.x0v _ _ _ _,fun k hk=>by simp[Value.ownBlock] at hk⟩
   | j+1,hu=>simp at hu
 ·intro i j u u' k hu hu' hij hk
  rcases Nat.lt_or_ge i vs.length with hi | hi
  ·rw[List.getElem?_append_left hi] at hu
   rcases Nat.lt_or_ge j vs.length with hj | hj
   ·rw[List.getElem?_append_left hj] at hu'
    exact h.foll.two i j u u' k hu hu' hij hk
   ·rw[List.getElem?_append_right hj] at hu'
    have:=List.mem_of_getElem? hu'
    simp at this
    subst this
    simp[Value.ownBlock]
  ·rw[List.getElem?_append_right hi] at hu
   have:=List.mem_of_getElem? hu
   simp at this
   subst this
   simp[Value.ownBlock] at hk
 ·intro k hk hk'
  rcases hat with hat | ⟨b,hb,hle⟩
  ·exact h.apart k hk (hat ▸ hk')
  ·rw[hb] at hk'
   injection hk' with hk'
   have:=(h.low k (h.typesM k hk)).2
   omega
 ·rcases hk with hk | rfl
  ·exact h.foll.inM k hk
  ·exact h.mbM
theorem own_cell {e:TypeId} {g n cap:Nat} {inner:List Value} (h:w.ownsRow 0 e 1 (.slice (some ⟨g,0,none⟩) n cap) n inner) {i:Nat} (hi:i < n) :
 ∃ u,inner[i]?=some u/\w.cell? ⟨g,i,none⟩=some u/\w.frozen? ⟨g,i,none⟩=false/\g < w.heap.size:=by
 have hl:inner.length=n:=by simpa using h.1
 obtain⟨u,hu⟩:∃ u,inner[i]?=some u:=⟨_,List.getElem?_eq_getElem (by omega)⟩
 rcases h.2 with ⟨h,_⟩ | ⟨g',cap',cur,hv,_,hg,hle,_,hcs,htake⟩
 ·cases h
 ·simp at hv
  obtain⟨rfl,rfl⟩:=hv
  have h2:=hu
  rw[<- htake,List.getElem?_take] at h2
  split at h2
  ·exact⟨u,hu,by unfold World.cell?;simp only[hg];simpa using h2,by simp[World.frozen?,hg],(lB hg)⟩
  ·cases h2
theorem ownsRow_setN {e:TypeId} {g len cap n size:Nat} {xs:List Value} (h:w.ownsRow 0 e size (.slice (some ⟨g,0,none⟩) len cap) len xs) (u:Value) :
 (w.setCell ⟨g,n,none⟩ u).ownsRow 0 e size (.slice (some ⟨g,0,none⟩) len cap) len (xs.set n u):=by
 obtain⟨h1,h2⟩:=h
 refine⟨by simpa using h1,?_⟩
 rcases h2 with ⟨h2,_⟩ | ⟨g',cap',cur,hv,hb,hg,hle,hcm,hcs,htake⟩
 ·cases h2
 ·simp at hv
  obtain⟨rfl,rfl⟩:=hv
  refine .inr ⟨g,cap,cur.setIfInBounds n u,rfl,hb,by simp[World.setCell,Array.getElem?_modify,hg],hle,hcm,by simpa using hcs,?_⟩
  rw[Array.toList_setIfInBounds,<- htake,List.take_set]
theorem set3_drop (L:List Value) (n j:Nat) (c0 c1 c2:Value) (hj:j < n):((((L.set (n * 3) c0).set (n * 3+1) c1).set (n * 3+2) c2).drop (j * 3)).take 3=(L.drop (j * 3)).take 3:=by
 apply List.ext_getElem?
 intro i
 simp only[List.getElem?_take,List.getElem?_drop,List.getElem?_set]
 split
 ·rw[if_neg (by omega),if_neg (by omega),if_neg (by omega)]
 ·rfl
theorem set3_last (L:List Value) (n:Nat) (c0 c1 c2:Value) (hL:L.length=(n+1) * 3):((((L.set (n * 3) c0).set (n * 3+1) c1).set (n * 3+2) c2).drop (n * 3)).take 3=[c0,c1,c2]:=by
 apply List.ext_getElem?
 intro i
 simp only[List.getElem?_take,List.getElem?_drop,List.getElem?_set,List.length_set]
 by_cases h:i < 3
 ·rw[if_pos h]
  have:i=0\/i=1\/i=2:=by omega
  rcases this with rfl | rfl | rfl
  ·rw[if_neg (by omega),if_neg (by omega),if_pos (by omega),if_pos (by omega)];rfl
  ·rw[if_neg (by omega),if_pos (by omega),if_pos (by omega)];rfl
  ·rw[if_pos (by omega),if_pos (by omega)];rfl
 ·rw[if_neg h]
  symm
  apply List.getElem?_eq_none
  simp;omega
theorem own_last3 {e:TypeId} {Fp:Nat->Prop} {b cap c1:Nat} {init:List Ex} {z:Ex} {k:Int} {nm:ByteArray} {l:List Ex} {A1:Option Addr} (h:exR.own e w F (.slice (some ⟨b,0,none⟩) (init.length+1) cap) (init ++ [z])) (hr:exR.row w Fp A1 l) (hFp:∀ q,Fp q->F q/\q ≠ b) (hl:l.length<=c1) :
 exR.own e (((w.setCell ⟨b,init.length * 3,none⟩ (.int .i64 k)).setCell ⟨b,init.length * 3+1,none⟩ (.string nm)).setCell ⟨b,init.length * 3+2,none⟩ (.slice A1 l.length c1)) F (.slice (some ⟨b,0,none⟩) (init.length+1) cap) (init ++ [.mk k nm l]):=by
 obtain⟨inner,ho,hF,hrep⟩:=h
 have hu:Upd (fun q=>q=b) w (((w.setCell ⟨b,init.length * 3,none⟩ (.int .i64 k)).setCell ⟨b,init.length * 3+1,none⟩ (.string nm)).setCell ⟨b,init.length * 3+2,none⟩ (.slice A1 l.length c1)):=
  (((Upd.refl (fun q=>q=b) w).setCell (p:=⟨b,init.length * 3,none⟩) (fun _=>rfl) _).setCell (p:=⟨b,init.length * 3+1,none⟩) (fun _=>rfl) _).setCell (p:=⟨b,init.length * 3+2,none⟩) (fun _=>rfl) _
 have hsz:exR.sz=3:=rfl
 have hl1:(init ++ [z]).length=init.length+1:=by simp
 have hl2:(init ++ [Ex.mk k nm l]).length=init.length+1:=by simp
 rw[hl1,hsz] at ho
 have hil:inner.length=(init.length+1) * 3:=ho.1
 refine⟨((inner.set (init.length * 3) (.int .i64 k)).set (init.length * 3+1) (.string nm)).set (init.length * 3+2) (.slice A1 l.length c1),?_,hF,⟨by simp only[List.length_set];rw[hil,hl2,hsz],fun j x hx=>?_⟩⟩
 ·rw[hl2,hsz]
  exact ownsRow_setN (ownsRow_setN (ownsRow_setN ho _) _) _
 ·rw[hsz]
  by_cases hj:j < init.length
  ·rw[set3_drop _ _ _ _ _ _ hj]
   rw[List.getElem?_append_left hj] at hx
   have h1:=hrep.2 j x (by rw[List.getElem?_append_left hj];exact hx)
   rw[hsz] at h1
   exact exR.move (fun q hq hql=>⟨hq,Nat.lt_of_lt_of_le hql hu.size,hu.block q hql (fun e=>hq.2 (by rw[e];rfl))⟩) h1
  ·have hjl:j < (init ++ [Ex.mk k nm l]).length:=(List.getElem?_eq_some_iff.1 hx).1
   obtain rfl:j=init.length:=by omega
   rw[List.getElem?_append_right (Nat.le_refl _),Nat.sub_self] at hx
   cases hx
   rw[set3_last _ _ _ _ _ hil]
   refine ExRep.of_parts hl (Rp.x1d (fun q hq hql=>⟨⟨(hFp q hq).1,fun e=>(hFp q hq).2 (by injection e)⟩,Nat.lt_of_lt_of_le hql hu.size,hu.block q hql (hFp q hq).2⟩) hr)
theorem own_cellN {e:TypeId} {g n cap size:Nat} {inner:List Value} (h:w.ownsRow 0 e size (.slice (some ⟨g,0,none⟩) n cap) n inner) {i:Nat} (hi:i < inner.length) :
 ∃ u,inner[i]?=some u/\w.cell? ⟨g,i,none⟩=some u/\w.frozen? ⟨g,i,none⟩=false/\g < w.heap.size:=by
 obtain⟨u,hu⟩:=gS hi
 rcases h.2 with ⟨h,_⟩ | ⟨g',cap',cur,hv,_,hg,hle,_,hcs,htake⟩
 ·cases h
 ·simp at hv
  obtain⟨rfl,rfl⟩:=hv
  have h2:=hu
  rw[<- htake,List.getElem?_take] at h2
  split at h2
  ·exact⟨u,hu,by unfold World.cell?;simp only[hg];simpa using h2,by simp[World.frozen?,hg],(lB hg)⟩
  ·cases h2
theorem own_last_cells {e:TypeId} {b cap:Nat} {init:List Ex} {z:Ex} (h:exR.own e w F (.slice (some ⟨b,0,none⟩) (init.length+1) cap) (init ++ [z])) :
 (∃ u0 u1 u2,w.cell? ⟨b,init.length * 3,none⟩=some u0/\w.cell? ⟨b,init.length * 3+1,none⟩=some u1/\w.cell? ⟨b,init.length * 3+2,none⟩=some u2)/\(w.frozen? ⟨b,init.length * 3,none⟩=false/\w.frozen? ⟨b,init.length * 3+1,none⟩=false/\w.frozen? ⟨b,init.length * 3+2,none⟩=false)/\b < w.heap.size:=by
 obtain⟨inner,ho,_,_⟩:=h
 have hl1:(init ++ [z]).length=init.length+1:=by simp
 have hsz:exR.sz=3:=rfl
 rw[hl1,hsz] at ho
 have hil:inner.length=(init.length+1) * 3:=ho.1
 obtain⟨u0,_,a1,a2,a3⟩:=own_cellN ho (i:=init.length * 3) (by omega)
 obtain⟨u1,_,b1,b2,_⟩:=own_cellN ho (i:=init.length * 3+1) (by omega)
 obtain⟨u2,_,c1,c2,_⟩:=own_cellN ho (i:=init.length * 3+2) (by omega)
 exact⟨⟨u0,u1,u2,a1,b1,c1⟩,⟨a2,b2,c2⟩,a3⟩
theorem own_formE {e:TypeId} {v:Value} {init:List Ex} {z:Ex} (h:exR.own e w F v (init ++ [z])):∃ g cap,v=.slice (some ⟨g,0,none⟩) (init.length+1) cap:=by
 obtain⟨inner,ho,_,_⟩:=h
 have hl1:(init ++ [z]).length=init.length+1:=by simp
 rw[hl1] at ho
 obtain⟨g,cap,hv,_⟩:=ho.form (by omega)
 exact⟨g,cap,hv⟩
theorem put_defers (a:Act) (d:Option Nat) (v:Value):(a.put d v).defers=a.defers:=by cases d <;> rfl
theorem upd3N (w:World) (b n:Nat) (x y z:Value):Upd (fun q=>q=b) w (((w.setCell ⟨b,n,none⟩ x).setCell ⟨b,n+1,none⟩ y).setCell ⟨b,n+2,none⟩ z):=
 (((Upd.refl (fun q=>q=b) w).setCell (p:=⟨b,n,none⟩) (fun _=>rfl) _).setCell (p:=⟨b,n+1,none⟩) (fun _=>rfl) _).setCell (p:=⟨b,n+2,none⟩) (fun _=>rfl) _
end Go.Proofs.YtofjodppljnlaaaGreatDoor
