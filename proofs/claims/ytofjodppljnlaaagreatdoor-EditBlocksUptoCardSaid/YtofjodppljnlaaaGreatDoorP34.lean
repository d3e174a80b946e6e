/- My own texts, packed: EdR, Ed12c, Ed12d, Ed12j, Ed12k, Ed12l, EditBlocks. -/
import Derived.Test.YtofjodppljnlaaaGreatDoorP33
import Derived.Test.YtofjodppljnlaaaGreatDoorP30
set_option maxRecDepth 100000
set_option maxHeartbeats 4000000
set_option linter.unusedVariables false
set_option linter.unusedSimpArgs false
variable {w w1 W:Go.World} {F G:Nat → Prop} {A B:Option Go.Addr} {cb c:Nat}
namespace Go.Proofs.YtofjodppljnlaaaGreatDoor
open Go.RowKit
theorem Retype_at {F:Nat->Prop} {l:List Tok} {p t n e pe ar:Int} {rb:Bool} {s':StepD} (hb:l.length<=1048576 * 4) (hal:ar < l.length)
 (hp:∀ W,Pure w W->Calls Tryz.prog 83 #[deskV cb A l.length c,.int .i64 p,.int .i64 p] W (fun r w'=>r=.returned (.int .i64 pe)/\Pure W w'))
 (ha:∀ W,Pure w W->Calls Tryz.prog 72 #[.slice A l.length c,.int .i64 p] W (fun r w'=>r=.returned (.int .i64 ar)/\Pure W w'))
 (hrb:x0p (openT t n)=rb)
 (hr:pe=0->0<=ar->rb=true->∀ V A1 c1,Pure w V->tokR.row V (fun _=>True) A1 [openT t n]->1<=c1->Calls Tryz.prog 85 #[deskV cb A l.length c,.int .i64 ar,.int .i64 (ar+1),.slice A1 1 c1] V (Told s' (toldB A1 e) (toldC c1 e) e V))
 (hi:pe=0->0<=ar->rb=true->(e=0->s'.sl=[openT t n]))
 (h0:pe ≠ 0->s'=repl 0 0 []/\e=pe) (h1:pe=0->ar < 0->s'=repl 0 0 []/\e=6) (h2:pe=0->0<=ar->rb=false->s'=repl 0 0 []/\e=1) (h3:e ≠ 0->s'.sl=[]) :
 Calls Tryz.prog 46 #[.pointer (some ⟨cb,0,none⟩),.slice A l.length c,.int .i64 p,.int .i64 t,.int .i64 n] w (fun r w'=>∃ B' c',Told s' B' c' e w r w'/\(tokR.row w' (fun k=>w.heap.size<=k) B' s'.sl/\s'.sl.length<=c')/\(e ≠ 0->B'=none/\c'=0)):=by
 have HP:=mK hp
 have HAR:=mK ha
 have HRT:=mK (fun W=>x2a hrb W)
 clear hp ha
 by_cases p0:pe=0
 ·by_cases a0:ar < 0
  ·obtain⟨rfl,rfl⟩:=h1 p0 a0
   subst p0
   clear hr hi h0 h1 h2 h3
   unfold Told StepD.val at *
   go_enter Tryz.func46,Tryz.ntmps46
   go_wp2_with (first | (go_at_call 84;refine(x0x _).mono ?_;rintro r w2 ⟨rfl,hu⟩;obtain⟨_,hu2⟩:=x0i hu;have HB2:=mK (kP hu2 HBA.o);have HU2:=mK (HUA.o.tt hu2);clear hu hu2;apply As.o) | (go_at_call 72;refine(HAR.o w1 HU1.o).mono ?_;rintro r wa ⟨rfl,hu⟩;have HBA:=mK (kP hu HB1.o);have HUA:=mK (HU1.o.tt hu);have HPA:=mK hu;have HQA:=mK (kP hu HQ1.o);have qa:=cells2 (kP hu HQ1.o);clear hu) | (go_at_call 83;refine(HP.o _ (aP.alloc _)).mono ?_;rintro r w1 ⟨rfl,hu⟩;obtain⟨hb1,hb2,hu2⟩:=x0s hu;obtain⟨q0,q1⟩:=cells2 hb2;have HB1:=mK hb1;have HQ1:=mK hb2;have HU1:=mK hu2;clear hu hb1 hb2 hu2))
   refine⟨?_⟩
   have hbl:w.heap.size < w2.heap.size:=lB HB2.o
   have hcf:=fZ HB2.o
   obtain⟨k0,k1,k2,k3,k4,k5,k6,k7⟩:=x06 HB2.o
   go_wp2
   exact bodyPost_ret (step_end (rb:=w.heap.size) rfl _ rfl (set8 (rb:=w.heap.size) HB2.o _ _ _ _ _ _ _ _)) rfl ⟨none,0,⟨rfl,x05 HU2.o (Nat.le_refl _) _ _ _ _ _ _ _ _⟩,⟨.inl rfl,Nat.zero_le _⟩,fun _=>⟨rfl,rfl⟩⟩
  ·cases hrbc:rb
   ·obtain⟨rfl,rfl⟩:=h2 p0 (by omega) hrbc
    rw[hrbc] at HRT
    subst p0
    clear hr hi h0 h1 h2 h3
    unfold Told StepD.val at *
    go_enter Tryz.func46,Tryz.ntmps46
    go_wp2_with (first | (go_at_call 84;refine(x0x _).mono ?_;rintro r w2 ⟨rfl,hu⟩;have HB2:=mK (kP hu HB3.o);have HU2:=mK (HU3.o.tt hu);clear hu;apply As.o) | (go_at_call 102;refine(HRT.o _).mono ?_;rintro r w3 ⟨rfl,hu⟩;obtain⟨hx3,hu2⟩:=x0i hu;obtain⟨t0,t1,t2,t3⟩:=cells4 hx3;have HB3:=mK (kP hu2 HBA.o);obtain⟨z0,z1⟩:=cells2 (kP hu2 HQA.o);have HU3:=mK (HUA.o.tt hu2);clear hu hu2 hx3) | (go_at_call 72;refine(HAR.o w1 HU1.o).mono ?_;rintro r wa ⟨rfl,hu⟩;have HBA:=mK (kP hu HB1.o);have HUA:=mK (HU1.o.tt hu);have HPA:=mK hu;have HQA:=mK (kP hu HQ1.o);have qa:=cells2 (kP hu HQ1.o);clear hu) | (go_at_call 83;refine(HP.o _ (aP.alloc _)).mono ?_;rintro r w1 ⟨rfl,hu⟩;obtain⟨hb1,hb2,hu2⟩:=x0s hu;obtain⟨q0,q1⟩:=cells2 hb2;have HB1:=mK hb1;have HQ1:=mK hb2;have HU1:=mK hu2;clear hu hb1 hb2 hu2))
    refine⟨?_⟩
    have hbl:w.heap.size < w2.heap.size:=lB HB2.o
    have hcf:=fZ HB2.o
    obtain⟨k0,k1,k2,k3,k4,k5,k6,k7⟩:=x06 HB2.o
    go_wp2
    exact bodyPost_ret (step_end (rb:=w.heap.size) rfl _ rfl (set8 (rb:=w.heap.size) HB2.o _ _ _ _ _ _ _ _)) rfl ⟨none,0,⟨rfl,x05 HU2.o (Nat.le_refl _) _ _ _ _ _ _ _ _⟩,⟨.inl rfl,Nat.zero_le _⟩,fun _=>⟨rfl,rfl⟩⟩
   ·have HR:=mK (hr p0 (by omega) hrbc)
    have HT:=mK (And.intro (hi p0 (by omega) hrbc) h3)
    rw[hrbc] at HRT
    have hw:IntKind.i64.wrap (ar+1)=ar+1:=IntWalk.i64_in _ (by omega)
    subst p0
    clear hr hi h0 h1 h2 h3
    unfold Told StepD.val at *
    go_enter Tryz.func46,Tryz.ntmps46
    go_wp2_with (first | (go_at_call 85;refine(HR.o (w3.alloc _) (some ⟨w3.heap.size,0,none⟩) 1 (HU3.o.alloc _) (x1a (l:=[openT t n]) (heap_alloc_new w3 _) trivial) (Nat.le_refl _)).mono ?_;rintro r w2 ⟨rfl,hu⟩;obtain⟨_,hu2⟩:=x0i hu;have HR2:=mK (Rp.x01 (x1a (F:=fun k=>w.heap.size < k) (l:=[openT t n]) (heap_alloc_new w3 _) (lt_of_block HB3.o)) hu);have HB2:=mK (kP hu2 HB3.o);have HU2:=mK (HU3.o.tt hu2);clear hu hu2;apply As.o) | (go_at_call 102;refine(HRT.o _).mono ?_;rintro r w3 ⟨rfl,hu⟩;obtain⟨hx3,hu2⟩:=x0i hu;obtain⟨t0,t1,t2,t3⟩:=cells4 hx3;have HB3:=mK (kP hu2 HBA.o);obtain⟨z0,z1⟩:=cells2 (kP hu2 HQA.o);have HU3:=mK (HUA.o.tt hu2);clear hu hu2 hx3) | (go_at_call 72;refine(HAR.o w1 HU1.o).mono ?_;rintro r wa ⟨rfl,hu⟩;have HBA:=mK (kP hu HB1.o);have HUA:=mK (HU1.o.tt hu);have HPA:=mK hu;have HQA:=mK (kP hu HQ1.o);have qa:=cells2 (kP hu HQ1.o);clear hu) | (go_at_call 83;refine(HP.o _ (aP.alloc _)).mono ?_;rintro r w1 ⟨rfl,hu⟩;obtain⟨hb1,hb2,hu2⟩:=x0s hu;obtain⟨q0,q1⟩:=cells2 hb2;have HB1:=mK hb1;have HQ1:=mK hb2;have HU1:=mK hu2;clear hu hb1 hb2 hu2))
    refine⟨?_⟩
    have hbl:w.heap.size < w2.heap.size:=lB HB2.o
    have hcf:=fZ HB2.o
    obtain⟨k0,k1,k2,k3,k4,k5,k6,k7⟩:=x06 HB2.o
    go_wp2
    exact bodyPost_ret (step_end (rb:=w.heap.size) rfl _ rfl (set8 (rb:=w.heap.size) HB2.o _ _ _ _ _ _ _ _)) rfl ⟨_,_,⟨rfl,x05 HU2.o (Nat.le_refl _) _ _ _ _ _ _ _ _⟩,x29 (e:=e) HT.o.1 HT.o.2 (Rp.x09 (G:=fun k=>w.heap.size<=k) (Rp.x0f HR2.o (x0b rU _ _ _ _ _ _ _ _) (fun k _ h e=>by omega)) (fun _ h=>by (try have h8:=HL.o);omega)) (Nat.le_refl 1),fun h=>⟨if_neg h,if_neg h⟩⟩
 ·obtain⟨rfl,rfl⟩:=h0 p0
  have f0:(e != 0)=true:=by simpa using p0
  clear hr hi h0 h1 h2 h3 p0 HAR HRT
  unfold Told StepD.val at *
  go_enter Tryz.func46,Tryz.ntmps46
  go_wp2_with (first | (go_at_call 84;refine(x0x _).mono ?_;rintro r w2 ⟨rfl,hu⟩;have HB2:=mK (kP hu HB1.o);have HU2:=mK (HU1.o.tt hu);clear hu;apply As.o) | (go_at_call 83;refine(HP.o _ (aP.alloc _)).mono ?_;rintro r w1 ⟨rfl,hu⟩;obtain⟨hb1,hb2,hu2⟩:=x0s hu;obtain⟨q0,q1⟩:=cells2 hb2;have HB1:=mK hb1;have HQ1:=mK hb2;have HU1:=mK hu2;clear hu hb1 hb2 hu2))
  refine⟨?_⟩
  have hbl:w.heap.size < w2.heap.size:=lB HB2.o
  have hcf:=fZ HB2.o
  obtain⟨k0,k1,k2,k3,k4,k5,k6,k7⟩:=x06 HB2.o
  go_wp2
  exact bodyPost_ret (step_end (rb:=w.heap.size) rfl _ rfl (set8 (rb:=w.heap.size) HB2.o _ _ _ _ _ _ _ _)) rfl ⟨none,0,⟨rfl,x05 HU2.o (Nat.le_refl _) _ _ _ _ _ _ _ _⟩,⟨.inl rfl,Nat.zero_le _⟩,fun _=>⟨rfl,rfl⟩⟩
theorem Retype_new {l:List Tok} {p t n:Int} (h:SchR w cb x02 x07) (hr:tokR.row w F A l) (hlc:l.length<=c) (hb:l.length<=1048576 * 4) :
 Calls Tryz.prog 46 #[.pointer (some ⟨cb,0,none⟩),.slice A l.length c,.int .i64 p,.int .i64 t,.int .i64 n] w (fun r w'=>∃ B' c',Told (toldS (repl (x04 l p) (x04 l p+1) [openT t n]) (x1u l p t n)) B' c' (x1u l p t n) w r w'/\(tokR.row w' (fun k=>w.heap.size<=k) B' (toldS (repl (x04 l p) (x04 l p+1) [openT t n]) (x1u l p t n)).sl/\(toldS (repl (x04 l p) (x04 l p+1) [openT t n]) (x1u l p t n)).sl.length<=c')/\(x1u l p t n ≠ 0->B'=none/\c'=0)):=by
 refine Retype_at (F:=F) (pe:=x0e l p p) (ar:=x04 l p) (rb:=x0p (openT t n)) hb (around_lt l p) (fun W hW=>x34 (h.pure hW) (Rp.x01 hr hW) hb) (fun W hW=>x2g (Rp.x01 hr hW) hb hlc) rfl (fun p0 ha hq V A1 c1 hV hrow hc1=>?_) (fun p0 ha hq he=>?_) (fun hp=>?_) (fun p0 ha=>?_) (fun p0 ha hq=>?_) (fun he=>by rw[x0g he];rfl)
 ·have he:x1u l p t n=x08 l (repl (x04 l p) (x04 l p+1) [openT t n]):=by unfold x1u;rw[if_neg (by omega),if_neg (by omega),if_neg (by rw[hq];decide)]
  rw[he]
  exact x60 (sl:=[openT t n]) (h.pure hV) (x3b (x16.1 p0).1) (Rp.x01 hr hV) hlc hb hrow hc1 (by simp)
 ·rw[he];rfl
 ·have he:x1u l p t n=x0e l p p:=by unfold x1u;rw[if_pos hp]
  rw[he]
  exact⟨x0g hp,rfl⟩
 ·have he:x1u l p t n=6:=by unfold x1u;rw[if_neg (by omega),if_pos ha]
  rw[he]
  exact⟨x0g (by decide),rfl⟩
 ·have he:x1u l p t n=1:=by unfold x1u;rw[if_neg (by omega),if_neg (by omega),if_pos hq]
  rw[he]
  exact⟨x0g (by decide),rfl⟩
theorem Retype_calls {l:List Tok} {p t n:Int} (h:SchR w cb x02 x07) (hr:tokR.row w F A l) (hlc:l.length<=c) (hb:l.length<=1048576 * 4) :
 Calls Tryz.prog 46 #[.pointer (some ⟨cb,0,none⟩),.slice A l.length c,.int .i64 p,.int .i64 t,.int .i64 n] w (fun r w'=>∃ B' c',Told (toldS (repl (x04 l p) (x04 l p+1) [openT t n]) (x1u l p t n)) B' c' (x1u l p t n) w r w'/\(tokR.row w' (fun _=>True) B' (toldS (repl (x04 l p) (x04 l p+1) [openT t n]) (x1u l p t n)).sl/\(toldS (repl (x04 l p) (x04 l p+1) [openT t n]) (x1u l p t n)).sl.length<=c')/\(x1u l p t n ≠ 0->B'=none/\c'=0)):=
 (Retype_new h hr hlc hb).mono fun r w' ⟨B',c',h1,⟨h2,h3⟩,h4⟩=>⟨B',c',h1,⟨Rp.x09 h2 (fun _ _=>trivial),h3⟩,h4⟩
theorem Split12_at {l:List Tok} {p e pe ar:Int} {s':StepD} (hrow:tokR.row w F A l) (hb:l.length<=1048576 * 4)
 (hp:∀ W,Pure w W->Calls Tryz.prog 86 #[.pointer (some ⟨cb,0,none⟩),.slice A l.length c,.int .i64 p,.int .i64 p] W (fun r w'=>r=.returned (.int .i64 pe)/\Pure W w'))
 (ha:∀ W,Pure w W->Calls Tryz.prog 74 #[.slice A l.length c,.int .i64 p] W (fun r w'=>r=.returned (.int .i64 ar)/\Pure W w'))
 (ht:∀ (i:Nat) (y:Tok),pe=0->ar=i->l[i]?=some y->∀ V A1 c1,Pure w V->tokR.row V (fun _=>True) A1 [shutT,y]->2<=c1->Calls Tryz.prog 87 #[.pointer (some ⟨cb,0,none⟩),.slice A l.length c,(repl p p [shutT,y]).val A1 c1] V (Told s' (toldB A1 e) (toldC c1 e) e V))
 (hi:pe=0->¬ ar < 0->∃ (i:Nat) (y:Tok),ar=i/\l[i]?=some y/\(e=0->s'.sl=[shutT,y])) (h0:pe ≠ 0->s'=repl 0 0 []/\e=pe) (h1:pe=0->ar < 0->s'=repl 0 0 []/\e=6) (h2:e ≠ 0->s'.sl=[]) :
 Calls Tryz.prog 43 #[.pointer (some ⟨cb,0,none⟩),.slice A l.length c,.int .i64 p] w (fun r w'=>∃ B' c',Told s' B' c' e w r w'/\tokR.row w' (fun _=>True) B' s'.sl):=by
 have HP:=mK hp
 have HA:=mK ha
 clear hp ha
 by_cases p0:pe=0
 ·by_cases har:ar < 0
  ·obtain⟨rfl,rfl⟩:=h1 p0 har
   subst p0
   have a0:decide (ar < 0)=true:=decide_eq_true har
   clear ht hi h0 h1 h2 hrow har
   unfold Told StepD.val repl at *
   go_enter Tryz.func43,Tryz.ntmps43
   go_wp2_with (first | (go_at_call 74;refine(HA.o _ HU1.o).mono ?_;rintro r w2 ⟨rfl,hu⟩;have HB2:=mK (kP hu HB1.o);have HU2:=mK (HU1.o.tt hu);clear hu;apply As.o) | (go_at_call 86;refine(HP.o _ aU).mono ?_;rintro r w1 ⟨rfl,hu⟩;obtain⟨hb1,hu1⟩:=x0i hu;have HB1:=mK hb1;have HU1:=mK hu1;clear hu hb1 hu1))
   refine⟨?_⟩
   have hbl:w.heap.size < w2.heap.size:=lB HB2.o
   have hcf:=fZ HB2.o
   obtain⟨k0,k1,k2,k3,k4,k5,k6,k7⟩:=x06 HB2.o
   go_wp2
   exact bodyPost_ret (step_end (rb:=w.heap.size) rfl _ rfl (set8 (rb:=w.heap.size) HB2.o _ _ _ _ _ _ _ _)) rfl ⟨none,0,⟨rfl,x05 HU2.o (Nat.le_refl _) _ _ _ _ _ _ _ _⟩,.inl rfl⟩
  ·obtain⟨i,y,rfl,hy,hsl⟩:=hi p0 har
   have HT:=mK (ht i y p0 rfl hy)
   have HS:=mK (x29 (W:=w) (G:=fun _=>True) (A:=none) (c:=0) (e:=e) (sl:=s'.sl) (text:=s'.sl) (fun _=>rfl) (fun h=>h2 h))
   have HR:=mK (And.intro hsl h2)
   subst p0
   have a0:decide ((i:Int) < 0)=false:=decide_eq_false har
   obtain⟨bt,ot,rfl,_,hbt,q0,q1,q2,q3⟩:=x0j hrow hy
   have hil:(i:Int) < (l.length:Int):=by have:=(List.getElem?_eq_some_iff.1 hy).1;omega
   have HQ:=mK (And.intro q0 (And.intro q1 (And.intro q2 q3)))
   clear ht hi h0 h1 h2 hrow hy hsl q0 q1 q2 q3 HS
   unfold Told StepD.val at *
   generalize hs8:s'.sl=sl8 at *
   unfold repl at HT
   go_enter Tryz.func43,Tryz.ntmps43
   go_wp2_with (first | (go_at_call 74;refine(HA.o _ HU1.o).mono ?_;rintro r w2 ⟨rfl,hu⟩;have HB2:=mK (kP hu HB1.o);have HU2:=mK (HU1.o.tt hu);clear hu;apply As.o) | (go_at_call 86;refine(HP.o _ aU).mono ?_;rintro r w1 ⟨rfl,hu⟩;obtain⟨hb1,hu1⟩:=x0i hu;have HB1:=mK hb1;have HU1:=mK hu1;clear hu hb1 hu1))
   refine⟨?_⟩
   have q0:=(HU2.o.cell hbt (fun h=>h)).trans HQ.o.1
   have q1:=(HU2.o.cell hbt (fun h=>h)).trans HQ.o.2.1
   have q2:=(HU2.o.cell hbt (fun h=>h)).trans HQ.o.2.2.1
   have q3:=(HU2.o.cell hbt (fun h=>h)).trans HQ.o.2.2.2
   have hbt2:=Nat.lt_of_lt_of_le hbt HU2.o.size
   have HRW:=mK (show tokR.row (w2.alloc (.cells #[.int .i64 2,.int .i64 0,.int .i64 0,.int .i64 0,.int .i64 y.k,.int .i64 y.t,.int .i64 y.n,.int .i64 y.m] 71)) (fun k=>w2.heap.size<=k) (some ⟨w2.heap.size,0,none⟩) [shutT,y] from x1a (F:=fun k=>w2.heap.size<=k) (heap_alloc_new w2 _) (Nat.le_refl _))
   go_wp2_with (go_at_call 87;refine(HT.o _ (some ⟨w2.heap.size,0,none⟩) 2 (HU2.o.alloc _) (Rp.x09 HRW.o (fun _ _=>trivial)) (Nat.le_refl 2)).mono ?_;rintro r w9 ⟨rfl,hu⟩;have hp9:=(Upd.alloc1 (fun _=>False) w2 _).tt hu;have HB9:=mK (kP hp9 HB2.o);have HU9:=mK (HU2.o.tt hp9);have HR9:=mK (Rp.x01 HRW.o hu);clear hu hp9;apply As.o)
   refine⟨?_⟩
   have HL2:=mK (lt_of_block HB2.o)
   have HRR:=mK (show tokR.row w9 (fun k=>w.heap.size < k) (toldB (some ⟨w2.heap.size,0,none⟩) e) sl8 from(x29 (e:=e) HR.o.1 HR.o.2 (Rp.x09 HR9.o (fun k hk=>by have:=HL2.o;omega)) (c:=2) (Nat.le_refl 2)).1)
   clear q0 q1 q2 q3
   have hbl:w.heap.size < w9.heap.size:=lB HB9.o
   have hcf:=fZ HB9.o
   obtain⟨k0,k1,k2,k3,k4,k5,k6,k7⟩:=x06 HB9.o
   go_wp2
   exact bodyPost_ret (step_end (rb:=w.heap.size) rfl _ rfl (set8 (rb:=w.heap.size) HB9.o _ _ _ _ _ _ _ _)) rfl ⟨_,_,⟨rfl,x05 HU9.o (Nat.le_refl _) _ _ _ _ _ _ _ _⟩,Rp.x09 (Rp.x0f HRR.o (x0b rU _ _ _ _ _ _ _ _) (fun k _ h e=>by omega)) (fun _ _=>trivial)⟩
 ·obtain⟨rfl,rfl⟩:=h0 p0
  have f0:(e != 0)=true:=by simpa using p0
  clear ht hi h0 h1 h2 hrow p0
  unfold Told StepD.val repl at *
  go_enter Tryz.func43,Tryz.ntmps43
  go_wp2_with (go_at_call 86;refine(HP.o _ aU).mono ?_;rintro r w1 ⟨rfl,hu⟩;obtain⟨hb1,hu1⟩:=x0i hu;have HB1:=mK hb1;have HU1:=mK hu1;clear hu hb1 hu1;apply As.o)
  refine⟨?_⟩
  have hbl:w.heap.size < w1.heap.size:=lB HB1.o
  have hcf:=fZ HB1.o
  obtain⟨k0,k1,k2,k3,k4,k5,k6,k7⟩:=x06 HB1.o
  go_wp2
  exact bodyPost_ret (step_end (rb:=w.heap.size) rfl _ rfl (set8 (rb:=w.heap.size) HB1.o _ _ _ _ _ _ _ _)) rfl ⟨none,0,⟨rfl,x05 HU1.o (Nat.le_refl _) _ _ _ _ _ _ _ _⟩,.inl rfl⟩
theorem Split12_calls {l:List Tok} {p:Int} (h:H6 w cb) (hr:tokR.row w F A l) (hlc:l.length<=c) (hb:l.length<=1048576 * 4) :
 Calls Tryz.prog 43 #[.pointer (some ⟨cb,0,none⟩),.slice A l.length c,.int .i64 p] w (fun r w'=>∃ B' c',Told (toldS (splS l p) (x26 l p)) B' c' (x26 l p) w r w'/\tokR.row w' (fun _=>True) B' (toldS (splS l p) (x26 l p)).sl):=by
 refine Split12_at (pe:=x0e l p p) (ar:=x04 l p) hr hb (fun W hW=>x2o (h.pure hW) (Rp.x01 hr hW) hb hlc) (fun W hW=>x25 (Rp.x01 hr hW) hb hlc) (fun i y p0 ha hy V A1 c1 hV hrow hc1=>?_) (fun p0 ha=>?_) (fun hp=>?_) (fun p0 ha=>?_) (fun he=>by rw[x0g he];rfl)
 ·have h1:(l[(x04 l p).toNat]?).getD shutT=y:=by rw[ha,show ((i:Int)).toNat=i by omega,hy];rfl
  have he:x26 l p=x08 l (repl p p [shutT,y]):=by unfold x26;rw[if_neg (by omega),if_neg (by omega),h1]
  have hs:splS l p=repl p p [shutT,y]:=by unfold splS;rw[h1]
  rw[he,hs]
  exact x59 (h.pure hV) (Rp.x01 hr hV) hb (dn_repl (sl:=[shutT,y]) (doc_ne (x16.1 p0).1) (Rp.x01 hr hV) hlc hrow hc1 (by simp))
 ·obtain⟨i,y,h1,h2,_,_⟩:=x20 (l:=l) (p:=p) (by omega)
  refine⟨i,y,h1,h2,fun he=>?_⟩
  rw[he,toldS_zero]
  unfold splS
  rw[h1,show ((i:Int)).toNat=i by omega,h2]
  rfl
 ·have he:x26 l p=x0e l p p:=by unfold x26;rw[if_pos hp]
  rw[he]
  exact⟨x0g hp,rfl⟩
 ·have he:x26 l p=6:=by unfold x26;rw[if_neg (by omega),if_pos ha]
  rw[he]
  exact⟨x0g (by decide),rfl⟩
theorem Retype12_at {F:Nat->Prop} {l:List Tok} {p t n e pe ar:Int} {rb:Bool} {s':StepD} (hb:l.length<=1048576 * 4) (hal:ar < l.length)
 (hp:∀ W,Pure w W->Calls Tryz.prog 86 #[.pointer (some ⟨cb,0,none⟩),.slice A l.length c,.int .i64 p,.int .i64 p] W (fun r w'=>r=.returned (.int .i64 pe)/\Pure W w'))
 (ha:∀ W,Pure w W->Calls Tryz.prog 74 #[.slice A l.length c,.int .i64 p] W (fun r w'=>r=.returned (.int .i64 ar)/\Pure W w'))
 (hrb:x0p (openT t n)=rb)
 (ht:pe=0->0<=ar->rb=true->∀ V A1 c1,Pure w V->tokR.row V (fun _=>True) A1 [openT t n]->1<=c1->Calls Tryz.prog 87 #[.pointer (some ⟨cb,0,none⟩),.slice A l.length c,(repl ar (ar+1) [openT t n]).val A1 c1] V (Told s' (toldB A1 e) (toldC c1 e) e V))
 (hi:pe=0->0<=ar->rb=true->e=0->s'.sl=[openT t n])
 (h0:pe ≠ 0->s'=repl 0 0 []/\e=pe) (h1:pe=0->ar < 0->s'=repl 0 0 []/\e=6) (h2:pe=0->0<=ar->rb=false->s'=repl 0 0 []/\e=1) (h3:e ≠ 0->s'.sl=[]) :
 Calls Tryz.prog 47 #[.pointer (some ⟨cb,0,none⟩),.slice A l.length c,.int .i64 p,.int .i64 t,.int .i64 n] w (fun r w'=>∃ B' c',Told s' B' c' e w r w'/\tokR.row w' (fun _=>True) B' s'.sl):=by
 have HP:=mK hp
 have HA:=mK ha
 clear hp ha
 by_cases p0:pe=0
 ·by_cases har:ar < 0
  ·obtain⟨rfl,rfl⟩:=h1 p0 har
   subst p0
   have a0:decide (ar < 0)=true:=decide_eq_true har
   clear ht hi h0 h1 h2 h3 har
   unfold Told StepD.val repl at *
   go_enter Tryz.func47,Tryz.ntmps47
   go_wp2_with (first | (go_at_call 74;refine(HA.o _ HU1.o).mono ?_;rintro r w2 ⟨rfl,hu⟩;have HB2:=mK (kP hu HB1.o);have HU2:=mK (HU1.o.tt hu);clear hu;apply As.o) | (go_at_call 86;refine(HP.o _ aU).mono ?_;rintro r w1 ⟨rfl,hu⟩;obtain⟨hb1,hu1⟩:=x0i hu;have HB1:=mK hb1;have HU1:=mK hu1;clear hu hb1 hu1))
   refine⟨?_⟩
   have hbl:w.heap.size < w2.heap.size:=lB HB2.o
   have hcf:=fZ HB2.o
   obtain⟨k0,k1,k2,k3,k4,k5,k6,k7⟩:=x06 HB2.o
   go_wp2
   exact bodyPost_ret (step_end (rb:=w.heap.size) rfl _ rfl (set8 (rb:=w.heap.size) HB2.o _ _ _ _ _ _ _ _)) rfl ⟨none,0,⟨rfl,x05 HU2.o (Nat.le_refl _) _ _ _ _ _ _ _ _⟩,.inl rfl⟩
  ·have a0:decide (ar < 0)=false:=decide_eq_false har
   cases hrbc:rb
   ·obtain⟨rfl,rfl⟩:=h2 p0 (by omega) hrbc
    rw[hrbc] at hrb
    subst p0
    have hd:=open_wrong hrb
    clear ht hi h0 h1 h2 h3 har hrb hrbc
    unfold Told StepD.val repl at *
    rcases hd with d | ⟨d1,d⟩ | ⟨d1,d2,d⟩ | ⟨d1,d2,d3,d⟩
    ·have e1:decide (t < 1)=true:=decide_eq_true (by omega)
     clear d
     go_enter Tryz.func47,Tryz.ntmps47
     go_wp2_with (first | (go_at_call 74;refine(HA.o _ HU1.o).mono ?_;rintro r w2 ⟨rfl,hu⟩;have HB2:=mK (kP hu HB1.o);have HU2:=mK (HU1.o.tt hu);clear hu;apply As.o) | (go_at_call 86;refine(HP.o _ aU).mono ?_;rintro r w1 ⟨rfl,hu⟩;obtain⟨hb1,hu1⟩:=x0i hu;have HB1:=mK hb1;have HU1:=mK hu1;clear hu hb1 hu1))
     refine⟨?_⟩
     have hbl:w.heap.size < w2.heap.size:=lB HB2.o
     have hcf:=fZ HB2.o
     obtain⟨k0,k1,k2,k3,k4,k5,k6,k7⟩:=x06 HB2.o
     go_wp2
     exact bodyPost_ret (step_end (rb:=w.heap.size) rfl _ rfl (set8 (rb:=w.heap.size) HB2.o _ _ _ _ _ _ _ _)) rfl ⟨none,0,⟨rfl,x05 HU2.o (Nat.le_refl _) _ _ _ _ _ _ _ _⟩,.inl rfl⟩
    ·have e1:decide (t < 1)=false:=decide_eq_false (by omega)
     have e2:decide (t >= 16)=true:=decide_eq_true (by omega)
     have f2:decide (16<=t)=true:=e2
     clear d d1
     go_enter Tryz.func47,Tryz.ntmps47
     go_wp2_with (first | (go_at_call 74;refine(HA.o _ HU1.o).mono ?_;rintro r w2 ⟨rfl,hu⟩;have HB2:=mK (kP hu HB1.o);have HU2:=mK (HU1.o.tt hu);clear hu;apply As.o) | (go_at_call 86;refine(HP.o _ aU).mono ?_;rintro r w1 ⟨rfl,hu⟩;obtain⟨hb1,hu1⟩:=x0i hu;have HB1:=mK hb1;have HU1:=mK hu1;clear hu hb1 hu1))
     refine⟨?_⟩
     have hbl:w.heap.size < w2.heap.size:=lB HB2.o
     have hcf:=fZ HB2.o
     obtain⟨k0,k1,k2,k3,k4,k5,k6,k7⟩:=x06 HB2.o
     go_wp2
     exact bodyPost_ret (step_end (rb:=w.heap.size) rfl _ rfl (set8 (rb:=w.heap.size) HB2.o _ _ _ _ _ _ _ _)) rfl ⟨none,0,⟨rfl,x05 HU2.o (Nat.le_refl _) _ _ _ _ _ _ _ _⟩,.inl rfl⟩
    ·have e1:decide (t < 1)=false:=decide_eq_false (by omega)
     have e2:decide (t >= 16)=false:=decide_eq_false (by omega)
     have f2:decide (16<=t)=false:=e2
     have e3:decide (n < 0)=true:=decide_eq_true (by omega)
     clear d d1 d2
     go_enter Tryz.func47,Tryz.ntmps47
     go_wp2_with (first | (go_at_call 74;refine(HA.o _ HU1.o).mono ?_;rintro r w2 ⟨rfl,hu⟩;have HB2:=mK (kP hu HB1.o);have HU2:=mK (HU1.o.tt hu);clear hu;apply As.o) | (go_at_call 86;refine(HP.o _ aU).mono ?_;rintro r w1 ⟨rfl,hu⟩;obtain⟨hb1,hu1⟩:=x0i hu;have HB1:=mK hb1;have HU1:=mK hu1;clear hu hb1 hu1))
     refine⟨?_⟩
     have hbl:w.heap.size < w2.heap.size:=lB HB2.o
     have hcf:=fZ HB2.o
     obtain⟨k0,k1,k2,k3,k4,k5,k6,k7⟩:=x06 HB2.o
     go_wp2
     exact bodyPost_ret (step_end (rb:=w.heap.size) rfl _ rfl (set8 (rb:=w.heap.size) HB2.o _ _ _ _ _ _ _ _)) rfl ⟨none,0,⟨rfl,x05 HU2.o (Nat.le_refl _) _ _ _ _ _ _ _ _⟩,.inl rfl⟩
    ·have e1:decide (t < 1)=false:=decide_eq_false (by omega)
     have e2:decide (t >= 16)=false:=decide_eq_false (by omega)
     have f2:decide (16<=t)=false:=e2
     have e3:decide (n < 0)=false:=decide_eq_false (by omega)
     have e4:decide (n > 15)=true:=decide_eq_true (by omega)
     have f4:decide (15 < n)=true:=e4
     clear d d1 d2 d3
     go_enter Tryz.func47,Tryz.ntmps47
     go_wp2_with (first | (go_at_call 74;refine(HA.o _ HU1.o).mono ?_;rintro r w2 ⟨rfl,hu⟩;have HB2:=mK (kP hu HB1.o);have HU2:=mK (HU1.o.tt hu);clear hu;apply As.o) | (go_at_call 86;refine(HP.o _ aU).mono ?_;rintro r w1 ⟨rfl,hu⟩;obtain⟨hb1,hu1⟩:=x0i hu;have HB1:=mK hb1;have HU1:=mK hu1;clear hu hb1 hu1))
     refine⟨?_⟩
     have hbl:w.heap.size < w2.heap.size:=lB HB2.o
     have hcf:=fZ HB2.o
     obtain⟨k0,k1,k2,k3,k4,k5,k6,k7⟩:=x06 HB2.o
     go_wp2
     exact bodyPost_ret (step_end (rb:=w.heap.size) rfl _ rfl (set8 (rb:=w.heap.size) HB2.o _ _ _ _ _ _ _ _)) rfl ⟨none,0,⟨rfl,x05 HU2.o (Nat.le_refl _) _ _ _ _ _ _ _ _⟩,.inl rfl⟩
   ·have HT:=mK (ht p0 (by omega) hrbc)
    have HR:=mK (And.intro (hi p0 (by omega) hrbc) h3)
    rw[hrbc] at hrb
    obtain⟨d1,d2,d3,d4⟩:=open_right hrb
    have e1:decide (t < 1)=false:=decide_eq_false (by omega)
    have e2:decide (t >= 16)=false:=decide_eq_false (by omega)
    have f2:decide (16<=t)=false:=e2
    have e3:decide (n < 0)=false:=decide_eq_false (by omega)
    have e4:decide (n > 15)=false:=decide_eq_false (by omega)
    have f4:decide (15 < n)=false:=e4
    have hw:IntKind.i64.wrap (ar+1)=ar+1:=IntWalk.i64_in _ (by omega)
    subst p0
    clear ht hi h0 h1 h2 h3 har hrb hrbc d1 d2 d3 d4
    unfold Told StepD.val at *
    generalize hs8:s'.sl=sl8 at *
    unfold repl at HT
    go_enter Tryz.func47,Tryz.ntmps47
    go_wp2_with (first | (go_at_call 74;refine(HA.o _ HU1.o).mono ?_;rintro r w2 ⟨rfl,hu⟩;have HB2:=mK (kP hu HB1.o);have HU2:=mK (HU1.o.tt hu);clear hu;apply As.o) | (go_at_call 86;refine(HP.o _ aU).mono ?_;rintro r w1 ⟨rfl,hu⟩;obtain⟨hb1,hu1⟩:=x0i hu;have HB1:=mK hb1;have HU1:=mK hu1;clear hu hb1 hu1))
    refine⟨?_⟩
    have HRW:=mK (show tokR.row (w2.alloc (.cells #[.int .i64 1,.int .i64 t,.int .i64 n,.int .i64 0] 71)) (fun k=>w2.heap.size<=k) (some ⟨w2.heap.size,0,none⟩) [openT t n] from x1a (F:=fun k=>w2.heap.size<=k) (heap_alloc_new w2 _) (Nat.le_refl _))
    go_wp2_with (go_at_call 87;refine(HT.o _ (some ⟨w2.heap.size,0,none⟩) 1 (HU2.o.alloc _) (Rp.x09 HRW.o (fun _ _=>trivial)) (Nat.le_refl 1)).mono ?_;rintro r w9 ⟨rfl,hu⟩;have hp9:=(Upd.alloc1 (fun _=>False) w2 _).tt hu;have HB9:=mK (kP hp9 HB2.o);have HU9:=mK (HU2.o.tt hp9);have HR9:=mK (Rp.x01 HRW.o hu);clear hu hp9;apply As.o)
    refine⟨?_⟩
    have HL2:=mK (lt_of_block HB2.o)
    have HRR:=mK (show tokR.row w9 (fun k=>w.heap.size < k) (toldB (some ⟨w2.heap.size,0,none⟩) e) sl8 from(x29 (e:=e) HR.o.1 HR.o.2 (Rp.x09 HR9.o (fun k hk=>by have:=HL2.o;omega)) (c:=1) (Nat.le_refl 1)).1)
    have hbl:w.heap.size < w9.heap.size:=lB HB9.o
    have hcf:=fZ HB9.o
    obtain⟨k0,k1,k2,k3,k4,k5,k6,k7⟩:=x06 HB9.o
    go_wp2
    exact bodyPost_ret (step_end (rb:=w.heap.size) rfl _ rfl (set8 (rb:=w.heap.size) HB9.o _ _ _ _ _ _ _ _)) rfl ⟨_,_,⟨rfl,x05 HU9.o (Nat.le_refl _) _ _ _ _ _ _ _ _⟩,Rp.x09 (Rp.x0f HRR.o (x0b rU _ _ _ _ _ _ _ _) (fun k _ h e=>by omega)) (fun _ _=>trivial)⟩
 ·obtain⟨rfl,rfl⟩:=h0 p0
  have f0:(e != 0)=true:=by simpa using p0
  clear ht hi h0 h1 h2 h3 p0 hrb
  unfold Told StepD.val repl at *
  go_enter Tryz.func47,Tryz.ntmps47
  go_wp2_with (go_at_call 86;refine(HP.o _ aU).mono ?_;rintro r w1 ⟨rfl,hu⟩;obtain⟨hb1,hu1⟩:=x0i hu;have HB1:=mK hb1;have HU1:=mK hu1;clear hu hb1 hu1;apply As.o)
  refine⟨?_⟩
  have hbl:w.heap.size < w1.heap.size:=lB HB1.o
  have hcf:=fZ HB1.o
  obtain⟨k0,k1,k2,k3,k4,k5,k6,k7⟩:=x06 HB1.o
  go_wp2
  exact bodyPost_ret (step_end (rb:=w.heap.size) rfl _ rfl (set8 (rb:=w.heap.size) HB1.o _ _ _ _ _ _ _ _)) rfl ⟨none,0,⟨rfl,x05 HU1.o (Nat.le_refl _) _ _ _ _ _ _ _ _⟩,.inl rfl⟩
theorem Retype12_calls {l:List Tok} {p t n:Int} (h:H6 w cb) (hr:tokR.row w F A l) (hlc:l.length<=c) (hb:l.length<=1048576 * 4) :
 Calls Tryz.prog 47 #[.pointer (some ⟨cb,0,none⟩),.slice A l.length c,.int .i64 p,.int .i64 t,.int .i64 n] w (fun r w'=>∃ B' c',Told (toldS (repl (x04 l p) (x04 l p+1) [openT t n]) (x1u l p t n)) B' c' (x1u l p t n) w r w'/\tokR.row w' (fun _=>True) B' (toldS (repl (x04 l p) (x04 l p+1) [openT t n]) (x1u l p t n)).sl):=by
 refine Retype12_at (F:=F) (pe:=x0e l p p) (ar:=x04 l p) (rb:=x0p (openT t n)) hb (around_lt l p) (fun W hW=>x2o (h.pure hW) (Rp.x01 hr hW) hb hlc) (fun W hW=>x25 (Rp.x01 hr hW) hb hlc) rfl (fun p0 ha hq V A1 c1 hV hrow hc1=>?_) (fun p0 ha hq he=>?_) (fun hp=>?_) (fun p0 ha=>?_) (fun p0 ha hq=>?_) (fun he=>by rw[x0g he];rfl)
 ·have he:x1u l p t n=x08 l (repl (x04 l p) (x04 l p+1) [openT t n]):=by unfold x1u;rw[if_neg (by omega),if_neg (by omega),if_neg (by rw[hq];decide)]
  rw[he]
  exact x59 (h.pure hV) (Rp.x01 hr hV) hb (dn_repl (sl:=[openT t n]) (doc_ne (x16.1 p0).1) (Rp.x01 hr hV) hlc hrow hc1 (by simp))
 ·rw[he];rfl
 ·have he:x1u l p t n=x0e l p p:=by unfold x1u;rw[if_pos hp]
  rw[he]
  exact⟨x0g hp,rfl⟩
 ·have he:x1u l p t n=6:=by unfold x1u;rw[if_neg (by omega),if_pos ha]
  rw[he]
  exact⟨x0g (by decide),rfl⟩
 ·have he:x1u l p t n=1:=by unfold x1u;rw[if_neg (by omega),if_neg (by omega),if_pos hq]
  rw[he]
  exact⟨x0g (by decide),rfl⟩
theorem Join12_at {b o:Nat} {l:List Tok} {p e pe:Int} {s':StepD} (hrow:tokR.row w F (some ⟨b,o,none⟩) l) (hb:l.length<=1048576 * 4)
 (hp:∀ W,Pure w W->Calls Tryz.prog 86 #[.pointer (some ⟨cb,0,none⟩),.slice (some ⟨b,o,none⟩) l.length c,.int .i64 p,.int .i64 p] W (fun r w'=>r=.returned (.int .i64 pe)/\Pure W w'))
 (ht:pe=0->joinAt l p->∀ V,Pure w V->Calls Tryz.prog 87 #[.pointer (some ⟨cb,0,none⟩),.slice (some ⟨b,o,none⟩) l.length c,(repl (p - 1) (p+1) []).val none 0] V (Told s' none 0 e V))
 (h0:pe ≠ 0->s'=repl 0 0 []/\e=pe) (h1:pe=0->¬ joinAt l p->s'=repl 0 0 []/\e=6) (h2:pe=0->0<=p/\p<=l.length) :
 Calls Tryz.prog 45 #[.pointer (some ⟨cb,0,none⟩),.slice (some ⟨b,o,none⟩) l.length c,.int .i64 p] w (Told s' none 0 e w):=by
 have HP:=mK hp
 clear hp
 by_cases p0:pe=0
 ·obtain⟨g1,g2⟩:=h2 p0
  rcases join_cases l g1 g2 with hz | ⟨hz,hl⟩ | ⟨q,x,y,hq,hx,hy⟩
  ·obtain⟨rfl,rfl⟩:=h1 p0 (fun ⟨q,_,_,hq,_⟩=>by omega)
   subst p0 hz
   clear ht h0 h1 h2 hrow g1 g2
   unfold Told StepD.val repl at *
   go_enter Tryz.func45,Tryz.ntmps45
   go_wp2_with (go_at_call 86;refine(HP.o _ aU).mono ?_;rintro r w1 ⟨rfl,hu⟩;obtain⟨hb1,hu1⟩:=x0i hu;have HB1:=mK hb1;have HU1:=mK hu1;clear hu hb1 hu1;apply As.o)
   refine⟨?_⟩
   have hbl:w.heap.size < w1.heap.size:=lB HB1.o
   have hcf:=fZ HB1.o
   obtain⟨k0,k1,k2,k3,k4,k5,k6,k7⟩:=x06 HB1.o
   go_wp2
   exact bodyPost_ret (step_end (rb:=w.heap.size) rfl _ rfl (set8 (rb:=w.heap.size) HB1.o _ _ _ _ _ _ _ _)) rfl ⟨rfl,x05 HU1.o (Nat.le_refl _) _ _ _ _ _ _ _ _⟩
  ·obtain⟨rfl,rfl⟩:=h1 p0 (fun ⟨q,_,_,hq,_,h9,_⟩=>by have:=(List.getElem?_eq_some_iff.1 h9).1;omega)
   subst p0
   have j1:(p == 0)=false:=by simpa using hz
   have j2:(p == (l.length:Int))=true:=by simpa using hl
   clear ht h0 h1 h2 hrow g1 g2 hz hl
   unfold Told StepD.val repl at *
   go_enter Tryz.func45,Tryz.ntmps45
   go_wp2_with (go_at_call 86;refine(HP.o _ aU).mono ?_;rintro r w1 ⟨rfl,hu⟩;obtain⟨hb1,hu1⟩:=x0i hu;have HB1:=mK hb1;have HU1:=mK hu1;clear hu hb1 hu1;apply As.o)
   refine⟨?_⟩
   have hbl:w.heap.size < w1.heap.size:=lB HB1.o
   have hcf:=fZ HB1.o
   obtain⟨k0,k1,k2,k3,k4,k5,k6,k7⟩:=x06 HB1.o
   go_wp2
   exact bodyPost_ret (step_end (rb:=w.heap.size) rfl _ rfl (set8 (rb:=w.heap.size) HB1.o _ _ _ _ _ _ _ _)) rfl ⟨rfl,x05 HU1.o (Nat.le_refl _) _ _ _ _ _ _ _ _⟩
  ·obtain⟨b1,o1,hA,_,hbt,q0,_,_,_⟩:=x0j hrow hx
   obtain⟨b2,o2,hA2,_,_,d0,_,_,_⟩:=x0j hrow hy
   cases hA
   cases hA2
   have ml:=(List.getElem?_eq_some_iff.1 hy).1
   have HQ:=mK (And.intro q0 d0)
   have HBL:=mK hbt
   have j1:(p == 0)=false:=by simp;omega
   have j2:(p == (l.length:Int))=false:=by simp;omega
   have hw1:IntKind.i64.wrap (p - 1)=(q:Int):=by rw[IntWalk.i64_in _ (by omega)];omega
   have hw2:IntKind.i64.wrap (p+1)=p+1:=IntWalk.i64_in _ (by omega)
   by_cases hxk:x.k=2
   ·by_cases hyk:y.k=1
    ·have HT:=mK (ht p0 ⟨q,x,y,hq,hx,hy,hxk,hyk⟩)
     rw[hxk,hyk] at HQ
     subst p0
     have hpq:p - 1=(q:Int):=by omega
     rw[hpq] at HT
     obtain⟨m,hm⟩:∃ m:Nat,q+1=m:=⟨_,rfl⟩
     obtain rfl:p=(m:Int):=by omega
     rw[hm] at HQ
     clear ht h0 h1 h2 hrow g1 g2 hx hy hxk hyk q0 d0 hbt hq hpq
     have i3:q < l.length:=by omega
     have i4:m < l.length:=by omega
     clear hm ml
     unfold Told StepD.val at *
     unfold repl at HT
     go_enter Tryz.func45,Tryz.ntmps45
     go_wp2_with (go_at_call 86;refine(HP.o _ aU).mono ?_;rintro r w1 ⟨rfl,hu⟩;obtain⟨hb1,hu1⟩:=x0i hu;have HB1:=mK hb1;have HU1:=mK hu1;clear hu hb1 hu1;apply As.o)
     refine⟨?_⟩
     have z0:=(HU1.o.cell HBL.o (fun h=>h)).trans HQ.o.1
     have z1:=(HU1.o.cell HBL.o (fun h=>h)).trans HQ.o.2
     go_wp2_with (go_at_call 87;refine(HT.o _ HU1.o).mono ?_;rintro r w9 ⟨rfl,hu⟩;have HB9:=mK (kP hu HB1.o);have HU9:=mK (HU1.o.tt hu);clear hu;apply As.o)
     refine⟨?_⟩
     have hbl:w.heap.size < w9.heap.size:=lB HB9.o
     have hcf:=fZ HB9.o
     obtain⟨k0,k1,k2,k3,k4,k5,k6,k7⟩:=x06 HB9.o
     go_wp2
     exact bodyPost_ret (step_end (rb:=w.heap.size) rfl _ rfl (set8 (rb:=w.heap.size) HB9.o _ _ _ _ _ _ _ _)) rfl ⟨rfl,x05 HU9.o (Nat.le_refl _) _ _ _ _ _ _ _ _⟩
    ·obtain⟨rfl,rfl⟩:=h1 p0 (fun ⟨q',x',y',hq',_,hy',_,hk'⟩=>by
      obtain rfl:q'=q:=by omega
      rw[hy] at hy'
      cases hy'
      exact hyk hk')
     rw[hxk] at HQ
     have n2:(y.k != 1)=true:=by simpa using hyk
     subst p0
     obtain⟨m,hm⟩:∃ m:Nat,q+1=m:=⟨_,rfl⟩
     obtain rfl:p=(m:Int):=by omega
     rw[hm] at HQ
     clear ht h0 h1 h2 hrow g1 g2 hx hy hxk hyk q0 d0 hbt hq
     have i3:q < l.length:=by omega
     have i4:m < l.length:=by omega
     clear hm ml
     unfold Told StepD.val repl at *
     go_enter Tryz.func45,Tryz.ntmps45
     go_wp2_with (go_at_call 86;refine(HP.o _ aU).mono ?_;rintro r w1 ⟨rfl,hu⟩;obtain⟨hb1,hu1⟩:=x0i hu;have HB1:=mK hb1;have HU1:=mK hu1;clear hu hb1 hu1;apply As.o)
     refine⟨?_⟩
     have z0:=(HU1.o.cell HBL.o (fun h=>h)).trans HQ.o.1
     have z1:=(HU1.o.cell HBL.o (fun h=>h)).trans HQ.o.2
     have hbl:w.heap.size < w1.heap.size:=lB HB1.o
     have hcf:=fZ HB1.o
     obtain⟨k0,k1,k2,k3,k4,k5,k6,k7⟩:=x06 HB1.o
     go_wp2
     exact bodyPost_ret (step_end (rb:=w.heap.size) rfl _ rfl (set8 (rb:=w.heap.size) HB1.o _ _ _ _ _ _ _ _)) rfl ⟨rfl,x05 HU1.o (Nat.le_refl _) _ _ _ _ _ _ _ _⟩
   ·obtain⟨rfl,rfl⟩:=h1 p0 (fun ⟨q',x',y',hq',hx',_,hk',_⟩=>by
     obtain rfl:q'=q:=by omega
     rw[hx] at hx'
     cases hx'
     exact hxk hk')
    have n1:(x.k != 2)=true:=by simpa using hxk
    subst p0
    obtain⟨m,hm⟩:∃ m:Nat,q+1=m:=⟨_,rfl⟩
    obtain rfl:p=(m:Int):=by omega
    rw[hm] at HQ
    clear ht h0 h1 h2 hrow g1 g2 hx hy hxk q0 d0 hbt hq
    have i3:q < l.length:=by omega
    clear hm ml
    unfold Told StepD.val repl at *
    go_enter Tryz.func45,Tryz.ntmps45
    go_wp2_with (go_at_call 86;refine(HP.o _ aU).mono ?_;rintro r w1 ⟨rfl,hu⟩;obtain⟨hb1,hu1⟩:=x0i hu;have HB1:=mK hb1;have HU1:=mK hu1;clear hu hb1 hu1;apply As.o)
    refine⟨?_⟩
    have z0:=(HU1.o.cell HBL.o (fun h=>h)).trans HQ.o.1
    have hbl:w.heap.size < w1.heap.size:=lB HB1.o
    have hcf:=fZ HB1.o
    obtain⟨k0,k1,k2,k3,k4,k5,k6,k7⟩:=x06 HB1.o
    go_wp2
    exact bodyPost_ret (step_end (rb:=w.heap.size) rfl _ rfl (set8 (rb:=w.heap.size) HB1.o _ _ _ _ _ _ _ _)) rfl ⟨rfl,x05 HU1.o (Nat.le_refl _) _ _ _ _ _ _ _ _⟩
 ·obtain⟨rfl,rfl⟩:=h0 p0
  have f0:(e != 0)=true:=by simpa using p0
  clear ht h0 h1 h2 hrow p0
  unfold Told StepD.val repl at *
  go_enter Tryz.func45,Tryz.ntmps45
  go_wp2_with (go_at_call 86;refine(HP.o _ aU).mono ?_;rintro r w1 ⟨rfl,hu⟩;obtain⟨hb1,hu1⟩:=x0i hu;have HB1:=mK hb1;have HU1:=mK hu1;clear hu hb1 hu1;apply As.o)
  refine⟨?_⟩
  have hbl:w.heap.size < w1.heap.size:=lB HB1.o
  have hcf:=fZ HB1.o
  obtain⟨k0,k1,k2,k3,k4,k5,k6,k7⟩:=x06 HB1.o
  go_wp2
  exact bodyPost_ret (step_end (rb:=w.heap.size) rfl _ rfl (set8 (rb:=w.heap.size) HB1.o _ _ _ _ _ _ _ _)) rfl ⟨rfl,x05 HU1.o (Nat.le_refl _) _ _ _ _ _ _ _ _⟩
open Classical in
theorem Join12_calls {l:List Tok} {p:Int} (h:H6 w cb) (hne:l ≠ []) (hr:tokR.row w F A l) (hlc:l.length<=c) (hb:l.length<=1048576 * 4) :
 Calls Tryz.prog 45 #[.pointer (some ⟨cb,0,none⟩),.slice A l.length c,.int .i64 p] w (Told (toldS (repl (p - 1) (p+1) []) (x22 l p)) none 0 (x22 l p) w):=by
 obtain⟨b,o,rfl⟩:=x35 hr hne
 refine Join12_at (F:=F) (pe:=x0e l p p) hr hb (fun W hW=>x2o (h.pure hW) (Rp.x01 hr hW) hb hlc) (fun p0 ha V hV=>?_) (fun hp=>?_) (fun p0 ha=>?_) (fun p0=>⟨(x16.1 p0).2.1,(x16.1 p0).2.2.2⟩)
 ·have he:x22 l p=x08 l (repl (p - 1) (p+1) []):=by unfold x22;rw[if_neg (by omega),if_pos ha]
  rw[he]
  exact(x59 (h.pure hV) (Rp.x01 hr hV) hb (dn_repl (G:=fun _=>True) (sl:=[]) (B:=none) (cb:=0) (doc_ne (x16.1 p0).1) (Rp.x01 hr hV) hlc (.inl rfl) (Nat.le_refl 0) (Nat.zero_le _))).mono (fun r w' hh=>by
   have h1:toldB (none:Option Addr) (x08 l (repl (p - 1) (p+1) []))=none:=by unfold toldB;split <;> rfl
   have h2:toldC 0 (x08 l (repl (p - 1) (p+1) []))=0:=by unfold toldC;split <;> rfl
   rw[h1,h2] at hh
   exact hh)
 ·have he:x22 l p=x0e l p p:=by unfold x22;rw[if_pos hp]
  rw[he]
  exact⟨x0g hp,rfl⟩
 ·have he:x22 l p=6:=by unfold x22;rw[if_neg (by omega),if_neg ha]
  rw[he]
  exact⟨x0g (by decide),rfl⟩
end Go.Proofs.YtofjodppljnlaaaGreatDoor
namespace Go.Proofs.YtofjodppljnlaaaGreatDoor
open Go.RowKit
theorem Join_any {l:List Tok} {p:Int} (h:SchR w cb x02 x07) (hr:tokR.row w F A l) (hlc:l.length<=c) (hb:l.length<=1048576 * 4) :
 Calls Tryz.prog 44 #[.pointer (some ⟨cb,0,none⟩),.slice A l.length c,.int .i64 p] w (Told (toldS (repl (p - 1) (p+1) []) (x22 l p)) none 0 (x22 l p) w):=by
 have hpl:=fun W (hW:Pure w W)=>x34 (f:=p) (t:=p) (c:=c) (h.pure hW) (Rp.x01 hr hW) hb
 by_cases p0:x0e l p p=0
 ·obtain⟨hc,q0,_,q1⟩:=x16.1 p0
  have hne:=x3b hc
  rw[p0] at hpl
  have hno:∀ {r:Ending} {w':World},¬ joinAt l p->Told (repl 0 0 []) none 0 6 w r w'->Told (toldS (repl (p - 1) (p+1) []) (x22 l p)) none 0 (x22 l p) w r w':=fun ha h1=>by
   have he:x22 l p=6:=by unfold x22;rw[if_neg (by omega),if_neg ha]
   rw[he,x0g (by decide)]
   exact h1
  by_cases p1:p=0
  ·exact(Join_far hpl (.inr (.inl ⟨rfl,p1,rfl⟩))).mono fun r w' h1=>hno (fun ⟨q,_,_,hq,_⟩=>by omega) h1
  ·by_cases p2:p=(l.length:Int)
   ·exact(Join_far hpl (.inr (.inr ⟨rfl,p1,p2,rfl⟩))).mono fun r w' h1=>hno (fun ⟨q,_,_,hq,_,h9,_⟩=>by have:=(List.getElem?_eq_some_iff.1 h9).1;omega) h1
   ·obtain⟨m,rfl⟩:=Int.eq_ofNat_of_zero_le q0
    obtain⟨q,rfl⟩:∃ q,m=q+1:=⟨m - 1,by omega⟩
    obtain⟨bA,oA,rfl⟩:=x35 hr hne
    obtain⟨x,hx⟩:∃ x,l[q]?=some x:=⟨_,List.getElem?_eq_getElem (by omega)⟩
    obtain⟨y,hy⟩:∃ y,l[q+1]?=some y:=⟨_,List.getElem?_eq_getElem (by omega)⟩
    by_cases hxs:x=shutT
    ·by_cases hyk:y.k=1
     ·have hja:joinAt l ((q+1:Nat):Int):=⟨q,x,y,by omega,hx,hy,by rw[hxs],hyk⟩
      rw[hxs] at hx
      have he:x22 l ((q+1:Nat):Int)=x08 l (repl (((q+1:Nat):Int) - 1) (((q+1:Nat):Int)+1) []):=by unfold x22;rw[if_neg (by omega),if_pos hja]
      rw[he]
      have hq1:((q+1:Nat):Int) - 1=(q:Int):=by omega
      rw[hq1]
      refine Join_go hr rfl hx hy hyk hb hpl (fun W hW=>?_)
      have:=x60 (f:=(q:Int)) (t:=((q+1:Nat):Int)+1) (B:=none) (cs:=0) (sl:=[]) (G:=fun _=>True) (h.pure hW) hne (Rp.x01 hr hW) hlc hb (.inl rfl) (Nat.le_refl _) (by simp)
      have hB:toldB none (x08 l (repl (q:Nat) (((q+1:Nat):Int)+1) []))=none:=by unfold toldB;split <;> rfl
      have hC:toldC 0 (x08 l (repl (q:Nat) (((q+1:Nat):Int)+1) []))=0:=by unfold toldC;split <;> rfl
      rw[hB,hC] at this
      exact this
     ·rw[hxs] at hx
      refine(Join_right hr rfl hx hy hyk hb hpl).mono fun r w' h1=>hno (fun ⟨q',x',y',hq',_,hy',_,hk'⟩=>?_) h1
      obtain rfl:q'=q:=by omega
      rw[hy] at hy'
      cases hy'
      exact hyk hk'
    ·refine(Join_left hr rfl hx hxs (by omega) hb hpl).mono fun r w' h1=>hno (fun ⟨q',x',y',hq',hx',_,hk',_⟩=>?_) h1
     obtain rfl:q'=q:=by omega
     rw[hx] at hx'
     cases hx'
     exact hxs (shut_of (x65 (flat_of_house hc) x (List.mem_of_getElem? hx)) hk')
 ·have he:x22 l p=x0e l p p:=by unfold x22;rw[if_pos p0]
  rw[he,x0g p0]
  exact Join_far hpl (.inl ⟨p0,rfl⟩)
theorem Lift12_no {n:Nat} {p pe al ab e:Int} {s':StepD}
 (hp:∀ W,Pure w W->Calls Tryz.prog 86 #[.pointer (some ⟨cb,0,none⟩),.slice A n c,.int .i64 p,.int .i64 p] W (fun r w'=>r=.returned (.int .i64 pe)/\Pure W w'))
 (ha1:∀ W,Pure w W->Calls Tryz.prog 74 #[.slice A n c,.int .i64 p] W (fun r w'=>r=.returned (.int .i64 al)/\Pure W w'))
 (ha2:∀ W,Pure w W->Calls Tryz.prog 74 #[.slice A n c,.int .i64 (max al 0)] W (fun r w'=>r=.returned (.int .i64 ab)/\Pure W w'))
 (hn:(pe ≠ 0/\e=pe)\/(pe=0/\al < 0/\e=6)\/(pe=0/\0<=al/\ab < 0/\e=6)) (hs:s'=repl 0 0 []) :
 Calls Tryz.prog 49 #[.pointer (some ⟨cb,0,none⟩),.slice A n c,.int .i64 p] w (fun r w'=>∃ B' c',Told s' B' c' e w r w'/\tokR.row w' (fun _=>True) B' s'.sl):=by
 subst hs
 have HP:=mK hp
 have HA1:=mK ha1
 clear hp ha1
 unfold Told StepD.val repl at *
 rcases hn with ⟨p0,rfl⟩ | ⟨rfl,a0,rfl⟩ | ⟨rfl,a0,a1,rfl⟩
 ·have f0:(e != 0)=true:=by simpa using p0
  clear p0 ha2
  go_enter Tryz.func49,Tryz.ntmps49
  go_wp2_with (go_at_call 86;refine(HP.o _ aU).mono ?_;rintro r w1 ⟨rfl,hu⟩;obtain⟨hb1,hu1⟩:=x0i hu;have HB1:=mK hb1;have HU1:=mK hu1;clear hu hb1 hu1;apply As.o)
  refine⟨?_⟩
  have hbl:w.heap.size < w1.heap.size:=lB HB1.o
  have hcf:=fZ HB1.o
  obtain⟨k0,k1,k2,k3,k4,k5,k6,k7⟩:=x06 HB1.o
  go_wp2
  exact bodyPost_ret (step_end (rb:=w.heap.size) rfl _ rfl (set8 (rb:=w.heap.size) HB1.o _ _ _ _ _ _ _ _)) rfl ⟨none,0,⟨rfl,x05 HU1.o (Nat.le_refl _) _ _ _ _ _ _ _ _⟩,.inl rfl⟩
 ·have hm:max al 0=0:=by omega
  rw[hm] at ha2
  have HA2:=mK ha2
  have d0:decide (al < 0)=true:=decide_eq_true a0
  clear ha2
  go_enter Tryz.func49,Tryz.ntmps49
  go_wp2_with (go_at_call 86;refine(HP.o _ aU).mono ?_;rintro r w1 ⟨rfl,hu⟩;obtain⟨hb1,hu1⟩:=x0i hu;have HB1:=mK hb1;have HU1:=mK hu1;clear hu hb1 hu1;apply As.o)
  refine⟨?_⟩
  go_wp2_with (go_at_call 74;refine(HA1.o _ HU1.o).mono ?_;rintro r wa ⟨rfl,hu⟩;have HBa:=mK (kP hu HB1.o);have HUa:=mK (HU1.o.tt hu);clear hu;apply As.o)
  refine⟨?_⟩
  go_wp2_with (go_at_call 74;refine(HA2.o _ HUa.o).mono ?_;rintro r wb ⟨rfl,hu⟩;have HBb:=mK (kP hu HBa.o);have HUb:=mK (HUa.o.tt hu);clear hu;apply As.o)
  refine⟨?_⟩
  have hbl:w.heap.size < wb.heap.size:=lB HBb.o
  have hcf:=fZ HBb.o
  obtain⟨k0,k1,k2,k3,k4,k5,k6,k7⟩:=x06 HBb.o
  go_wp2
  exact bodyPost_ret (step_end (rb:=w.heap.size) rfl _ rfl (set8 (rb:=w.heap.size) HBb.o _ _ _ _ _ _ _ _)) rfl ⟨none,0,⟨rfl,x05 HUb.o (Nat.le_refl _) _ _ _ _ _ _ _ _⟩,.inl rfl⟩
 ·have hm:max al 0=al:=by omega
  rw[hm] at ha2
  have HA2:=mK ha2
  have d0:decide (al < 0)=false:=decide_eq_false (by omega)
  have d1:decide (ab < 0)=true:=decide_eq_true a1
  clear ha2
  go_enter Tryz.func49,Tryz.ntmps49
  go_wp2_with (go_at_call 86;refine(HP.o _ aU).mono ?_;rintro r w1 ⟨rfl,hu⟩;obtain⟨hb1,hu1⟩:=x0i hu;have HB1:=mK hb1;have HU1:=mK hu1;clear hu hb1 hu1;apply As.o)
  refine⟨?_⟩
  go_wp2_with (go_at_call 74;refine(HA1.o _ HU1.o).mono ?_;rintro r wa ⟨rfl,hu⟩;have HBa:=mK (kP hu HB1.o);have HUa:=mK (HU1.o.tt hu);clear hu;apply As.o)
  refine⟨?_⟩
  go_wp2_with (go_at_call 74;refine(HA2.o _ HUa.o).mono ?_;rintro r wb ⟨rfl,hu⟩;have HBb:=mK (kP hu HBa.o);have HUb:=mK (HUa.o.tt hu);clear hu;apply As.o)
  refine⟨?_⟩
  have hbl:w.heap.size < wb.heap.size:=lB HBb.o
  have hcf:=fZ HBb.o
  obtain⟨k0,k1,k2,k3,k4,k5,k6,k7⟩:=x06 HBb.o
  go_wp2
  exact bodyPost_ret (step_end (rb:=w.heap.size) rfl _ rfl (set8 (rb:=w.heap.size) HBb.o _ _ _ _ _ _ _ _)) rfl ⟨none,0,⟨rfl,x05 HUb.o (Nat.le_refl _) _ _ _ _ _ _ _ _⟩,.inl rfl⟩
theorem Lift12_ff {F:Nat->Prop} {b q n:Nat} {p pb pq e:Int} {s':StepD}
 (hp:∀ W,Pure w W->Calls Tryz.prog 86 #[.pointer (some ⟨cb,0,none⟩),.slice A n c,.int .i64 p,.int .i64 p] W (fun r w'=>r=.returned (.int .i64 0)/\Pure W w'))
 (ha1:∀ W,Pure w W->Calls Tryz.prog 74 #[.slice A n c,.int .i64 p] W (fun r w'=>r=.returned (.int .i64 (b:Nat))/\Pure W w'))
 (ha2:∀ W,Pure w W->Calls Tryz.prog 74 #[.slice A n c,.int .i64 (b:Nat)] W (fun r w'=>r=.returned (.int .i64 (q:Nat))/\Pure W w'))
 (hp1:∀ W,Pure w W->Calls Tryz.prog 77 #[.slice A n c,.int .i64 (b:Nat)] W (fun r w'=>r=.returned (.int .i64 pb)/\Pure W w'))
 (hp2:∀ W,Pure w W->Calls Tryz.prog 77 #[.slice A n c,.int .i64 (q:Nat)] W (fun r w'=>r=.returned (.int .i64 pq)/\Pure W w'))
 (hnb:n<=1048576 * 4) (hbl:b < n) (hql:q < n) (hpb:-1<=pb/\pb < n) (hpq:-1<=pq/\pq < n)
 (hf:(b:Int)=(q:Int)+1) (hl:pb+1=pq)
 (ht:∀ V A1 c1,Pure w V->tokR.row V (fun _=>True) A1 []->([]:List Tok).length<=c1->(([]:List Tok)=[]->A1=none/\c1=0)->Calls Tryz.prog 87 #[.pointer (some ⟨cb,0,none⟩),.slice A n c,(arnd q (pq+1) b (pb+1) 0 []).val A1 c1] V (Told s' (toldB A1 e) (toldC c1 e) e V))
 (h2:s'.sl=[]) :
 Calls Tryz.prog 49 #[.pointer (some ⟨cb,0,none⟩),.slice A n c,.int .i64 p] w (fun r w'=>∃ B' c',Told s' B' c' e w r w'/\tokR.row w' (fun _=>True) B' s'.sl):=by
 have HP:=mK hp
 have HA1:=mK ha1
 have HA2:=mK ha2
 have HP1:=mK hp1
 have HP2:=mK hp2
 have HT:=mK ht
 have HS:=mK h2
 have hm:max (b:Int) 0=(b:Int):=by omega
 have d0:decide ((b:Int) < 0)=false:=decide_eq_false (by omega)
 have d1:decide ((q:Int) < 0)=false:=decide_eq_false (by omega)
 have hw1:IntKind.i64.wrap ((q:Int)+1)=(q:Int)+1:=IntWalk.i64_in _ (by omega)
 have hw2:IntKind.i64.wrap (pb+1)=pb+1:=IntWalk.i64_in _ (by omega)
 have hw3:IntKind.i64.wrap (pq+1)=pq+1:=IntWalk.i64_in _ (by omega)
 have y1:((b:Int) == (q:Int)+1)=true:=by simpa using hf
 have y2:(pb+1 == pq)=true:=by simpa using hl
 clear hp ha1 ha2 hp1 hp2 ht h2 hf hl
 unfold Told StepD.val at *
 unfold arnd at HT
 go_enter Tryz.func49,Tryz.ntmps49
 go_wp2_with (go_at_call 86;refine(HP.o _ aU).mono ?_;rintro r w1 ⟨rfl,hu⟩;obtain⟨hb1,hu1⟩:=x0i hu;have HB1:=mK hb1;have HU1:=mK hu1;clear hu hb1 hu1;apply As.o)
 refine⟨?_⟩
 go_wp2_with (go_at_call 74;refine(HA1.o _ HU1.o).mono ?_;rintro r wa ⟨rfl,hu⟩;have HBa:=mK (kP hu HB1.o);have HUa:=mK (HU1.o.tt hu);clear hu;apply As.o)
 refine⟨?_⟩
 go_wp2_with (go_at_call 74;refine(HA2.o _ HUa.o).mono ?_;rintro r wb ⟨rfl,hu⟩;have HBb:=mK (kP hu HBa.o);have HUb:=mK (HUa.o.tt hu);clear hu;apply As.o)
 refine⟨?_⟩
 go_wp2_with (go_at_call 77;refine(HP1.o _ HUb.o).mono ?_;rintro r wc ⟨rfl,hu⟩;have HBc:=mK (kP hu HBb.o);have HUc:=mK (HUb.o.tt hu);clear hu;apply As.o)
 refine⟨?_⟩
 go_wp2_with (go_at_call 77;refine(HP2.o _ HUc.o).mono ?_;rintro r wd ⟨rfl,hu⟩;have HBd:=mK (kP hu HBc.o);have HUd:=mK (HUc.o.tt hu);clear hu;apply As.o)
 refine⟨?_⟩
 go_wp2_with (go_at_call 87;apply As.o)
 refine⟨?_⟩
 have hp8:∀ x y,Pure wd ((wd.alloc x).alloc y):=fun x y=>(Upd.alloc1 (fun _=>False) wd x).alloc y
 refine(HT.o _ none 0 (HUd.o.trans (hp8 _ _) (fun _ _ h=>h)) (.inl rfl) (Nat.le_refl 0) (fun _=>⟨rfl,rfl⟩)).mono ?_
 rintro r w9 ⟨rfl,hu⟩
 have hp9:=(hp8 _ _).tt hu
 have HB9:=mK (kP hp9 HBd.o)
 have HU9:=mK (HUd.o.tt hp9)
 clear hu hp8 hp9
 have hbl:w.heap.size < w9.heap.size:=lB HB9.o
 have hcf:=fZ HB9.o
 obtain⟨k0,k1,k2,k3,k4,k5,k6,k7⟩:=x06 HB9.o
 go_wp2
 exact bodyPost_ret (step_end (rb:=w.heap.size) rfl _ rfl (set8 (rb:=w.heap.size) HB9.o _ _ _ _ _ _ _ _)) rfl ⟨_,_,⟨rfl,x05 HU9.o (Nat.le_refl _) _ _ _ _ _ _ _ _⟩,by rw[HS.o];unfold toldB;split <;> exact .inl rfl⟩
theorem Lift12_fn {bA oA:Nat} {b q:Nat} {l:List Tok} {y:Tok} {p pb pq e:Int} {s':StepD}
 (hp:∀ W,Pure w W->Calls Tryz.prog 86 #[.pointer (some ⟨cb,0,none⟩),.slice (some ⟨bA,oA,none⟩) l.length c,.int .i64 p,.int .i64 p] W (fun r w'=>r=.returned (.int .i64 0)/\Pure W w'))
 (ha1:∀ W,Pure w W->Calls Tryz.prog 74 #[.slice (some ⟨bA,oA,none⟩) l.length c,.int .i64 p] W (fun r w'=>r=.returned (.int .i64 (b:Nat))/\Pure W w'))
 (ha2:∀ W,Pure w W->Calls Tryz.prog 74 #[.slice (some ⟨bA,oA,none⟩) l.length c,.int .i64 (b:Nat)] W (fun r w'=>r=.returned (.int .i64 (q:Nat))/\Pure W w'))
 (hp1:∀ W,Pure w W->Calls Tryz.prog 77 #[.slice (some ⟨bA,oA,none⟩) l.length c,.int .i64 (b:Nat)] W (fun r w'=>r=.returned (.int .i64 pb)/\Pure W w'))
 (hp2:∀ W,Pure w W->Calls Tryz.prog 77 #[.slice (some ⟨bA,oA,none⟩) l.length c,.int .i64 (q:Nat)] W (fun r w'=>r=.returned (.int .i64 pq)/\Pure W w'))
 (hrow:tokR.row w F (some ⟨bA,oA,none⟩) l) (hnb:l.length<=1048576 * 4) (hbl:b < l.length) (hy:l[q]?=some y) (hpb:-1<=pb/\pb < l.length) (hpq:-1<=pq/\pq < l.length)
 (hf:(b:Int)=(q:Int)+1) (hl:pb+1 ≠ pq)
 (ht:∀ V A1 c1,Pure w V->tokR.row V (fun _=>True) A1 [y]->([y]:List Tok).length<=c1->(([y]:List Tok)=[]->A1=none/\c1=0)->Calls Tryz.prog 87 #[.pointer (some ⟨cb,0,none⟩),.slice (some ⟨bA,oA,none⟩) l.length c,(arnd q (pb+1) b (pb+1) 0 [y]).val A1 c1] V (Told s' (toldB A1 e) (toldC c1 e) e V))
 (h2:e=0->s'.sl=[y]) (h3:e ≠ 0->s'.sl=[]) :
 Calls Tryz.prog 49 #[.pointer (some ⟨cb,0,none⟩),.slice (some ⟨bA,oA,none⟩) l.length c,.int .i64 p] w (fun r w'=>∃ B' c',Told s' B' c' e w r w'/\tokR.row w' (fun _=>True) B' s'.sl):=by
 have HP:=mK hp
 have HA1:=mK ha1
 have HA2:=mK ha2
 have HP1:=mK hp1
 have HP2:=mK hp2
 have HT:=mK ht
 have HS:=mK (And.intro h2 h3)
 obtain⟨bA2,oA2,hA,_,hbt,q0,q1,q2,q3⟩:=x0j hrow hy
 cases hA
 have hql:=(List.getElem?_eq_some_iff.1 hy).1
 have HQ:=mK (And.intro q0 (And.intro q1 (And.intro q2 q3)))
 have HBT:=mK hbt
 have hm:max (b:Int) 0=(b:Int):=by omega
 have d0:decide ((b:Int) < 0)=false:=decide_eq_false (by omega)
 have d1:decide ((q:Int) < 0)=false:=decide_eq_false (by omega)
 have hw1:IntKind.i64.wrap ((q:Int)+1)=(q:Int)+1:=IntWalk.i64_in _ (by omega)
 have hw2:IntKind.i64.wrap (pb+1)=pb+1:=IntWalk.i64_in _ (by omega)
 have hw3:IntKind.i64.wrap (pq+1)=pq+1:=IntWalk.i64_in _ (by omega)
 have y1:((b:Int) == (q:Int)+1)=true:=by simpa using hf
 have y2:(pb+1 == pq)=false:=by simpa using hl
 clear hp ha1 ha2 hp1 hp2 ht h2 h3 hf hl hrow hy q0 q1 q2 q3 hbt
 unfold Told StepD.val at *
 unfold arnd at HT
 go_enter Tryz.func49,Tryz.ntmps49
 go_wp2_with (go_at_call 86;refine(HP.o _ aU).mono ?_;rintro r w1 ⟨rfl,hu⟩;obtain⟨hb1,hu1⟩:=x0i hu;have HB1:=mK hb1;have HU1:=mK hu1;clear hu hb1 hu1;apply As.o)
 refine⟨?_⟩
 go_wp2_with (go_at_call 74;refine(HA1.o _ HU1.o).mono ?_;rintro r wa ⟨rfl,hu⟩;have HBa:=mK (kP hu HB1.o);have HUa:=mK (HU1.o.tt hu);clear hu;apply As.o)
 refine⟨?_⟩
 go_wp2_with (go_at_call 74;refine(HA2.o _ HUa.o).mono ?_;rintro r wb ⟨rfl,hu⟩;have HBb:=mK (kP hu HBa.o);have HUb:=mK (HUa.o.tt hu);clear hu;apply As.o)
 refine⟨?_⟩
 go_wp2_with (go_at_call 77;refine(HP1.o _ HUb.o).mono ?_;rintro r wc ⟨rfl,hu⟩;have HBc:=mK (kP hu HBb.o);have HUc:=mK (HUb.o.tt hu);clear hu;apply As.o)
 refine⟨?_⟩
 go_wp2_with (go_at_call 77;refine(HP2.o _ HUc.o).mono ?_;rintro r wd ⟨rfl,hu⟩;have HBd:=mK (kP hu HBc.o);have HUd:=mK (HUc.o.tt hu);clear hu;apply As.o)
 refine⟨?_⟩
 have z0:=(HUd.o.cell HBT.o (fun h=>h)).trans HQ.o.1
 have z1:=(HUd.o.cell HBT.o (fun h=>h)).trans HQ.o.2.1
 have z2:=(HUd.o.cell HBT.o (fun h=>h)).trans HQ.o.2.2.1
 have z3:=(HUd.o.cell HBT.o (fun h=>h)).trans HQ.o.2.2.2
 have hbt2:=Nat.lt_of_lt_of_le HBT.o HUd.o.size
 go_wp2_with (go_at_call 87;apply As.o)
 refine⟨?_⟩
 have hp8:∀ x y z,Pure wd (((wd.alloc x).alloc y).alloc z):=fun x y z=>((Upd.alloc1 (fun _=>False) wd x).alloc y).alloc z
 have hrw:∀ x y',tokR.row (((wd.alloc x).alloc y').alloc (.cells #[.int .i64 y.k,.int .i64 y.t,.int .i64 y.n,.int .i64 y.m] 71)) (fun k=>wd.heap.size+2<=k) (some ⟨wd.heap.size+2,0,none⟩) [y]:=fun x y'=>by
  have h0:=heap_alloc_new ((wd.alloc x).alloc y') (.cells #[.int .i64 y.k,.int .i64 y.t,.int .i64 y.n,.int .i64 y.m] 71)
  have h1:((wd.alloc x).alloc y').heap.size=wd.heap.size+2:=by simp
  rw[h1] at h0
  exact x1a (F:=fun k=>wd.heap.size+2<=k) h0 (Nat.le_refl _)
 refine(HT.o _ (some ⟨wd.heap.size+2,0,none⟩) 1 (HUd.o.trans (hp8 _ _ _) (fun _ _ h=>h)) (Rp.x09 (hrw _ _) (fun _ _=>trivial)) (Nat.le_refl 1) (fun h=>absurd h (by simp))).mono ?_
 rintro r w9 ⟨rfl,hu⟩
 have hp9:=(hp8 _ _ _).tt hu
 have HB9:=mK (kP hp9 HBd.o)
 have HU9:=mK (HUd.o.tt hp9)
 have HLd:=mK (lt_of_block HBd.o)
 have HRR:=mK (show tokR.row w9 (fun k=>w.heap.size < k) (toldB (some ⟨wd.heap.size+2,0,none⟩) e) s'.sl from(x29 (e:=e) HS.o.1 HS.o.2 (Rp.x09 (Rp.x01 (hrw _ _) hu) (fun k hk=>by have:=HLd.o;omega)) (c:=1) (Nat.le_refl 1)).1)
 clear hu hp8 hp9 z0 z1 z2 z3
 have hbl:w.heap.size < w9.heap.size:=lB HB9.o
 have hcf:=fZ HB9.o
 obtain⟨k0,k1,k2,k3,k4,k5,k6,k7⟩:=x06 HB9.o
 go_wp2
 exact bodyPost_ret (step_end (rb:=w.heap.size) rfl _ rfl (set8 (rb:=w.heap.size) HB9.o _ _ _ _ _ _ _ _)) rfl ⟨_,_,⟨rfl,x05 HU9.o (Nat.le_refl _) _ _ _ _ _ _ _ _⟩,Rp.x09 (Rp.x0f HRR.o (x0b rU _ _ _ _ _ _ _ _) (fun k _ h e=>by omega)) (fun _ _=>trivial)⟩
theorem Lift12_nf {bA oA:Nat} {b q:Nat} {l:List Tok} {y:Tok} {p pb pq e:Int} {s':StepD}
 (hp:∀ W,Pure w W->Calls Tryz.prog 86 #[.pointer (some ⟨cb,0,none⟩),.slice (some ⟨bA,oA,none⟩) l.length c,.int .i64 p,.int .i64 p] W (fun r w'=>r=.returned (.int .i64 0)/\Pure W w'))
 (ha1:∀ W,Pure w W->Calls Tryz.prog 74 #[.slice (some ⟨bA,oA,none⟩) l.length c,.int .i64 p] W (fun r w'=>r=.returned (.int .i64 (b:Nat))/\Pure W w'))
 (ha2:∀ W,Pure w W->Calls Tryz.prog 74 #[.slice (some ⟨bA,oA,none⟩) l.length c,.int .i64 (b:Nat)] W (fun r w'=>r=.returned (.int .i64 (q:Nat))/\Pure W w'))
 (hp1:∀ W,Pure w W->Calls Tryz.prog 77 #[.slice (some ⟨bA,oA,none⟩) l.length c,.int .i64 (b:Nat)] W (fun r w'=>r=.returned (.int .i64 pb)/\Pure W w'))
 (hp2:∀ W,Pure w W->Calls Tryz.prog 77 #[.slice (some ⟨bA,oA,none⟩) l.length c,.int .i64 (q:Nat)] W (fun r w'=>r=.returned (.int .i64 pq)/\Pure W w'))
 (hrow:tokR.row w F (some ⟨bA,oA,none⟩) l) (hnb:l.length<=1048576 * 4) (hbl:b < l.length) (hy:l[q]?=some y) (hpb:-1<=pb/\pb < l.length) (hpq:-1<=pq/\pq < l.length)
 (hf:(b:Int) ≠ (q:Int)+1) (hl:pb+1=pq)
 (ht:∀ V A1 c1,Pure w V->tokR.row V (fun _=>True) A1 [shutT]->([shutT]:List Tok).length<=c1->(([shutT]:List Tok)=[]->A1=none/\c1=0)->Calls Tryz.prog 87 #[.pointer (some ⟨cb,0,none⟩),.slice (some ⟨bA,oA,none⟩) l.length c,(arnd b (pq+1) b (pb+1) 1 [shutT]).val A1 c1] V (Told s' (toldB A1 e) (toldC c1 e) e V))
 (h2:e=0->s'.sl=[shutT]) (h3:e ≠ 0->s'.sl=[]) :
 Calls Tryz.prog 49 #[.pointer (some ⟨cb,0,none⟩),.slice (some ⟨bA,oA,none⟩) l.length c,.int .i64 p] w (fun r w'=>∃ B' c',Told s' B' c' e w r w'/\tokR.row w' (fun _=>True) B' s'.sl):=by
 have HP:=mK hp
 have HA1:=mK ha1
 have HA2:=mK ha2
 have HP1:=mK hp1
 have HP2:=mK hp2
 have HT:=mK ht
 have HS:=mK (And.intro h2 h3)
 obtain⟨bA2,oA2,hA,_,hbt,q0,q1,q2,q3⟩:=x0j hrow hy
 cases hA
 have hql:=(List.getElem?_eq_some_iff.1 hy).1
 have HQ:=mK (And.intro q0 (And.intro q1 (And.intro q2 q3)))
 have HBT:=mK hbt
 have hm:max (b:Int) 0=(b:Int):=by omega
 have d0:decide ((b:Int) < 0)=false:=decide_eq_false (by omega)
 have d1:decide ((q:Int) < 0)=false:=decide_eq_false (by omega)
 have hw1:IntKind.i64.wrap ((q:Int)+1)=(q:Int)+1:=IntWalk.i64_in _ (by omega)
 have hw2:IntKind.i64.wrap (pb+1)=pb+1:=IntWalk.i64_in _ (by omega)
 have hw3:IntKind.i64.wrap (pq+1)=pq+1:=IntWalk.i64_in _ (by omega)
 have y1:((b:Int) == (q:Int)+1)=false:=by simpa using hf
 have y2:(pb+1 == pq)=true:=by simpa using hl
 clear hp ha1 ha2 hp1 hp2 ht h2 h3 hf hl hrow hy q0 q1 q2 q3 hbt
 unfold Told StepD.val at *
 unfold arnd at HT
 go_enter Tryz.func49,Tryz.ntmps49
 go_wp2_with (go_at_call 86;refine(HP.o _ aU).mono ?_;rintro r w1 ⟨rfl,hu⟩;obtain⟨hb1,hu1⟩:=x0i hu;have HB1:=mK hb1;have HU1:=mK hu1;clear hu hb1 hu1;apply As.o)
 refine⟨?_⟩
 go_wp2_with (go_at_call 74;refine(HA1.o _ HU1.o).mono ?_;rintro r wa ⟨rfl,hu⟩;have HBa:=mK (kP hu HB1.o);have HUa:=mK (HU1.o.tt hu);clear hu;apply As.o)
 refine⟨?_⟩
 go_wp2_with (go_at_call 74;refine(HA2.o _ HUa.o).mono ?_;rintro r wb ⟨rfl,hu⟩;have HBb:=mK (kP hu HBa.o);have HUb:=mK (HUa.o.tt hu);clear hu;apply As.o)
 refine⟨?_⟩
 go_wp2_with (go_at_call 77;refine(HP1.o _ HUb.o).mono ?_;rintro r wc ⟨rfl,hu⟩;have HBc:=mK (kP hu HBb.o);have HUc:=mK (HUb.o.tt hu);clear hu;apply As.o)
 refine⟨?_⟩
 go_wp2_with (go_at_call 77;refine(HP2.o _ HUc.o).mono ?_;rintro r wd ⟨rfl,hu⟩;have HBd:=mK (kP hu HBc.o);have HUd:=mK (HUc.o.tt hu);clear hu;apply As.o)
 refine⟨?_⟩
 have z0:=(HUd.o.cell HBT.o (fun h=>h)).trans HQ.o.1
 have z1:=(HUd.o.cell HBT.o (fun h=>h)).trans HQ.o.2.1
 have z2:=(HUd.o.cell HBT.o (fun h=>h)).trans HQ.o.2.2.1
 have z3:=(HUd.o.cell HBT.o (fun h=>h)).trans HQ.o.2.2.2
 have hbt2:=Nat.lt_of_lt_of_le HBT.o HUd.o.size
 go_wp2_with (go_at_call 87;apply As.o)
 refine⟨?_⟩
 have hp8:∀ x y z,Pure wd (((wd.alloc x).alloc y).alloc z):=fun x y z=>((Upd.alloc1 (fun _=>False) wd x).alloc y).alloc z
 have hrw:∀ x y',tokR.row (((wd.alloc x).alloc y').alloc (.cells #[.int .i64 2,.int .i64 0,.int .i64 0,.int .i64 0] 71)) (fun k=>wd.heap.size+2<=k) (some ⟨wd.heap.size+2,0,none⟩) [shutT]:=fun x y'=>by
  have h0:=heap_alloc_new ((wd.alloc x).alloc y') (.cells #[.int .i64 2,.int .i64 0,.int .i64 0,.int .i64 0] 71)
  have h1:((wd.alloc x).alloc y').heap.size=wd.heap.size+2:=by simp
  rw[h1] at h0
  exact x1a (F:=fun k=>wd.heap.size+2<=k) h0 (Nat.le_refl _)
 refine(HT.o _ (some ⟨wd.heap.size+2,0,none⟩) 1 (HUd.o.trans (hp8 _ _ _) (fun _ _ h=>h)) (Rp.x09 (hrw _ _) (fun _ _=>trivial)) (Nat.le_refl 1) (fun h=>absurd h (by simp))).mono ?_
 rintro r w9 ⟨rfl,hu⟩
 have hp9:=(hp8 _ _ _).tt hu
 have HB9:=mK (kP hp9 HBd.o)
 have HU9:=mK (HUd.o.tt hp9)
 have HLd:=mK (lt_of_block HBd.o)
 have HRR:=mK (show tokR.row w9 (fun k=>w.heap.size < k) (toldB (some ⟨wd.heap.size+2,0,none⟩) e) s'.sl from(x29 (e:=e) HS.o.1 HS.o.2 (Rp.x09 (Rp.x01 (hrw _ _) hu) (fun k hk=>by have:=HLd.o;omega)) (c:=1) (Nat.le_refl 1)).1)
 clear hu hp8 hp9 z0 z1 z2 z3
 have hbl:w.heap.size < w9.heap.size:=lB HB9.o
 have hcf:=fZ HB9.o
 obtain⟨k0,k1,k2,k3,k4,k5,k6,k7⟩:=x06 HB9.o
 go_wp2
 exact bodyPost_ret (step_end (rb:=w.heap.size) rfl _ rfl (set8 (rb:=w.heap.size) HB9.o _ _ _ _ _ _ _ _)) rfl ⟨_,_,⟨rfl,x05 HU9.o (Nat.le_refl _) _ _ _ _ _ _ _ _⟩,Rp.x09 (Rp.x0f HRR.o (x0b rU _ _ _ _ _ _ _ _) (fun k _ h e=>by omega)) (fun _ _=>trivial)⟩
theorem Lift12_calls {l:List Tok} {p:Int} (h:H6 w cb) (hr:tokR.row w F A l) (hlc:l.length<=c) (hb:l.length<=1048576 * 4) :
 Calls Tryz.prog 49 #[.pointer (some ⟨cb,0,none⟩),.slice A l.length c,.int .i64 p] w (fun r w'=>∃ B' c',Told (toldS (x41 l p) (x1l l p)) B' c' (x1l l p) w r w'/\tokR.row w' (fun _=>True) B' (toldS (x41 l p) (x1l l p)).sl):=by
 have hpl:=fun W (hW:Pure w W)=>x2o (f:=p) (t:=p) (c:=c) (h.pure hW) (Rp.x01 hr hW) hb hlc
 have har:=fun (x:Int) W (hW:Pure w W)=>(x25 (Rp.x01 hr hW) hb hlc:Calls Tryz.prog 74 #[.slice A l.length c,.int .i64 x] W (fun r w'=>r=.returned (.int .i64 (x04 l x))/\Pure W w'))
 by_cases h0:x0e l p p=0
 ·by_cases h4:x04 l p < 0\/x04 l (x04 l p) < 0
  ·have he:x1l l p=6:=by unfold x1l;rw[if_neg (by omega),if_pos h4]
   rw[he]
   refine Lift12_no hpl (har _) (har _) ?_ (x0g (by decide))
   by_cases h5:x04 l p < 0
   ·exact .inr (.inl ⟨h0,h5,rfl⟩)
   ·have hm:max (x04 l p) 0=x04 l p:=by omega
    exact .inr (.inr ⟨h0,by omega,by rw[hm];omega,rfl⟩)
  ·obtain⟨b,q,z,y,e1,e2,e3,e4,e5,e6,e7,e8⟩:=lift_at (l:=l) (p:=p) (by omega) (by omega)
   have he:x1l l p=x08 l (liftS l b q y):=by unfold x1l;rw[if_neg (by omega),if_neg h4,e8]
   obtain⟨hc,hp0,_,hp1⟩:=x16.1 h0
   have hl:=house_len_le hc
   have hbl:=(List.getElem?_eq_some_iff.1 e3).1
   have hql:=(List.getElem?_eq_some_iff.1 e5).1
   have hne:=doc_ne hc
   obtain⟨bA,oA,rfl⟩:=x35 hr hne
   rw[he,e8]
   have hP1:=fun W (hW:Pure w W)=>x5c (c:=c) (Rp.x01 hr hW) hb hlc e3 e4
   have hP2:=fun W (hW:Pure w W)=>x5c (c:=c) (Rp.x01 hr hW) hb hlc e5 e6
   have hA2:=har (x04 l p)
   rw[e1,e2] at hA2
   have hA1:=har p
   rw[e1] at hA1
   rw[h0] at hpl
   have hT:∀ V A1 c1,Pure w V->tokR.row V (fun _=>True) A1 (liftS l b q y).sl->(liftS l b q y).sl.length<=c1->((liftS l b q y).sl=[]->A1=none/\c1=0)->Calls Tryz.prog 87 #[.pointer (some ⟨cb,0,none⟩),.slice (some ⟨bA,oA,none⟩) l.length c,(liftS l b q y).val A1 c1] V (Told (toldS (liftS l b q y) (x08 l (liftS l b q y))) (toldB A1 (x08 l (liftS l b q y))) (toldC c1 (x08 l (liftS l b q y))) (x08 l (liftS l b q y)) V):=fun V A1 c1 hV hrow hc1 hz=>
    x59 (h.pure hV) (Rp.x01 hr hV) hb (dn_arnd hne (Rp.x01 hr hV) hlc hrow hc1 (by
     show List.length (_ ++ _)<=_
     rw[List.length_append]
     have:∀ (P:Prop) [Decidable P] (t:Tok),(if P then [] else [t]:List Tok).length<=1:=fun P _ t=>by split <;> simp
     have h7:=this ((b:Int)=q+1) shutT
     have h8:=this (partL l b+1=partL l q) y
     omega) hz)
   have h2:x08 l (liftS l b q y)=0->(toldS (liftS l b q y) (x08 l (liftS l b q y))).sl=(liftS l b q y).sl:=fun h9=>by rw[h9];rfl
   have h3:x08 l (liftS l b q y) ≠ 0->(toldS (liftS l b q y) (x08 l (liftS l b q y))).sl=[]:=fun h9=>by rw[x0g h9];rfl
   have hb1:=x3i (l:=l) (i:=b) hl
   have hb2:=x3i (l:=l) (i:=q) hl
   by_cases hf:(b:Int)=(q:Int)+1
   ·by_cases hz:partL l b+1=partL l q
    ·have hs:liftS l b q y=arnd q (partL l q+1) b (partL l b+1) 0 []:=by unfold liftS;rw[if_pos hf,if_pos hf,if_pos hf,if_pos hz,if_pos hz];rfl
     rw[hs] at hT h2 h3 ⊢
     have h9:(toldS (arnd q (partL l q+1) b (partL l b+1) 0 []) (x08 l (arnd q (partL l q+1) b (partL l b+1) 0 []))).sl=[]:=by
      by_cases hh:x08 l (arnd q (partL l q+1) b (partL l b+1) 0 [])=0
      ·exact h2 hh
      ·exact h3 hh
     exact Lift12_ff (F:=F) hpl hA1 hA2 hP1 hP2 hb hbl hql hb1 hb2 hf hz hT h9
    ·have hs:liftS l b q y=arnd q (partL l b+1) b (partL l b+1) 0 [y]:=by unfold liftS;rw[if_pos hf,if_pos hf,if_pos hf,if_neg hz,if_neg hz];rfl
     rw[hs] at hT h2 h3 ⊢
     exact Lift12_fn hpl hA1 hA2 hP1 hP2 hr hb hbl e5 hb1 hb2 hf hz hT h2 h3
   ·by_cases hz:partL l b+1=partL l q
    ·have hs:liftS l b q y=arnd b (partL l q+1) b (partL l b+1) 1 [shutT]:=by unfold liftS;rw[if_neg hf,if_neg hf,if_neg hf,if_pos hz,if_pos hz];rfl
     rw[hs] at hT h2 h3 ⊢
     exact Lift12_nf hpl hA1 hA2 hP1 hP2 hr hb hbl e5 hb1 hb2 hf hz hT h2 h3
    ·have hs:liftS l b q y=arnd b (partL l b+1) b (partL l b+1) 1 [shutT,y]:=by unfold liftS;rw[if_neg hf,if_neg hf,if_neg hf,if_neg hz,if_neg hz];rfl
     rw[hs] at hT h2 h3 ⊢
     exact Lift12_nn hpl hA1 hA2 hP1 hP2 hr hb hbl e5 hb1 hb2 hf hz hT h2 h3
 ·have he:x1l l p=x0e l p p:=by unfold x1l;rw[if_pos h0]
  rw[he]
  exact Lift12_no hpl (har _) (har _) (.inl ⟨h0,rfl⟩) (x0g h0)
theorem told_slB {s:StepD} {e:Int}:(toldS s e).sl=if e=0 then s.sl else []:=by unfold toldS;split <;> rfl
theorem told_lenB {s:StepD} {e:Int} (h:s.sl.length<=2):(toldS s e).sl.length<=1048576 * 4:=by rw[told_slB];split <;> simp;omega
theorem told_rowB {s:StepD} {e:Int} (h:s.sl=[]):tokR.row W (fun _=>True) none (toldS s e).sl:=.inl (by rw[told_slB];split;exact h;rfl)
theorem Join12_no {n:Nat} {p e:Int} {s':StepD} (hp:∀ W,Pure w W->Calls Tryz.prog 86 #[.pointer (some ⟨cb,0,none⟩),.slice A n c,.int .i64 p,.int .i64 p] W (fun r w'=>r=.returned (.int .i64 e)/\Pure W w')) (he:e ≠ 0) (hs:s'=repl 0 0 []) :
 Calls Tryz.prog 45 #[.pointer (some ⟨cb,0,none⟩),.slice A n c,.int .i64 p] w (Told s' none 0 e w):=by
 subst hs
 have HP:=mK hp
 have f0:(e != 0)=true:=by simpa using he
 clear hp he
 unfold Told StepD.val repl at *
 go_enter Tryz.func45,Tryz.ntmps45
 go_wp2_with (go_at_call 86;refine(HP.o _ aU).mono ?_;rintro r w1 ⟨rfl,hu⟩;obtain⟨hb1,hu1⟩:=x0i hu;have HB1:=mK hb1;have HU1:=mK hu1;clear hu hb1 hu1;apply As.o)
 refine⟨?_⟩
 have hbl:w.heap.size < w1.heap.size:=lB HB1.o
 have hcf:=fZ HB1.o
 obtain⟨k0,k1,k2,k3,k4,k5,k6,k7⟩:=x06 HB1.o
 go_wp2
 exact bodyPost_ret (step_end (rb:=w.heap.size) rfl _ rfl (set8 (rb:=w.heap.size) HB1.o _ _ _ _ _ _ _ _)) rfl ⟨rfl,x05 HU1.o (Nat.le_refl _) _ _ _ _ _ _ _ _⟩
theorem Join12_any {l:List Tok} {p:Int} (h:H6 w cb) (hr:tokR.row w F A l) (hlc:l.length<=c) (hb:l.length<=1048576 * 4) :
 Calls Tryz.prog 45 #[.pointer (some ⟨cb,0,none⟩),.slice A l.length c,.int .i64 p] w (Told (toldS (repl (p - 1) (p+1) []) (x22 l p)) none 0 (x22 l p) w):=by
 by_cases p0:x0e l p p=0
 ·exact Join12_calls h (doc_ne (x16.1 p0).1) hr hlc hb
 ·have he:x22 l p=x0e l p p:=by unfold x22;rw[if_pos p0]
  rw[he]
  exact Join12_no (fun W hW=>x2o (h.pure hW) (Rp.x01 hr hW) hb hlc) p0 (x0g p0)
theorem lift_two (l:List Tok) (p:Int):(x41 l p).sl.length<=2:=by
 show List.length (_ ++ _)<=_
 rw[List.length_append]
 have:∀ (P:Prop) [Decidable P] (t:Tok),(if P then [] else [t]:List Tok).length<=1:=fun P _ t=>by split <;> simp
 have h7:=this (((x04 l p).toNat:Int)=((x04 l (x04 l p)).toNat:Int)+1) shutT
 have h8:=this (partL l (x04 l p).toNat+1=partL l (x04 l (x04 l p)).toNat) ((l[(x04 l (x04 l p)).toNat]?).getD shutT)
 omega
/-- What a command told, with the row that it told. -/
def CmdB (s:StepD) (e:Int) (w:World) (r:Ending) (w':World):Prop:=∃ B' c',Told s B' c' e w r w'/\tokR.row w' (fun _=>True) B' s.sl
theorem EBlocks_long {l:List Tok} {p t n:Int} (h1:200 < l.length) :
 Calls Tryz.prog 8 #[.slice A l.length c,.int .i64 p,.int .i64 t,.int .i64 n] w fun r w'=>r=.returned (.bool true)/\Pure w w':=by
 have b1:decide ((200:Int) < (l.length:Int))=true:=decide_eq_true (by omega)
 have b3:decide (200 < l.length)=true:=decide_eq_true h1
 clear h1
 go_enter Tryz.func8,Tryz.ntmps8
 go_wp2_with (go_at_call 28;refine(x5d _).mono ?_;rintro r w9 ⟨rfl,hu9⟩;have HU9:=mK hu9;clear hu9)
 go_ret
 exact⟨rfl,HU9.o⟩
theorem EBlocks_at {k:Nat} {p t n:Int} {s1 s2 s3 s4:StepD} {e1 e2 e3 e4:Int} (hk:k<=200)
 (g1:s1.sl.length<=1048576 * 4) (g2:s2.sl.length<=1048576 * 4) (g3:s3.sl.length<=1048576 * 4) (g4:s4.sl.length<=1048576 * 4)
 (a1:∀ W q,Pure w W->SchR W q x02 x07->Calls Tryz.prog 42 #[.pointer (some ⟨q,0,none⟩),.slice A k c,.int .i64 p] W (CmdB s1 e1 W))
 (a2:∀ W q,Pure w W->H6 W q->Calls Tryz.prog 43 #[.pointer (some ⟨q,0,none⟩),.slice A k c,.int .i64 p] W (CmdB s1 e1 W))
 (a3:∀ W q,Pure w W->SchR W q x02 x07->Calls Tryz.prog 44 #[.pointer (some ⟨q,0,none⟩),.slice A k c,.int .i64 p] W (CmdB s2 e2 W))
 (a4:∀ W q,Pure w W->H6 W q->Calls Tryz.prog 45 #[.pointer (some ⟨q,0,none⟩),.slice A k c,.int .i64 p] W (CmdB s2 e2 W))
 (a5:∀ W q,Pure w W->SchR W q x02 x07->Calls Tryz.prog 46 #[.pointer (some ⟨q,0,none⟩),.slice A k c,.int .i64 p,.int .i64 t,.int .i64 n] W (CmdB s3 e3 W))
 (a6:∀ W q,Pure w W->H6 W q->Calls Tryz.prog 47 #[.pointer (some ⟨q,0,none⟩),.slice A k c,.int .i64 p,.int .i64 t,.int .i64 n] W (CmdB s3 e3 W))
 (a7:∀ W q,Pure w W->SchR W q x02 x07->Calls Tryz.prog 48 #[.pointer (some ⟨q,0,none⟩),.slice A k c,.int .i64 p] W (CmdB s4 e4 W))
 (a8:∀ W q,Pure w W->H6 W q->Calls Tryz.prog 49 #[.pointer (some ⟨q,0,none⟩),.slice A k c,.int .i64 p] W (CmdB s4 e4 W)) :
 Calls Tryz.prog 8 #[.slice A k c,.int .i64 p,.int .i64 t,.int .i64 n] w fun r w'=>r=.returned (.bool true)/\Pure w w':=by
 have H1:=mK a1
 have H2:=mK a2
 have H3:=mK a3
 have H4:=mK a4
 have H5:=mK a5
 have H6:=mK a6
 have H7:=mK a7
 have H8:=mK a8
 have HSM1:=mK (fun W (A1 A2:Option Addr) (c1 c2:Nat) (h1:tokR.row W (fun _=>True) A1 s1.sl) (h2:tokR.row W (fun _=>True) A2 s1.sl)=>x5m (c:=c1) (c':=c2) (e:=e1) h1 h2 g1)
 have HSM2:=mK (fun W (A1 A2:Option Addr) (c1 c2:Nat) (h1:tokR.row W (fun _=>True) A1 s2.sl) (h2:tokR.row W (fun _=>True) A2 s2.sl)=>x5m (c:=c1) (c':=c2) (e:=e2) h1 h2 g2)
 have HSM3:=mK (fun W (A1 A2:Option Addr) (c1 c2:Nat) (h1:tokR.row W (fun _=>True) A1 s3.sl) (h2:tokR.row W (fun _=>True) A2 s3.sl)=>x5m (c:=c1) (c':=c2) (e:=e3) h1 h2 g3)
 have HSM4:=mK (fun W (A1 A2:Option Addr) (c1 c2:Nat) (h1:tokR.row W (fun _=>True) A1 s4.sl) (h2:tokR.row W (fun _=>True) A2 s4.sl)=>x5m (c:=c1) (c':=c2) (e:=e4) h1 h2 g4)
 have t2:decide ((200:Int) < (k:Int))=false:=decide_eq_false (by omega)
 have t3:decide (200 < k)=false:=decide_eq_false (by omega)
 clear a1 a2 a3 a4 a5 a6 a7 a8 g1 g2 g3 g4
 unfold CmdB Told StepD.val at *
 go_enter Tryz.func8,Tryz.ntmps8
 go_wp2_with (first | (go_at_call 14;refine(x5n w1).mono ?_;rintro r v0 ⟨cb6,rfl,hs,hu⟩;have HK0:=mK hs;have HS0:=mK (HS.o.pure hu);have HU0:=mK (HU1.o.tt hu);clear hu hs;apply As.o) | (go_at_call 13;refine(x4r w).mono ?_;rintro r w1 ⟨cb,rfl,hs,hu⟩;have HS:=mK hs;have HU1:=mK hu;clear hu hs))
 refine⟨?_⟩
 go_wp2_with (go_at_call 42;refine(H1.o _ _ HU0.o HS0.o).mono ?_;rintro r v1 ⟨B1,c1,⟨rfl,hu⟩,hrow⟩;have HP1:=mK hu;have HR1_1:=mK hrow;clear hu hrow;apply As.o)
 refine⟨?_⟩
 have hp1:=HP1.o
 have HU1:=mK (HU0.o.tt hp1)
 have HS1:=mK (HS0.o.pure hp1)
 have HK1:=mK (HK0.o.pure hp1)
 clear hp1
 go_wp2_with (go_at_call 43;refine(H2.o _ _ (HU1.o.alloc _) (HK1.o.pure aU)).mono ?_;rintro r v2 ⟨B2,c2,⟨rfl,hu⟩,hrow⟩;have HP2:=mK hu;have HR2_2:=mK hrow;clear hu hrow;apply As.o)
 refine⟨?_⟩
 obtain⟨hb1,hp2⟩:=x0i HP2.o
 have HB1_2:=mK hb1
 have HR1_2:=mK (Rp.x01 HR1_1.o hp2)
 have HU2:=mK (HU1.o.tt hp2)
 have HS2:=mK (HS1.o.pure hp2)
 have HK2:=mK (HK1.o.pure hp2)
 clear hp2 hb1
 go_wp2_with (go_at_call 44;refine(H3.o _ _ (HU2.o.alloc _) (HS2.o.pure aU)).mono ?_;rintro r v3 ⟨B3,c3,⟨rfl,hu⟩,hrow⟩;have HP3:=mK hu;have HR3_3:=mK hrow;clear hu hrow;apply As.o)
 refine⟨?_⟩
 obtain⟨hb2,hp3⟩:=x0i HP3.o
 have HB2_3:=mK hb2
 have HB1_3:=mK (kP hp3 HB1_2.o)
 have HR1_3:=mK (Rp.x01 HR1_2.o hp3)
 have HR2_3:=mK (Rp.x01 HR2_2.o hp3)
 have HU3:=mK (HU2.o.tt hp3)
 have HS3:=mK (HS2.o.pure hp3)
 have HK3:=mK (HK2.o.pure hp3)
 clear hp3 hb2
 go_wp2_with (go_at_call 45;refine(H4.o _ _ (HU3.o.alloc _) (HK3.o.pure aU)).mono ?_;rintro r v4 ⟨B4,c4,⟨rfl,hu⟩,hrow⟩;have HP4:=mK hu;have HR4_4:=mK hrow;clear hu hrow;apply As.o)
 refine⟨?_⟩
 obtain⟨hb3,hp4⟩:=x0i HP4.o
 have HB3_4:=mK hb3
 have HB1_4:=mK (kP hp4 HB1_3.o)
 have HB2_4:=mK (kP hp4 HB2_3.o)
 have HR1_4:=mK (Rp.x01 HR1_3.o hp4)
 have HR2_4:=mK (Rp.x01 HR2_3.o hp4)
 have HR3_4:=mK (Rp.x01 HR3_3.o hp4)
 have HU4:=mK (HU3.o.tt hp4)
 have HS4:=mK (HS3.o.pure hp4)
 have HK4:=mK (HK3.o.pure hp4)
 clear hp4 hb3
 go_wp2_with (go_at_call 46;refine(H5.o _ _ (HU4.o.alloc _) (HS4.o.pure aU)).mono ?_;rintro r v5 ⟨B5,c5,⟨rfl,hu⟩,hrow⟩;have HP5:=mK hu;have HR5_5:=mK hrow;clear hu hrow;apply As.o)
 refine⟨?_⟩
 obtain⟨hb4,hp5⟩:=x0i HP5.o
 have HB4_5:=mK hb4
 have HB1_5:=mK (kP hp5 HB1_4.o)
 have HB2_5:=mK (kP hp5 HB2_4.o)
 have HB3_5:=mK (kP hp5 HB3_4.o)
 have HR1_5:=mK (Rp.x01 HR1_4.o hp5)
 have HR2_5:=mK (Rp.x01 HR2_4.o hp5)
 have HR3_5:=mK (Rp.x01 HR3_4.o hp5)
 have HR4_5:=mK (Rp.x01 HR4_4.o hp5)
 have HU5:=mK (HU4.o.tt hp5)
 have HS5:=mK (HS4.o.pure hp5)
 have HK5:=mK (HK4.o.pure hp5)
 clear hp5 hb4
 go_wp2_with (go_at_call 47;refine(H6.o _ _ (HU5.o.alloc _) (HK5.o.pure aU)).mono ?_;rintro r v6 ⟨B6,c6,⟨rfl,hu⟩,hrow⟩;have HP6:=mK hu;have HR6_6:=mK hrow;clear hu hrow;apply As.o)
 refine⟨?_⟩
 obtain⟨hb5,hp6⟩:=x0i HP6.o
 have HB5_6:=mK hb5
 have HB1_6:=mK (kP hp6 HB1_5.o)
 have HB2_6:=mK (kP hp6 HB2_5.o)
 have HB3_6:=mK (kP hp6 HB3_5.o)
 have HB4_6:=mK (kP hp6 HB4_5.o)
 have HR1_6:=mK (Rp.x01 HR1_5.o hp6)
 have HR2_6:=mK (Rp.x01 HR2_5.o hp6)
 have HR3_6:=mK (Rp.x01 HR3_5.o hp6)
 have HR4_6:=mK (Rp.x01 HR4_5.o hp6)
 have HR5_6:=mK (Rp.x01 HR5_5.o hp6)
 have HU6:=mK (HU5.o.tt hp6)
 have HS6:=mK (HS5.o.pure hp6)
 have HK6:=mK (HK5.o.pure hp6)
 clear hp6 hb5
 go_wp2_with (go_at_call 48;refine(H7.o _ _ (HU6.o.alloc _) (HS6.o.pure aU)).mono ?_;rintro r v7 ⟨B7,c7,⟨rfl,hu⟩,hrow⟩;have HP7:=mK hu;have HR7_7:=mK hrow;clear hu hrow;apply As.o)
 refine⟨?_⟩
 obtain⟨hb6,hp7⟩:=x0i HP7.o
 have HB6_7:=mK hb6
 have HB1_7:=mK (kP hp7 HB1_6.o)
 have HB2_7:=mK (kP hp7 HB2_6.o)
 have HB3_7:=mK (kP hp7 HB3_6.o)
 have HB4_7:=mK (kP hp7 HB4_6.o)
 have HB5_7:=mK (kP hp7 HB5_6.o)
 have HR1_7:=mK (Rp.x01 HR1_6.o hp7)
 have HR2_7:=mK (Rp.x01 HR2_6.o hp7)
 have HR3_7:=mK (Rp.x01 HR3_6.o hp7)
 have HR4_7:=mK (Rp.x01 HR4_6.o hp7)
 have HR5_7:=mK (Rp.x01 HR5_6.o hp7)
 have HR6_7:=mK (Rp.x01 HR6_6.o hp7)
 have HU7:=mK (HU6.o.tt hp7)
 have HS7:=mK (HS6.o.pure hp7)
 have HK7:=mK (HK6.o.pure hp7)
 clear hp7 hb6
 go_wp2_with (go_at_call 49;refine(H8.o _ _ (HU7.o.alloc _) (HK7.o.pure aU)).mono ?_;rintro r v8 ⟨B8,c8,⟨rfl,hu⟩,hrow⟩;have HP8:=mK hu;have HR8_8:=mK hrow;clear hu hrow;apply As.o)
 refine⟨?_⟩
 obtain⟨hb7,hp8⟩:=x0i HP8.o
 have HB7_8:=mK hb7
 have HB1_8:=mK (kP hp8 HB1_7.o)
 have HB2_8:=mK (kP hp8 HB2_7.o)
 have HB3_8:=mK (kP hp8 HB3_7.o)
 have HB4_8:=mK (kP hp8 HB4_7.o)
 have HB5_8:=mK (kP hp8 HB5_7.o)
 have HB6_8:=mK (kP hp8 HB6_7.o)
 have HR1_8:=mK (Rp.x01 HR1_7.o hp8)
 have HR2_8:=mK (Rp.x01 HR2_7.o hp8)
 have HR3_8:=mK (Rp.x01 HR3_7.o hp8)
 have HR4_8:=mK (Rp.x01 HR4_7.o hp8)
 have HR5_8:=mK (Rp.x01 HR5_7.o hp8)
 have HR6_8:=mK (Rp.x01 HR6_7.o hp8)
 have HR7_8:=mK (Rp.x01 HR7_7.o hp8)
 have HU8:=mK (HU7.o.tt hp8)
 have HS8:=mK (HS7.o.pure hp8)
 have HK8:=mK (HK7.o.pure hp8)
 clear hp8 hb7
 obtain⟨a0,a1,a2,a3,a4,a5,a6,a7⟩:=x06 HB1_8.o
 obtain⟨d0,d1,d2,d3,d4,d5,d6,d7⟩:=x06 HB2_8.o
 have l5:=lt_of_block HB1_8.o
 have l6:=lt_of_block HB2_8.o
 go_wp2_with (go_at_call 33;refine(HSM1.o _ _ _ _ _ (Rp.x01 HR1_8.o aU) (Rp.x01 HR2_8.o aU)).mono ?_;rintro r v9 ⟨rfl,hu⟩;have HP9:=mK hu;clear hu;apply As.o)
 refine⟨?_⟩
 obtain⟨hb8,hp9⟩:=x0i HP9.o
 have HB8_9:=mK hb8
 clear hb8
 have HU9:=mK (HU8.o.tt hp9)
 have HB3_9:=mK (kP hp9 HB3_8.o)
 have HR3_9:=mK (Rp.x01 HR3_8.o hp9)
 have HB4_9:=mK (kP hp9 HB4_8.o)
 have HR4_9:=mK (Rp.x01 HR4_8.o hp9)
 have HB5_9:=mK (kP hp9 HB5_8.o)
 have HR5_9:=mK (Rp.x01 HR5_8.o hp9)
 have HB6_9:=mK (kP hp9 HB6_8.o)
 have HR6_9:=mK (Rp.x01 HR6_8.o hp9)
 have HB7_9:=mK (kP hp9 HB7_8.o)
 have HR7_9:=mK (Rp.x01 HR7_8.o hp9)
 have HR8_9:=mK (Rp.x01 HR8_8.o hp9)
 clear hp9 a0 a1 a2 a3 a4 a5 a6 a7 d0 d1 d2 d3 d4 d5 d6 d7 l5 l6
 obtain⟨a0,a1,a2,a3,a4,a5,a6,a7⟩:=x06 HB3_9.o
 obtain⟨d0,d1,d2,d3,d4,d5,d6,d7⟩:=x06 HB4_9.o
 have l5:=lt_of_block HB3_9.o
 have l6:=lt_of_block HB4_9.o
 go_wp2_with (go_at_call 33;refine(HSM2.o _ _ _ _ _ HR3_9.o HR4_9.o).mono ?_;rintro r v10 ⟨rfl,hu⟩;have HP10:=mK hu;clear hu;apply As.o)
 refine⟨?_⟩
 have hp10:=HP10.o
 have HU10:=mK (HU9.o.tt hp10)
 have HB5_10:=mK (kP hp10 HB5_9.o)
 have HR5_10:=mK (Rp.x01 HR5_9.o hp10)
 have HB6_10:=mK (kP hp10 HB6_9.o)
 have HR6_10:=mK (Rp.x01 HR6_9.o hp10)
 have HB7_10:=mK (kP hp10 HB7_9.o)
 have HR7_10:=mK (Rp.x01 HR7_9.o hp10)
 have HB8_10:=mK (kP hp10 HB8_9.o)
 have HR8_10:=mK (Rp.x01 HR8_9.o hp10)
 clear hp10 a0 a1 a2 a3 a4 a5 a6 a7 d0 d1 d2 d3 d4 d5 d6 d7 l5 l6
 obtain⟨a0,a1,a2,a3,a4,a5,a6,a7⟩:=x06 HB5_10.o
 obtain⟨d0,d1,d2,d3,d4,d5,d6,d7⟩:=x06 HB6_10.o
 have l5:=lt_of_block HB5_10.o
 have l6:=lt_of_block HB6_10.o
 go_wp2_with (go_at_call 33;refine(HSM3.o _ _ _ _ _ HR5_10.o HR6_10.o).mono ?_;rintro r v11 ⟨rfl,hu⟩;have HP11:=mK hu;clear hu;apply As.o)
 refine⟨?_⟩
 have hp11:=HP11.o
 have HU11:=mK (HU10.o.tt hp11)
 have HB7_11:=mK (kP hp11 HB7_10.o)
 have HR7_11:=mK (Rp.x01 HR7_10.o hp11)
 have HB8_11:=mK (kP hp11 HB8_10.o)
 have HR8_11:=mK (Rp.x01 HR8_10.o hp11)
 clear hp11 a0 a1 a2 a3 a4 a5 a6 a7 d0 d1 d2 d3 d4 d5 d6 d7 l5 l6
 obtain⟨a0,a1,a2,a3,a4,a5,a6,a7⟩:=x06 HB7_11.o
 obtain⟨d0,d1,d2,d3,d4,d5,d6,d7⟩:=x06 HB8_11.o
 have l5:=lt_of_block HB7_11.o
 have l6:=lt_of_block HB8_11.o
 go_wp2_with (first | (go_at_call 28;refine(x5d _).mono ?_;rintro r wb ⟨rfl,hu9⟩;have HUB:=mK (HUA.o.tt hu9);clear hu9) | (go_at_call 33;refine(HSM4.o _ _ _ _ _ HR7_11.o HR8_11.o).mono ?_;rintro r wa ⟨rfl,hu⟩;have HUA:=mK (HU11.o.tt hu);clear hu))
 go_ret
 exact⟨rfl,HUB.o⟩
theorem EditBlocks_walk {l:List Tok} {p t n:Int} (hr:tokR.row w F A l) (hlc:l.length<=c) :
 Calls Tryz.prog 8 #[.slice A l.length c,.int .i64 p,.int .i64 t,.int .i64 n] w fun r w'=>r=.returned (.bool true)/\Pure w w':=by
 by_cases h:200 < l.length
 ·exact EBlocks_long h
 ·have hb:l.length<=1048576 * 4:=by omega
  have hz:∀ {s:StepD} {e:Int} {W:World} {r:Ending} {w':World},s.sl=[]->Told (toldS s e) none 0 e W r w'->CmdB (toldS s e) e W r w':=fun hs h1=>⟨none,0,h1,told_rowB hs⟩
  exact EBlocks_at (s1:=toldS (splS l p) (x26 l p)) (s2:=toldS (repl (p - 1) (p+1) []) (x22 l p)) (s3:=toldS (repl (x04 l p) (x04 l p+1) [openT t n]) (x1u l p t n)) (s4:=toldS (x41 l p) (x1l l p)) (e1:=x26 l p) (e2:=x22 l p) (e3:=x1u l p t n) (e4:=x1l l p) (by omega)
   (told_lenB (by simp[splS,repl])) (told_lenB (by simp[repl])) (told_lenB (by simp[repl])) (told_lenB (lift_two l p))
   (fun W q hu hs=>(Split_calls hs (Rp.x01 hr hu) hlc hb).mono fun r w' ⟨B,c',h1,h2⟩=>⟨B,c',h1,h2.1.1⟩)
   (fun W q hu hs=>Split12_calls hs (Rp.x01 hr hu) hlc hb)
   (fun W q hu hs=>(Join_any hs (Rp.x01 hr hu) hlc hb).mono fun r w' h1=>hz rfl h1)
   (fun W q hu hs=>(Join12_any hs (Rp.x01 hr hu) hlc hb).mono fun r w' h1=>hz rfl h1)
   (fun W q hu hs=>(Retype_calls hs (Rp.x01 hr hu) hlc hb).mono fun r w' ⟨B,c',h1,h2⟩=>⟨B,c',h1,h2.1.1⟩)
   (fun W q hu hs=>Retype12_calls hs (Rp.x01 hr hu) hlc hb)
   (fun W q hu hs=>(Lift_calls hs (Rp.x01 hr hu) hlc hb).mono fun r w' ⟨B,c',h1,h2⟩=>⟨B,c',h1,h2.1.1⟩)
   (fun W q hu hs=>Lift12_calls hs (Rp.x01 hr hu) hlc hb)
end Go.Proofs.YtofjodppljnlaaaGreatDoor
