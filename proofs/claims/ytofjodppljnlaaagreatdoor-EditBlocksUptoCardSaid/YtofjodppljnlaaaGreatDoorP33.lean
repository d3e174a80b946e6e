/- My own texts, packed: EdLc. -/
import Derived.Test.YtofjodppljnlaaaGreatDoorP29
set_option maxRecDepth 100000
set_option maxHeartbeats 4000000
set_option linter.unusedVariables false
set_option linter.unusedSimpArgs false
variable {w w1 W:Go.World} {F G:Nat → Prop} {A B:Option Go.Addr} {cb c:Nat}
namespace Go.Proofs.YtofjodppljnlaaaGreatDoor
open Go
section
variable {P:Program} {ops:Array Oper} {Q:Exit->Act->World->Prop} {md:Region.Mode} {S:World->Prop} {L:Nat}
def x3q (P:Program) (md:Region.Mode) (ops:Array Oper) (Q:Exit->Act->World->Prop) (S:World->Prop) (L:Nat):Nat->Array Bool->Act->World->Prop
 | 0,listed,a,w=>Region.ready md ops listed=[]/\Q .normal a w
 | fuel+1,listed,a,w=>
   (Region.ready md ops listed=[]->Q .normal a w) /\
   ∀ i ∈ Region.ready md ops listed,wpOp P ops Q i (fun a' w'=>(i < L->S w')/\x3q P md ops Q S L fuel (listed.setIfInBounds i true) a' w') a w
theorem wpAny_of_U:∀ (fuel:Nat) (listed:Array Bool) (a:Act) (w:World),x3q P md ops Q S L fuel listed a w->wpAny P md ops Q fuel listed a w
 | 0,_,_,_,h=>h
 | fuel+1,_,_,_,h=>⟨h.1,fun i hi=>wpOp_mono (fun a' w' h'=>wpAny_of_U fuel _ a' w' h'.2) (h.2 i hi)⟩
theorem wpAnyU_first {i:Nat} {oi:Oper} {v:Value} (hi:ops[i]?=some oi) (hsel:∀ (j:Nat) (o:Oper) cs b,ops[j]?=some o->o.op ≠ .select cs b)
 (hQ:∀ c a w,Q (.panic c) (a.put oi.dst v) w->Q (.panic c) a w) (hL:∀ j oj,ops[j]?=some oj->L<=j->∃ e ∈ oj.after,Region.binds md e=true/\e.on=i) :
 ∀ (fuel:Nat) (listed:Array Bool) (a:Act) (w:World),
  (∀ j oj,ops[j]?=some oj->j ≠ i->listed.getD j true=false->(∀ e ∈ oj.after,Region.binds md e=true->e.on ≠ i)->oi.apart ops oj=true) ->
  i ∈ Region.ready md ops listed->YieldsIf P ops S oi v a->S w ->
  x3q P md ops Q S L fuel (listed.setIfInBounds i true) (a.put oi.dst v) w->x3q P md ops Q S L (fuel+1) listed a w:=by
 have notL:∀ (listed:Array Bool) (j:Nat),i ∈ Region.ready md ops listed->j ∈ Region.ready md ops listed->j < L:=by
  intro listed j hr hj
  rcases Nat.lt_or_ge j L with h | h
  ·exact h
  exfalso
  obtain⟨_,oj,hoj,hall⟩:=mem_ready.1 hj
  obtain⟨e,he,hb,heq⟩:=hL j oj hoj h
  have h1:=hall e he hb
  have h0:=(mem_ready.1 hr).1
  rw[heq] at h1
  rcases Nat.lt_or_ge i listed.size with h' | h'
  ·simp[h'] at h0 h1;rw[h0] at h1;cases h1
  ·simp[Array.getElem?_eq_none h'] at h1
 intro fuel
 induction fuel with
 | zero=>
   intro listed a w _ hr hy hS H
   refine⟨fun h=>(by rw[h] at hr;cases hr),fun j hj=>?_⟩
   by_cases hji:j=i
   ·subst hji;exact hy.wpOp hi hS ⟨fun _=>hS,H⟩
   ·have:=ready_mono hj hji
    rw[H.1] at this
    cases this
 | succ fuel ih=>
   intro listed a w hfree hr hy hS H
   refine⟨fun h=>(by rw[h] at hr;cases hr),fun j hj=>?_⟩
   by_cases hji:j=i
   ·subst hji;exact hy.wpOp hi hS ⟨fun _=>hS,H⟩
   ·have hjL:=notL listed j hr hj
    have h1:=H.2 j (ready_mono hj hji)
    obtain⟨hjun,oj,hoj,hall⟩:=mem_ready.1 hj
    have hnot:∀ e ∈ oj.after,Region.binds md e=true->e.on ≠ i:=fun e he hb heq=>by
     have h1:=hall e he hb
     have h0:=(mem_ready.1 hr).1
     rw[heq] at h1
     rcases Nat.lt_or_ge i listed.size with h' | h'
     ·simp[h'] at h0 h1;rw[h0] at h1;cases h1
     ·simp[Array.getElem?_eq_none h'] at h1
    have h2:=wpOp_putIf hoj (hfree j oj hoj hji hjun hnot) (fun cs b=>hsel i oi cs b hi) (fun cs b=>hsel j oj cs b hoj) hQ hy h1
    have hfree':∀ k ok,ops[k]?=some ok->k ≠ i->(listed.setIfInBounds j true).getD k true=false ->
     (∀ e ∈ ok.after,Region.binds md e=true->e.on ≠ i)->oi.apart ops ok=true:=fun k ok hk hki hun hno=>by
     refine hfree k ok hk hki ?_ hno
     by_cases hjk:j=k
     ·subst hjk;exact hjun
     ·rw[getD_set_ne true hjk] at hun;exact hun
    refine wpOp_mono (fun a' w' h3=>⟨h3.2.1,ih (listed.setIfInBounds j true) a' w' hfree' (ready_mono hr (Ne.symm hji)) h3.1 (h3.2.1 hjL) ?_⟩) h2
    rw[Array.setIfInBounds_comm _ _ hji]
    exact h3.2.2
def waitsOnU (md:Region.Mode) (ops:Array Oper) (L i:Nat):Bool:=(List.range ops.size).all fun j=>decide (j < L) || (match ops[j]? with
 | some o=>o.after.any fun e=>Region.binds md e && e.on == i
 | none=>false)
theorem waitsOnU_spec {i:Nat} (h:waitsOnU md ops L i=true):∀ j oj,ops[j]?=some oj->L<=j->∃ e ∈ oj.after,Region.binds md e=true/\e.on=i:=by
 intro j oj hj hL
 unfold waitsOnU at h
 have h1:=List.all_eq_true.1 h j (List.mem_range.2 (Array.getElem?_eq_some_iff.1 hj).1)
 rw[hj] at h1
 have h2:decide (j < L)=false:=decide_eq_false (by omega)
 rw[h2,Bool.false_or] at h1
 obtain⟨e,he,hb⟩:=Array.any_eq_true'.1 h1
 simp only[Bool.and_eq_true,beq_iff_eq] at hb
 exact⟨e,he,hb.1,hb.2⟩
theorem wpAnyU_take {i:Nat} {oi:Oper} {v:Value} {fuel:Nat} {listed:Array Bool} {a:Act} {w:World} (hi:ops[i]?=some oi)
 (hs:Region.noSelect ops=true) (hf:Region.free md ops listed i=true) (hr:(Region.ready md ops listed).contains i=true) (hL:waitsOnU md ops L i=true)
 (hQ:∀ c a w,Q (.panic c) (a.put oi.dst v) w->Q (.panic c) a w) (hy:YieldsIf P ops S oi v a) (hS:S w)
 (h:x3q P md ops Q S L fuel (listed.setIfInBounds i true) (a.put oi.dst v) w):x3q P md ops Q S L (fuel+1) listed a w:=
 wpAnyU_first hi (Region.noSelect_spec hs) hQ (waitsOnU_spec hL) fuel listed a w (Region.free_spec hi hf) (by simpa using hr) hy hS h
theorem takeU (i:Nat) {oi:Oper} {v:Value} {fuel:Nat} {listed:Array Bool} {a:Act} {w:World} (hi:ops[i]?=some oi) (hc:(okH md ops listed i && waitsOnU md ops L i)=true)
 (hQ:∀ c a w,Q (.panic c) (a.put oi.dst v) w->Q (.panic c) a w) (h1:Region.wanted oi (yielded ops a.tmps)=true) (h2:∀ w,S w->(execOp a.eval oi).run P w=.ok (.value v) w) (hS:S w)
 (h:x3q P md ops Q S L fuel (listed.setIfInBounds i true) (a.put oi.dst v) w):x3q P md ops Q S L (fuel+1) listed a w:=by
 rw[Bool.and_eq_true] at hc
 exact wpAnyU_take hi (x2m hc.1).1 (x2m hc.1).2.1 (x2m hc.1).2.2 hc.2 hQ (Or.inl ⟨h1,h2⟩) hS h
theorem wpAnyU_one {i:Nat} {o:Oper} {fuel:Nat} {listed:Array Bool} {a:Act} {w:World} (hr:Region.ready md ops listed=[i]) (ho:ops[i]?=some o)
 (h:∀ K':Act->World->Prop,Shut (∀ a w,(i < L->S w)->((i < L->S w)->x3q P md ops Q S L fuel (listed.setIfInBounds i true) a w)->K' a w)->if Region.wanted o (yielded ops a.tmps)=true then Oper.wp P o a w K' Q else K' (a.put o.dst undef) w) :
 x3q P md ops Q S L (fuel+1) listed a w:=by
 refine⟨fun h=>(by rw[hr] at h;cases h),fun j hj=>?_⟩
 rw[hr] at hj
 obtain rfl:=List.mem_singleton.1 hj
 exact wpOp_step ho (fun K' hK=>h K' (fun a w hS hW=>hK a w ⟨hS,hW hS⟩))
theorem zU (i:Nat) {oi:Oper} {v:Value} {fuel:Nat} {listed:Array Bool} {a:Act} {w:World}
 (h:x3q P md ops Q S L fuel (listed.setIfInBounds i true) (a.put oi.dst v) w) (hi:ops[i]?=some oi:=by exact opAt rfl) (hc:(okH md ops listed i && waitsOnU md ops L i)=true:=by kernel_rfl)
 (hQ:∀ c a w,Q (.panic c) (a.put oi.dst v) w->Q (.panic c) a w:=by exact fun _ _ _ h=>h) (h1:Region.wanted oi (yielded ops a.tmps)=true:=by rfl)
 (h2:∀ w,S w->(execOp a.eval oi).run P w=.ok (.value v) w:=by intro w hSw;(try dsimp only at hSw);go_simp;try with_reducible rfl) (hS:S w:=by assumption):x3q P md ops Q S L (fuel+1) listed a w:=
 takeU i hi hc hQ h1 h2 hS h
theorem oU (i:Nat) {o:Oper} {fuel:Nat} {listed:Array Bool} {a:Act} {w:World}
 (h:∀ K':Act->World->Prop,Shut (∀ a w,(i < L->S w)->((i < L->S w)->x3q P md ops Q S L fuel (listed.setIfInBounds i true) a w)->K' a w)->if Region.wanted o (yielded ops a.tmps)=true then Oper.wp P o a w K' Q else K' (a.put o.dst undef) w)
 (hr:Region.ready md ops listed=[i]:=by kernel_rfl) (ho:ops[i]?=some o:=by exact opAt rfl):x3q P md ops Q S L (fuel+1) listed a w:=
 wpAnyU_one hr ho h
theorem x69 {listed:Array Bool} {a:Act} {w:World} (hr:Region.ready md ops listed=[]) (h:Q .normal a w):∀ fuel,x3q P md ops Q S L fuel listed a w
 | 0=>⟨hr,h⟩
 | _+1=>⟨fun _=>h,by rw[hr];simp⟩
theorem x6b (S:World->Prop) (L:Nat) {id:Nat} {a:Act} {w:World} (hm:P.follows .mixedOrders=true) (hS:S w.drew)
 (h:S w.drew->x3q P .any ops Q S L ops.size (Array.replicate ops.size false) a w.drew):(Code.region id ops true).wp P Q a w:=
 wp_region_any hm (wpAny_of_U _ _ _ _ (h hS))
end
end Go.Proofs.YtofjodppljnlaaaGreatDoor
namespace Go.Proofs.YtofjodppljnlaaaGreatDoor
open Go.RowKit
theorem Lift_no {w:World} {F:Nat->Prop} {cb:Nat} {A:Option Addr} {c b q:Nat} {l:List Tok} {p pe al ab pb pq e:Int} {y:Tok} {s':StepD} (hrow:tokR.row w F A l) (hlc:l.length<=c) (hb:l.length<=1048576 * 4)
 (hp:∀ W,Pure w W->Calls Tryz.prog 83 #[deskV cb A l.length c,.int .i64 p,.int .i64 p] W (fun r w'=>r=.returned (.int .i64 pe)/\Pure W w'))
 (ha1:∀ W,Pure w W->Calls Tryz.prog 72 #[.slice A l.length c,.int .i64 p] W (fun r w'=>r=.returned (.int .i64 al)/\Pure W w'))
 (ha2:∀ W,Pure w W->Calls Tryz.prog 72 #[.slice A l.length c,.int .i64 al] W (fun r w'=>r=.returned (.int .i64 ab)/\Pure W w'))
 (hn:(pe ≠ 0/\e=pe)\/(pe=0/\al < 0/\e=6)\/(pe=0/\0<=al/\ab < 0/\e=6)) (hs:s'=repl 0 0 []) :
 Calls Tryz.prog 48 #[.pointer (some ⟨cb,0,none⟩),.slice A l.length c,.int .i64 p] w (fun r w'=>∃ B' c',Told s' B' c' e w r w'/\(tokR.row w' (fun k=>w.heap.size<=k) B' s'.sl/\s'.sl.length<=c'/\(s'.sl=[]->B'=none/\c'=0))/\(e ≠ 0->B'=none/\c'=0)):=by
 subst hs
 have HP:=mK hp
 have HA1:=mK ha1
 have HA2:=mK ha2
 clear hp ha1 ha2 hrow
 unfold Told StepD.val at *
 rcases hn with ⟨p0,rfl⟩ | ⟨rfl,a0,rfl⟩ | ⟨rfl,a0,a1,rfl⟩
 ·have f0:(e != 0)=true:=by simpa using p0
  clear p0
  go_enter Tryz.func48,Tryz.ntmps48
  go_wp2_with (first | (go_at_call 84;refine(x0x _).mono ?_;rintro r w2 ⟨rfl,hu⟩;have HB2:=mK (kP hu HB1.o);have HU2:=mK (HU1.o.tt hu);clear hu;apply As.o) | (go_at_call 83;refine(HP.o _ (aP.alloc _)).mono ?_;rintro r w1 ⟨rfl,hu⟩;obtain⟨hb1,hb2,hu2⟩:=x0s hu;obtain⟨q0,q1⟩:=cells2 hb2;have HB1:=mK hb1;have HQ1:=mK hb2;have HU1:=mK hu2;clear hu hb1 hb2 hu2))
  refine⟨?_⟩
  have hbl:w.heap.size < w2.heap.size:=lB HB2.o
  have hcf:=fZ HB2.o
  obtain⟨k0,k1,k2,k3,k4,k5,k6,k7⟩:=x06 HB2.o
  go_wp2
  exact bodyPost_ret (step_end (rb:=w.heap.size) rfl _ rfl (set8 (rb:=w.heap.size) HB2.o _ _ _ _ _ _ _ _)) rfl ⟨none,0,⟨rfl,x05 HU2.o (Nat.le_refl _) _ _ _ _ _ _ _ _⟩,⟨.inl rfl,Nat.zero_le _,fun _=>⟨rfl,rfl⟩⟩,fun _=>⟨rfl,rfl⟩⟩
 ·go_enter Tryz.func48,Tryz.ntmps48
  go_wp2_with (first | (go_at_call 84;refine(x0x _).mono ?_;rintro r w2 ⟨rfl,hu⟩;have HB2:=mK (kP hu HBa.o);have HU2:=mK (HUa.o.tt hu);clear hu;apply As.o) | (go_at_call 72;with_reducible refine(HA1.o w1 HU1.o).mono ?_;rintro r wa ⟨rfl,hu⟩;have HBa:=mK (kP hu HB1.o);have HQa:=mK (kP hu HQ1.o);have qa:=cells2 HQa.o;have HUa:=mK (HU1.o.tt hu);clear hu) | (go_at_call 83;refine(HP.o _ (aP.alloc _)).mono ?_;rintro r w1 ⟨rfl,hu⟩;obtain⟨hb1,hb2,hu2⟩:=x0s hu;obtain⟨q0,q1⟩:=cells2 hb2;have HB1:=mK hb1;have HQ1:=mK hb2;have HU1:=mK hu2;clear hu hb1 hb2 hu2))
  refine⟨?_⟩
  have hbl:w.heap.size < w2.heap.size:=lB HB2.o
  have hcf:=fZ HB2.o
  obtain⟨k0,k1,k2,k3,k4,k5,k6,k7⟩:=x06 HB2.o
  go_wp2
  exact bodyPost_ret (step_end (rb:=w.heap.size) rfl _ rfl (set8 (rb:=w.heap.size) HB2.o _ _ _ _ _ _ _ _)) rfl ⟨none,0,⟨rfl,x05 HU2.o (Nat.le_refl _) _ _ _ _ _ _ _ _⟩,⟨.inl rfl,Nat.zero_le _,fun _=>⟨rfl,rfl⟩⟩,fun _=>⟨rfl,rfl⟩⟩
 ·have a0':¬ al < 0:=by omega
  go_enter Tryz.func48,Tryz.ntmps48
  go_wp2_with (first | (go_at_call 84;refine(x0x _).mono ?_;rintro r w2 ⟨rfl,hu⟩;have HB2:=mK (kP hu HBb.o);have HU2:=mK (HUb.o.tt hu);clear hu;apply As.o) | (go_at_call 72;with_reducible refine(HA2.o wa HUa.o).mono ?_;rintro r wb ⟨rfl,hu⟩;have HBb:=mK (kP hu HBa.o);have HQb:=mK (kP hu HQa.o);have qb:=cells2 HQb.o;have HUb:=mK (HUa.o.tt hu);clear hu) | (go_at_call 72;with_reducible refine(HA1.o w1 HU1.o).mono ?_;rintro r wa ⟨rfl,hu⟩;have HBa:=mK (kP hu HB1.o);have HQa:=mK (kP hu HQ1.o);have qa:=cells2 HQa.o;have HUa:=mK (HU1.o.tt hu);clear hu) | (go_at_call 83;refine(HP.o _ (aP.alloc _)).mono ?_;rintro r w1 ⟨rfl,hu⟩;obtain⟨hb1,hb2,hu2⟩:=x0s hu;obtain⟨q0,q1⟩:=cells2 hb2;have HB1:=mK hb1;have HQ1:=mK hb2;have HU1:=mK hu2;clear hu hb1 hb2 hu2))
  refine⟨?_⟩
  have hbl:w.heap.size < w2.heap.size:=lB HB2.o
  have hcf:=fZ HB2.o
  obtain⟨k0,k1,k2,k3,k4,k5,k6,k7⟩:=x06 HB2.o
  go_wp2
  exact bodyPost_ret (step_end (rb:=w.heap.size) rfl _ rfl (set8 (rb:=w.heap.size) HB2.o _ _ _ _ _ _ _ _)) rfl ⟨none,0,⟨rfl,x05 HU2.o (Nat.le_refl _) _ _ _ _ _ _ _ _⟩,⟨.inl rfl,Nat.zero_le _,fun _=>⟨rfl,rfl⟩⟩,fun _=>⟨rfl,rfl⟩⟩
theorem tolds {W:World} {G:Nat->Prop} {A:Option Addr} {c:Nat} {e:Int} {sl text:List Tok} (h2:e=0->sl=text) (h3:e ≠ 0->sl=[]) (hr:tokR.row W G A text) (hc:text.length<=c) (hz:text=[]->A=none/\c=0):tokR.row W G (toldB A e) sl/\sl.length<=toldC c e/\(sl=[]->toldB A e=none/\toldC c e=0):=by
 obtain⟨h4,h5⟩:=x29 h2 h3 hr hc
 refine⟨h4,h5,fun h=>?_⟩
 unfold toldB toldC
 by_cases h0:e=0
 ·rw[if_pos h0,if_pos h0]
  rw[h2 h0] at h
  exact hz h
 ·rw[if_neg h0,if_neg h0]
  exact⟨rfl,rfl⟩
theorem Lift_ff {w:World} {F:Nat->Prop} {cb:Nat} {A:Option Addr} {c b q:Nat} {l:List Tok} {p pe al ab pb pq e:Int} {y:Tok} {s':StepD} (hrow:tokR.row w F A l) (hlc:l.length<=c) (hb:l.length<=1048576 * 4)
 (hp:∀ W,Pure w W->Calls Tryz.prog 83 #[deskV cb A l.length c,.int .i64 p,.int .i64 p] W (fun r w'=>r=.returned (.int .i64 pe)/\Pure W w'))
 (ha1:∀ W,Pure w W->Calls Tryz.prog 72 #[.slice A l.length c,.int .i64 p] W (fun r w'=>r=.returned (.int .i64 al)/\Pure W w'))
 (ha2:∀ W,Pure w W->Calls Tryz.prog 72 #[.slice A l.length c,.int .i64 al] W (fun r w'=>r=.returned (.int .i64 ab)/\Pure W w'))
 (hp1:∀ W,Pure w W->Calls Tryz.prog 103 #[.slice A l.length c,.int .i64 (b:Nat)] W (fun r w'=>r=.returned (.int .i64 pb)/\Pure W w'))
 (hp2:∀ W,Pure w W->Calls Tryz.prog 103 #[.slice A l.length c,.int .i64 (q:Nat)] W (fun r w'=>r=.returned (.int .i64 pq)/\Pure W w'))
 (p0:pe=0) (hal:al=(b:Int)) (hab:ab=(q:Int)) (hbl:b < l.length) (hy:l[q]?=some y) (hpb:-1<=pb/\pb < l.length) (hpq:-1<=pq/\pq < l.length)
 (hf:(b:Int)=(q:Int)+1) (hl:pb+1=pq)
 (hr:∀ V A1 c1,Pure w V->tokR.row V (fun _=>True) A1 []->([]:List Tok).length<=c1->(([]:List Tok)=[]->A1=none/\c1=0)->Calls Tryz.prog 91 #[deskV cb A l.length c,(arnd q (pq+1) b (pb+1) 0 []).val A1 c1] V (Told s' (toldB A1 e) (toldC c1 e) e V))
 (h2:e=0->s'.sl=[]) (h3:e ≠ 0->s'.sl=[]) :
 Calls Tryz.prog 48 #[.pointer (some ⟨cb,0,none⟩),.slice A l.length c,.int .i64 p] w (fun r w'=>∃ B' c',Told s' B' c' e w r w'/\(tokR.row w' (fun k=>w.heap.size<=k) B' s'.sl/\s'.sl.length<=c'/\(s'.sl=[]->B'=none/\c'=0))/\(e ≠ 0->B'=none/\c'=0)):=by
 have HP:=mK hp
 have HA1:=mK ha1
 have HA2:=mK ha2
 have HP1:=mK hp1
 have HP2:=mK hp2
 have HR:=mK hr
 have HT:=mK (And.intro h2 h3)
 have hw1:IntKind.i64.wrap ((q:Int)+1)=(q:Int)+1:=IntWalk.i64_in _ (by have:=(List.getElem?_eq_some_iff.1 hy).1;omega)
 have hw2:IntKind.i64.wrap (pb+1)=pb+1:=IntWalk.i64_in _ (by omega)
 have hw3:IntKind.i64.wrap (pq+1)=pq+1:=IntWalk.i64_in _ (by omega)
 have gb:¬ ((b:Int) < 0):=by omega
 have gq:¬ ((q:Int) < 0):=by omega
 obtain⟨bA,oA,rfl,hF,hbA,c0,c1,c2,c3⟩:=x0j hrow hy
 have HBA:=mK hbA
 have HCS:=mK (And.intro c0 (And.intro c1 (And.intro c2 c3)))
 have ql:q < l.length:=(List.getElem?_eq_some_iff.1 hy).1
 subst p0 hal hab
 have jf:((b:Int) == (q:Int)+1)=true:=by simpa using hf
 have jl:(pb+1 == pq)=true:=by simpa using hl
 clear hf hl
 clear hp ha1 ha2 hp1 hp2 hr h2 h3 hrow hy hpb hpq hF hbA c0 c1 c2 c3
 unfold Told StepD.val arnd at *
 go_enter Tryz.func48,Tryz.ntmps48
 go_wp2_with (first | (go_at_call 91;refine(HR.o (wd.alloc _) none 0 (HUd.o.alloc _) (.inl rfl) (Nat.le_refl _) (fun _=>⟨rfl,rfl⟩)).mono ?_;rintro r w2 ⟨rfl,hu⟩;obtain⟨_,hu2⟩:=x0i hu;have HB2:=mK (kP hu2 HBd.o);have HU2:=mK (HUd.o.tt hu2);have HR2:=mK (Rp.row_nil tokR w2 (fun k=>w.heap.size < k) none);clear hu hu2;apply As.o) | (go_at_call 103;with_reducible refine(HP2.o wc HUc.o).mono ?_;rintro r wd ⟨rfl,hu⟩;have HBd:=mK (kP hu HBc.o);have HQd:=mK (kP hu HQc.o);have qd:=cells2 HQd.o;have HUd:=mK (HUc.o.tt hu);clear hu;have hbd:w.heap.size+1 < wd.heap.size:=lt_of_block HQd.o;obtain⟨qd0,qd1⟩:=qd) | (go_at_call 103;with_reducible refine(HP1.o wb HUb.o).mono ?_;rintro r wc ⟨rfl,hu⟩;have HBc:=mK (kP hu HBb.o);have HQc:=mK (kP hu HQb.o);have qc:=cells2 HQc.o;have HUc:=mK (HUb.o.tt hu);clear hu) | (go_at_call 72;with_reducible refine(HA2.o wa HUa.o).mono ?_;rintro r wb ⟨rfl,hu⟩;have HBb:=mK (kP hu HBa.o);have HQb:=mK (kP hu HQa.o);have qb:=cells2 HQb.o;have HUb:=mK (HUa.o.tt hu);clear hu) | (go_at_call 72;with_reducible refine(HA1.o w1 HU1.o).mono ?_;rintro r wa ⟨rfl,hu⟩;have HBa:=mK (kP hu HB1.o);have HQa:=mK (kP hu HQ1.o);have qa:=cells2 HQa.o;have HUa:=mK (HU1.o.tt hu);clear hu) | (go_at_call 83;refine(HP.o _ (aP.alloc _)).mono ?_;rintro r w1 ⟨rfl,hu⟩;obtain⟨hb1,hb2,hu2⟩:=x0s hu;obtain⟨q0,q1⟩:=cells2 hb2;have HB1:=mK hb1;have HQ1:=mK hb2;have HU1:=mK hu2;clear hu hb1 hb2 hu2))
 refine⟨?_⟩
 have hbl:w.heap.size < w2.heap.size:=lB HB2.o
 have hcf:=fZ HB2.o
 obtain⟨k0,k1,k2,k3,k4,k5,k6,k7⟩:=x06 HB2.o
 go_wp2
 exact bodyPost_ret (step_end (rb:=w.heap.size) rfl _ rfl (set8 (rb:=w.heap.size) HB2.o _ _ _ _ _ _ _ _)) rfl ⟨_,_,⟨rfl,x05 HU2.o (Nat.le_refl _) _ _ _ _ _ _ _ _⟩,tolds (e:=e) HT.o.1 HT.o.2 (Rp.x09 (G:=fun k=>w.heap.size<=k) (Rp.x0f HR2.o (x0b rU _ _ _ _ _ _ _ _) (fun k _ h e=>by omega)) (fun _ h=>by (try have h8:=HL.o);omega)) (Nat.le_refl 0) (fun _=>⟨rfl,rfl⟩),fun h=>⟨if_neg h,if_neg h⟩⟩
theorem Lift_fn {w:World} {F:Nat->Prop} {cb:Nat} {A:Option Addr} {c b q:Nat} {l:List Tok} {p pe al ab pb pq e:Int} {y:Tok} {s':StepD} (hrow:tokR.row w F A l) (hlc:l.length<=c) (hb:l.length<=1048576 * 4)
 (hp:∀ W,Pure w W->Calls Tryz.prog 83 #[deskV cb A l.length c,.int .i64 p,.int .i64 p] W (fun r w'=>r=.returned (.int .i64 pe)/\Pure W w'))
 (ha1:∀ W,Pure w W->Calls Tryz.prog 72 #[.slice A l.length c,.int .i64 p] W (fun r w'=>r=.returned (.int .i64 al)/\Pure W w'))
 (ha2:∀ W,Pure w W->Calls Tryz.prog 72 #[.slice A l.length c,.int .i64 al] W (fun r w'=>r=.returned (.int .i64 ab)/\Pure W w'))
 (hp1:∀ W,Pure w W->Calls Tryz.prog 103 #[.slice A l.length c,.int .i64 (b:Nat)] W (fun r w'=>r=.returned (.int .i64 pb)/\Pure W w'))
 (hp2:∀ W,Pure w W->Calls Tryz.prog 103 #[.slice A l.length c,.int .i64 (q:Nat)] W (fun r w'=>r=.returned (.int .i64 pq)/\Pure W w'))
 (p0:pe=0) (hal:al=(b:Int)) (hab:ab=(q:Int)) (hbl:b < l.length) (hy:l[q]?=some y) (hpb:-1<=pb/\pb < l.length) (hpq:-1<=pq/\pq < l.length)
 (hf:(b:Int)=(q:Int)+1) (hl:pb+1 ≠ pq)
 (hr:∀ V A1 c1,Pure w V->tokR.row V (fun _=>True) A1 [y]->([y]:List Tok).length<=c1->(([y]:List Tok)=[]->A1=none/\c1=0)->Calls Tryz.prog 91 #[deskV cb A l.length c,(arnd q (pb+1) b (pb+1) 0 [y]).val A1 c1] V (Told s' (toldB A1 e) (toldC c1 e) e V))
 (h2:e=0->s'.sl=[y]) (h3:e ≠ 0->s'.sl=[]) :
 Calls Tryz.prog 48 #[.pointer (some ⟨cb,0,none⟩),.slice A l.length c,.int .i64 p] w (fun r w'=>∃ B' c',Told s' B' c' e w r w'/\(tokR.row w' (fun k=>w.heap.size<=k) B' s'.sl/\s'.sl.length<=c'/\(s'.sl=[]->B'=none/\c'=0))/\(e ≠ 0->B'=none/\c'=0)):=by
 have HP:=mK hp
 have HA1:=mK ha1
 have HA2:=mK ha2
 have HP1:=mK hp1
 have HP2:=mK hp2
 have HR:=mK hr
 have HT:=mK (And.intro h2 h3)
 have hw1:IntKind.i64.wrap ((q:Int)+1)=(q:Int)+1:=IntWalk.i64_in _ (by have:=(List.getElem?_eq_some_iff.1 hy).1;omega)
 have hw2:IntKind.i64.wrap (pb+1)=pb+1:=IntWalk.i64_in _ (by omega)
 have hw3:IntKind.i64.wrap (pq+1)=pq+1:=IntWalk.i64_in _ (by omega)
 have gb:¬ ((b:Int) < 0):=by omega
 have gq:¬ ((q:Int) < 0):=by omega
 obtain⟨bA,oA,rfl,hF,hbA,c0,c1,c2,c3⟩:=x0j hrow hy
 have HBA:=mK hbA
 have HCS:=mK (And.intro c0 (And.intro c1 (And.intro c2 c3)))
 have ql:q < l.length:=(List.getElem?_eq_some_iff.1 hy).1
 subst p0 hal hab
 have jf:((b:Int) == (q:Int)+1)=true:=by simpa using hf
 have jl:(pb+1 == pq)=false:=by simpa using hl
 clear hf hl
 clear hp ha1 ha2 hp1 hp2 hr h2 h3 hrow hy hpb hpq hF hbA c0 c1 c2 c3
 unfold Told StepD.val arnd at *
 go_enter Tryz.func48,Tryz.ntmps48
 go_wp2_with (first | (go_at_call 103;with_reducible refine(HP2.o wc HUc.o).mono ?_;rintro r wd ⟨rfl,hu⟩;have HBd:=mK (kP hu HBc.o);have HQd:=mK (kP hu HQc.o);have qd:=cells2 HQd.o;have HUd:=mK (HUc.o.tt hu);clear hu;have hbd:w.heap.size+1 < wd.heap.size:=lt_of_block HQd.o;obtain⟨qd0,qd1⟩:=qd) | (go_at_call 103;with_reducible refine(HP1.o wb HUb.o).mono ?_;rintro r wc ⟨rfl,hu⟩;have HBc:=mK (kP hu HBb.o);have HQc:=mK (kP hu HQb.o);have qc:=cells2 HQc.o;have HUc:=mK (HUb.o.tt hu);clear hu) | (go_at_call 72;with_reducible refine(HA2.o wa HUa.o).mono ?_;rintro r wb ⟨rfl,hu⟩;have HBb:=mK (kP hu HBa.o);have HQb:=mK (kP hu HQa.o);have qb:=cells2 HQb.o;have HUb:=mK (HUa.o.tt hu);clear hu) | (go_at_call 72;with_reducible refine(HA1.o w1 HU1.o).mono ?_;rintro r wa ⟨rfl,hu⟩;have HBa:=mK (kP hu HB1.o);have HQa:=mK (kP hu HQ1.o);have qa:=cells2 HQa.o;have HUa:=mK (HU1.o.tt hu);clear hu) | (go_at_call 83;refine(HP.o _ (aP.alloc _)).mono ?_;rintro r w1 ⟨rfl,hu⟩;obtain⟨hb1,hb2,hu2⟩:=x0s hu;obtain⟨q0,q1⟩:=cells2 hb2;have HB1:=mK hb1;have HQ1:=mK hb2;have HU1:=mK hu2;clear hu hb1 hb2 hu2))
 have HB9:=mK (heap_alloc_new wd (.cells #[.int .i64 1,.int .i64 (q:Nat),.int .i64 (pb+1),.int .i64 (b:Nat),.int .i64 (pb+1),.int .i64 0,.slice none 0 0,.int .i64 0] 46))
 have HU9:=mK (HUd.o.alloc (.cells #[.int .i64 1,.int .i64 (q:Nat),.int .i64 (pb+1),.int .i64 (b:Nat),.int .i64 (pb+1),.int .i64 0,.slice none 0 0,.int .i64 0] 46))
 have HQ9:=mK ((Below.heap_alloc wd (.cells #[.int .i64 1,.int .i64 (q:Nat),.int .i64 (pb+1),.int .i64 (b:Nat),.int .i64 (pb+1),.int .i64 0,.slice none 0 0,.int .i64 0] 46) _ (lt_of_block HQd.o)).trans HQd.o)
 have HW9:=mK ((Below.heap_alloc wd (.cells #[.int .i64 1,.int .i64 (q:Nat),.int .i64 (pb+1),.int .i64 (b:Nat),.int .i64 (pb+1),.int .i64 0,.slice none 0 0,.int .i64 0] 46) _ (lt_of_block HBd.o)).trans HBd.o)
 have HL9:=mK (show w.heap.size+1 < wd.heap.size from lt_of_block HQd.o)
 have HL:=HL9
 generalize wd.alloc (.cells #[.int .i64 1,.int .i64 (q:Nat),.int .i64 (pb+1),.int .i64 (b:Nat),.int .i64 (pb+1),.int .i64 0,.slice none 0 0,.int .i64 0] 46)=v9 at *
 generalize wd.heap.size=sb at *
 have HO9:=mK (show tokR.own 71 v9 (fun k=>sb < k) (.slice none 0 0) [] from Rp.x0v _ _ _ _)
 have HK6:=mK (fun v (hb:v.heap[sb]?=v9.heap[sb]?) (hu:Pure w v)=>(by
  obtain⟨e0,e1,e2,e3⟩:=HCS.o
  have hh:∀ k,v.cell? ⟨bA,k,none⟩=w.cell? ⟨bA,k,none⟩:=fun k=>hu.cell HBA.o (fun h=>h)
  exact⟨(x06 (hb.trans HB9.o)).2.2.2.2.2.2.1,(hh _).trans e0,(hh _).trans e1,(hh _).trans e2,(hh _).trans e3⟩:(fun v=>v.cell? ⟨sb,6,none⟩=some (.slice none 0 0)/\v.cell? ⟨bA,oA+q * 4,none⟩=some (.int .i64 y.k)/\v.cell? ⟨bA,oA+q * 4+1,none⟩=some (.int .i64 y.t)/\v.cell? ⟨bA,oA+q * 4+2,none⟩=some (.int .i64 y.n)/\v.cell? ⟨bA,oA+q * 4+3,none⟩=some (.int .i64 y.m)) v))
 have HZ6:=mK (show v9.drew.heap[sb]?=v9.heap[sb]? from rfl)
 have HZ8:=mK (show ∀ o,(v9.alloc o).drew.heap[sb]?=v9.heap[sb]? from fun o=>Below.heap_alloc v9 o sb (lt_of_block HB9.o))
 have HZ7:=mK (show ∀ o,(v9.drew.alloc o).heap[sb]?=v9.heap[sb]? from fun o=>Below.heap_alloc v9.drew o sb (lt_of_block HB9.o))
 have hcf9:∀ i,v9.frozen? ⟨sb,i,none⟩=false:=(fun i=>by simp[World.frozen?,HB9.o])
 refine x6b (P:=Tryz.prog) (fun v=>v.cell? ⟨sb,6,none⟩=some (.slice none 0 0)/\v.cell? ⟨bA,oA+q * 4,none⟩=some (.int .i64 y.k)/\v.cell? ⟨bA,oA+q * 4+1,none⟩=some (.int .i64 y.t)/\v.cell? ⟨bA,oA+q * 4+2,none⟩=some (.int .i64 y.n)/\v.cell? ⟨bA,oA+q * 4+3,none⟩=some (.int .i64 y.m)) 8 (by kernel_rfl) ?_ (fun hHeld=>?_)
 ·with_reducible (first | exact HK6.o _ (HZ6.o) HU9.o.drew | exact HK6.o _ (HZ7.o _) (HU9.o.drew.alloc _) | exact HK6.o _ (HZ8.o _) (HU9.o.alloc _).drew | exact HK6.o _ HZ5.o HU5.o)
 refine zU 0 ?_
 refine zU 1 ?_
 refine zU 2 ?_
 refine zU 3 ?_
 refine zU 4 ?_
 refine zU 5 ?_
 (try simp only[Act.put,sA,sB,sC])
 refine oU 6 (fun K hK=>?_)
 go_simp
 refine hK.out _ _ (fun _=>by with_reducible (first | exact HK6.o _ (HZ6.o) HU9.o.drew | exact HK6.o _ (HZ7.o _) (HU9.o.drew.alloc _) | exact HK6.o _ (HZ8.o _) (HU9.o.alloc _).drew | exact HK6.o _ HZ5.o HU5.o)) (fun hHeld=>?_)
 replace hHeld:=hHeld (by decide)
 clear hK K
 (try simp only[Act.put,sA,sB,sC])
 refine oU 7 (fun K hK=>?_)
 refine Rp.x37 tokR (W:=v9.drew) (Rp.own_drew HO9.o) y y.cs rfl (Fp:=fun _=>False) (G:=fun q=>sb < q) (fun _ h=>h.elim) (fun _ h=>h) (fun q hq=>Nat.lt_of_lt_of_le (lt_of_block HB9.o) hq) (by rfl) _ _ 22 _ 32 (by rfl) Tryz.underlying22 x0y rfl (by decide) (by decide) (by rfl) rfl (by rfl) (by decide) ?_;intro v1 w5 ho1 hu1;have HU5:=mK (Upd.trans HU9.o.drew hu1 (fun k hk h=>by have h7:=(Rp.x03 HO9.o k h).1;have h8:=HL9.o;omega));have HZ5:=mK (show w5.heap[sb]?=v9.heap[sb]? from hu1.block sb (lt_of_block HB9.o) (fun h=>Nat.lt_irrefl _ (Rp.x03 HO9.o _ h).1));have HQ5:=mK ((hu1.block (w.heap.size+1) (lt_of_block HQ9.o) (fun h=>by have h7:=(Rp.x03 HO9.o _ h).1;have h8:=HL9.o;omega)).trans HQ9.o);have HW5:=mK ((hu1.block w.heap.size (lt_of_block HW9.o) (fun h=>by have h7:=(Rp.x03 HO9.o _ h).1;have h8:=HL9.o;omega)).trans HW9.o);obtain⟨Ar,cr,rfl,hcq,hrq⟩:=Rp.x0c ho1;have HR5:=mK hrq;have HC5:=mK hcq;have HB5:=mK (HZ5.o.trans HB9.o);have hbl5:sb < w5.heap.size:=lt_of_block HB5.o;have hcf5:∀ i,w5.frozen? ⟨sb,i,none⟩=false:=(fun i=>by simp[World.frozen?,HB5.o]);obtain⟨k0,k1,k2,k3,k4,k5,k6,k7⟩:=x06 HB5.o;obtain⟨d0,d1⟩:=cells2 HQ5.o;clear ho1 hu1 hcq hrq
 refine hK.out _ _ (fun _=>by with_reducible (first | exact HK6.o _ (HZ6.o) HU9.o.drew | exact HK6.o _ (HZ7.o _) (HU9.o.drew.alloc _) | exact HK6.o _ (HZ8.o _) (HU9.o.alloc _).drew | exact HK6.o _ HZ5.o HU5.o)) (fun hHeld=>?_)
 replace hHeld:=hHeld (by decide)
 clear hK K
 (try simp only[Act.put,sA,sB,sC])
 refine oU 8 (fun K hK=>?_)
 go_simp
 refine hK.out _ _ (fun h=>absurd h (by decide)) (fun hHeld=>?_)
 clear hK K
 (try simp only[Act.put,sA,sB,sC])
 refine oU 9 (fun K hK=>?_)
 go_simp
 refine hK.out _ _ (fun h=>absurd h (by decide)) (fun hHeld=>?_)
 clear hK K
 (try simp only[Act.put,sA,sB,sC])
 refine x69 (by kernel_rfl) ?_ _
 go_wp2_with (go_at_call 91;refine(HR.o _ Ar cr (HU5.o.setCell (p:=⟨sb,6,none⟩) (fun h=>absurd h (by show ¬ sb < w.heap.size;have h8:=HL.o;omega)) _) (Rp.x09 (Rp.x0f HR5.o ((Upd.refl (fun k=>k=sb) w5).setCell (p:=⟨sb,6,none⟩) (fun _=>rfl) _) (fun k _ h e=>by omega)) (fun _ _=>trivial)) HC5.o (fun h=>absurd h (by simp))).mono ?_;rintro r w2 ⟨rfl,hu⟩;have HU2:=mK ((HU5.o.setCell (p:=⟨sb,6,none⟩) (fun h=>absurd h (by show ¬ sb < w.heap.size;have h8:=HL.o;omega)) _).tt hu);have HB2:=mK ((hu.block w.heap.size (by have h7:=lt_of_block HW5.o;simpa[World.setCell] using h7) (fun h=>h)).trans ((Upd.block (S:=fun k=>k=sb) ((Upd.refl (fun k=>k=sb) w5).setCell (p:=⟨sb,6,none⟩) (fun _=>rfl) _) w.heap.size (lt_of_block HW5.o) (by have h8:=HL.o;omega)).trans HW5.o));have HR2:=mK (Rp.x01 (Rp.x0f HR5.o ((Upd.refl (fun k=>k=sb) w5).setCell (p:=⟨sb,6,none⟩) (fun _=>rfl) _) (fun k _ h e=>by omega)) hu);clear hu;apply As.o)
 refine⟨?_⟩
 have hbl:w.heap.size < w2.heap.size:=lB HB2.o
 have hcf:=fZ HB2.o
 obtain⟨k0,k1,k2,k3,k4,k5,k6,k7⟩:=x06 HB2.o
 go_wp2
 exact bodyPost_ret (step_end (rb:=w.heap.size) rfl _ rfl (set8 (rb:=w.heap.size) HB2.o _ _ _ _ _ _ _ _)) rfl ⟨_,_,⟨rfl,x05 HU2.o (Nat.le_refl _) _ _ _ _ _ _ _ _⟩,tolds (e:=e) HT.o.1 HT.o.2 (Rp.x09 (G:=fun k=>w.heap.size<=k) (Rp.x0f HR2.o (x0b rU _ _ _ _ _ _ _ _) (fun k _ h e=>by have h8:=HL.o;omega)) (fun _ h=>by (try have h8:=HL.o);omega)) HC5.o (fun h=>absurd h (by simp)),fun h=>⟨if_neg h,if_neg h⟩⟩
theorem Lift_nf {w:World} {F:Nat->Prop} {cb:Nat} {A:Option Addr} {c b q:Nat} {l:List Tok} {p pe al ab pb pq e:Int} {y:Tok} {s':StepD} (hrow:tokR.row w F A l) (hlc:l.length<=c) (hb:l.length<=1048576 * 4)
 (hp:∀ W,Pure w W->Calls Tryz.prog 83 #[deskV cb A l.length c,.int .i64 p,.int .i64 p] W (fun r w'=>r=.returned (.int .i64 pe)/\Pure W w'))
 (ha1:∀ W,Pure w W->Calls Tryz.prog 72 #[.slice A l.length c,.int .i64 p] W (fun r w'=>r=.returned (.int .i64 al)/\Pure W w'))
 (ha2:∀ W,Pure w W->Calls Tryz.prog 72 #[.slice A l.length c,.int .i64 al] W (fun r w'=>r=.returned (.int .i64 ab)/\Pure W w'))
 (hp1:∀ W,Pure w W->Calls Tryz.prog 103 #[.slice A l.length c,.int .i64 (b:Nat)] W (fun r w'=>r=.returned (.int .i64 pb)/\Pure W w'))
 (hp2:∀ W,Pure w W->Calls Tryz.prog 103 #[.slice A l.length c,.int .i64 (q:Nat)] W (fun r w'=>r=.returned (.int .i64 pq)/\Pure W w'))
 (p0:pe=0) (hal:al=(b:Int)) (hab:ab=(q:Int)) (hbl:b < l.length) (hy:l[q]?=some y) (hpb:-1<=pb/\pb < l.length) (hpq:-1<=pq/\pq < l.length)
 (hf:(b:Int) ≠ (q:Int)+1) (hl:pb+1=pq)
 (hr:∀ V A1 c1,Pure w V->tokR.row V (fun _=>True) A1 [shutT]->([shutT]:List Tok).length<=c1->(([shutT]:List Tok)=[]->A1=none/\c1=0)->Calls Tryz.prog 91 #[deskV cb A l.length c,(arnd b (pq+1) b (pb+1) 1 [shutT]).val A1 c1] V (Told s' (toldB A1 e) (toldC c1 e) e V))
 (h2:e=0->s'.sl=[shutT]) (h3:e ≠ 0->s'.sl=[]) :
 Calls Tryz.prog 48 #[.pointer (some ⟨cb,0,none⟩),.slice A l.length c,.int .i64 p] w (fun r w'=>∃ B' c',Told s' B' c' e w r w'/\(tokR.row w' (fun k=>w.heap.size<=k) B' s'.sl/\s'.sl.length<=c'/\(s'.sl=[]->B'=none/\c'=0))/\(e ≠ 0->B'=none/\c'=0)):=by
 have HP:=mK hp
 have HA1:=mK ha1
 have HA2:=mK ha2
 have HP1:=mK hp1
 have HP2:=mK hp2
 have HR:=mK hr
 have HT:=mK (And.intro h2 h3)
 have hw1:IntKind.i64.wrap ((q:Int)+1)=(q:Int)+1:=IntWalk.i64_in _ (by have:=(List.getElem?_eq_some_iff.1 hy).1;omega)
 have hw2:IntKind.i64.wrap (pb+1)=pb+1:=IntWalk.i64_in _ (by omega)
 have hw3:IntKind.i64.wrap (pq+1)=pq+1:=IntWalk.i64_in _ (by omega)
 have gb:¬ ((b:Int) < 0):=by omega
 have gq:¬ ((q:Int) < 0):=by omega
 obtain⟨bA,oA,rfl,hF,hbA,c0,c1,c2,c3⟩:=x0j hrow hy
 have HBA:=mK hbA
 have HCS:=mK (And.intro c0 (And.intro c1 (And.intro c2 c3)))
 have ql:q < l.length:=(List.getElem?_eq_some_iff.1 hy).1
 subst p0 hal hab
 have jf:((b:Int) == (q:Int)+1)=false:=by simpa using hf
 have jl:(pb+1 == pq)=true:=by simpa using hl
 clear hf hl
 clear hp ha1 ha2 hp1 hp2 hr h2 h3 hrow hy hpb hpq hF hbA c0 c1 c2 c3
 unfold Told StepD.val arnd at *
 go_enter Tryz.func48,Tryz.ntmps48
 go_wp2_with (first | (go_at_call 103;with_reducible refine(HP2.o wc HUc.o).mono ?_;rintro r wd ⟨rfl,hu⟩;have HBd:=mK (kP hu HBc.o);have HQd:=mK (kP hu HQc.o);have qd:=cells2 HQd.o;have HUd:=mK (HUc.o.tt hu);clear hu;have hbd:w.heap.size+1 < wd.heap.size:=lt_of_block HQd.o;obtain⟨qd0,qd1⟩:=qd) | (go_at_call 103;with_reducible refine(HP1.o wb HUb.o).mono ?_;rintro r wc ⟨rfl,hu⟩;have HBc:=mK (kP hu HBb.o);have HQc:=mK (kP hu HQb.o);have qc:=cells2 HQc.o;have HUc:=mK (HUb.o.tt hu);clear hu) | (go_at_call 72;with_reducible refine(HA2.o wa HUa.o).mono ?_;rintro r wb ⟨rfl,hu⟩;have HBb:=mK (kP hu HBa.o);have HQb:=mK (kP hu HQa.o);have qb:=cells2 HQb.o;have HUb:=mK (HUa.o.tt hu);clear hu) | (go_at_call 72;with_reducible refine(HA1.o w1 HU1.o).mono ?_;rintro r wa ⟨rfl,hu⟩;have HBa:=mK (kP hu HB1.o);have HQa:=mK (kP hu HQ1.o);have qa:=cells2 HQa.o;have HUa:=mK (HU1.o.tt hu);clear hu) | (go_at_call 83;refine(HP.o _ (aP.alloc _)).mono ?_;rintro r w1 ⟨rfl,hu⟩;obtain⟨hb1,hb2,hu2⟩:=x0s hu;obtain⟨q0,q1⟩:=cells2 hb2;have HB1:=mK hb1;have HQ1:=mK hb2;have HU1:=mK hu2;clear hu hb1 hb2 hu2))
 have HL:=mK (show w.heap.size+1 < wd.heap.size from lt_of_block HQd.o)
 have HS0:=mK (heap_alloc_new wd (.cells #[.int .i64 1,.int .i64 (b:Nat),.int .i64 (pb+1),.int .i64 (b:Nat),.int .i64 (pb+1),.int .i64 0,.slice none 0 0,.int .i64 0] 46))
 have HU0:=mK (HUd.o.alloc (.cells #[.int .i64 1,.int .i64 (b:Nat),.int .i64 (pb+1),.int .i64 (b:Nat),.int .i64 (pb+1),.int .i64 0,.slice none 0 0,.int .i64 0] 46))
 have HK6:=mK (fun v (hu:Pure (wd.alloc (.cells #[.int .i64 1,.int .i64 (b:Nat),.int .i64 (pb+1),.int .i64 (b:Nat),.int .i64 (pb+1),.int .i64 0,.slice none 0 0,.int .i64 0] 46)) v)=>(x06 ((hu.block wd.heap.size (by simp) (fun h=>h)).trans HS0.o)).2.2.2.2.2.2.1)
 refine x6b (P:=Tryz.prog) (fun v=>v.cell? ⟨wd.heap.size,6,none⟩=some (.slice none 0 0)) 5 (by kernel_rfl) ?_ (fun hHeld=>?_)
 ·with_reducible (first | exact HK6.o _ rU.drew | exact HK6.o _ HP3.o | exact HK6.o _ (HP3.o.alloc _) | exact HK6.o _ HP4.o)
 refine zU 0 ?_
 refine zU 1 ?_
 refine oU 2 (fun K hK=>?_)
 go_simp
 (go_at_call 93;refine(x2q _).mono ?_;rintro r w3 ⟨rfl,hu3⟩;have HP3:=mK (rU.drew.tt hu3);have HL3:=mK (lt_of_block ((HP3.o.block wd.heap.size (by simp) (fun h=>h)).trans HS0.o));clear hu3)
 refine hK.out _ _ (fun _=>by with_reducible (first | exact HK6.o _ rU.drew | exact HK6.o _ HP3.o | exact HK6.o _ (HP3.o.alloc _) | exact HK6.o _ HP4.o)) (fun hHeld=>?_)
 replace hHeld:=hHeld (by decide)
 clear hK K
 (try simp only[Act.put,sA,sB,sC])
 refine oU 3 (fun K hK=>?_)
 go_simp
 refine hK.out _ _ (fun _=>by with_reducible (first | exact HK6.o _ rU.drew | exact HK6.o _ HP3.o | exact HK6.o _ (HP3.o.alloc _) | exact HK6.o _ HP4.o)) (fun hHeld=>?_)
 replace hHeld:=hHeld (by decide)
 clear hK K
 (try simp only[Act.put,sA,sB,sC])
 refine oU 4 (fun K hK=>?_)
 refine Rp.x37 tokR (W:=w3) (Rp.x0v tokR 71 w3 (fun q=>wd.heap.size < q)) shutT shutT.cs rfl (Fp:=fun _=>False) (G:=fun q=>wd.heap.size < q) (fun _ h=>h.elim) (fun _ h=>h) (fun q hq=>Nat.lt_of_lt_of_le HL3.o hq) (by rfl) _ _ 22 _ 32 (by rfl) Tryz.underlying22 x0y rfl (by decide) (by decide) (by rfl) rfl (by rfl) (by decide) ?_;intro v1 w4 ho1 hu1;have HP4:=mK (Upd.trans HP3.o hu1 (fun k _ h=>by simp[Value.ownBlock] at h));obtain⟨Aq,cq,rfl,hcq,hrq⟩:=Rp.x0c ho1;have HO4:=mK ho1;have HR4:=mK hrq;have HC4:=mK hcq;have HU4:=mK (HU0.o.tt HP4.o);have HB4:=mK ((HP4.o.block wd.heap.size (by simp) (fun h=>h)).trans HS0.o);have HQ4:=mK ((HP4.o.block (w.heap.size+1) (by simp;have:=lt_of_block HQd.o;omega) (fun h=>h)).trans ((Below.heap_alloc wd _ _ (lt_of_block HQd.o)).trans HQd.o));have HW4:=mK ((HP4.o.block w.heap.size (by simp;have:=lt_of_block HBd.o;omega) (fun h=>h)).trans ((Below.heap_alloc wd _ _ (lt_of_block HBd.o)).trans HBd.o));have hbl4:wd.heap.size < w4.heap.size:=lt_of_block HB4.o;have hcf4:∀ i,w4.frozen? ⟨wd.heap.size,i,none⟩=false:=(fun i=>by simp[World.frozen?,HB4.o]);obtain⟨k0,k1,k2,k3,k4,k5,k6,k7⟩:=x06 HB4.o;obtain⟨d0,d1⟩:=cells2 HQ4.o;clear ho1 hu1 hcq hrq
 refine hK.out _ _ (fun _=>by with_reducible (first | exact HK6.o _ rU.drew | exact HK6.o _ HP3.o | exact HK6.o _ (HP3.o.alloc _) | exact HK6.o _ HP4.o)) (fun hHeld=>?_)
 replace hHeld:=hHeld (by decide)
 clear hK K
 (try simp only[Act.put,sA,sB,sC])
 refine oU 5 (fun K hK=>?_)
 go_simp
 refine hK.out _ _ (fun h=>absurd h (by decide)) (fun hHeld=>?_)
 clear hK K
 (try simp only[Act.put,sA,sB,sC])
 refine oU 6 (fun K hK=>?_)
 go_simp
 refine hK.out _ _ (fun h=>absurd h (by decide)) (fun hHeld=>?_)
 clear hK K
 (try simp only[Act.put,sA,sB,sC])
 refine oU 7 (fun K hK=>?_)
 go_simp
 refine hK.out _ _ (fun h=>absurd h (by decide)) (fun hHeld=>?_)
 clear hK K
 (try simp only[Act.put,sA,sB,sC])
 refine oU 8 (fun K hK=>?_)
 go_simp
 refine hK.out _ _ (fun h=>absurd h (by decide)) (fun hHeld=>?_)
 clear hK K
 (try simp only[Act.put,sA,sB,sC])
 refine x69 (by kernel_rfl) ?_ _
 go_wp2_with (go_at_call 91;refine(HR.o _ Aq cq (((HU4.o.setCell (p:=⟨wd.heap.size,6,none⟩) (fun h=>absurd h (by show ¬ wd.heap.size < w.heap.size;have h8:=HL.o;omega)) _).setCell (p:=⟨wd.heap.size,5,none⟩) (fun h=>absurd h (by show ¬ wd.heap.size < w.heap.size;have h8:=HL.o;omega)) _).setCell (p:=⟨wd.heap.size,2,none⟩) (fun h=>absurd h (by show ¬ wd.heap.size < w.heap.size;have h8:=HL.o;omega)) _) (Rp.x09 (Rp.x0f HR4.o ((((Upd.refl (fun k=>k=wd.heap.size) w4).setCell (p:=⟨wd.heap.size,6,none⟩) (fun _=>rfl) _).setCell (p:=⟨wd.heap.size,5,none⟩) (fun _=>rfl) _).setCell (p:=⟨wd.heap.size,2,none⟩) (fun _=>rfl) _) (fun k _ h e=>by omega)) (fun _ _=>trivial)) HC4.o (fun h=>absurd h (by simp))).mono ?_;rintro r w2 ⟨rfl,hu⟩;have HU2:=mK ((((HU4.o.setCell (p:=⟨wd.heap.size,6,none⟩) (fun h=>absurd h (by show ¬ wd.heap.size < w.heap.size;have h8:=HL.o;omega)) _).setCell (p:=⟨wd.heap.size,5,none⟩) (fun h=>absurd h (by show ¬ wd.heap.size < w.heap.size;have h8:=HL.o;omega)) _).setCell (p:=⟨wd.heap.size,2,none⟩) (fun h=>absurd h (by show ¬ wd.heap.size < w.heap.size;have h8:=HL.o;omega)) _).tt hu);have HB2:=mK ((hu.block w.heap.size (by have h7:=lt_of_block HW4.o;simpa[World.setCell] using h7) (fun h=>h)).trans ((Upd.block (S:=fun k=>k=wd.heap.size) ((((Upd.refl (fun k=>k=wd.heap.size) w4).setCell (p:=⟨wd.heap.size,6,none⟩) (fun _=>rfl) _).setCell (p:=⟨wd.heap.size,5,none⟩) (fun _=>rfl) _).setCell (p:=⟨wd.heap.size,2,none⟩) (fun _=>rfl) _) w.heap.size (lt_of_block HW4.o) (by have h8:=HL.o;omega)).trans HW4.o));have HR2:=mK (Rp.x01 (Rp.x0f HR4.o ((((Upd.refl (fun k=>k=wd.heap.size) w4).setCell (p:=⟨wd.heap.size,6,none⟩) (fun _=>rfl) _).setCell (p:=⟨wd.heap.size,5,none⟩) (fun _=>rfl) _).setCell (p:=⟨wd.heap.size,2,none⟩) (fun _=>rfl) _) (fun k _ h e=>by omega)) hu);clear hu;apply As.o)
 refine⟨?_⟩
 have hbl:w.heap.size < w2.heap.size:=lB HB2.o
 have hcf:=fZ HB2.o
 obtain⟨k0,k1,k2,k3,k4,k5,k6,k7⟩:=x06 HB2.o
 go_wp2
 exact bodyPost_ret (step_end (rb:=w.heap.size) rfl _ rfl (set8 (rb:=w.heap.size) HB2.o _ _ _ _ _ _ _ _)) rfl ⟨_,_,⟨rfl,x05 HU2.o (Nat.le_refl _) _ _ _ _ _ _ _ _⟩,tolds (e:=e) HT.o.1 HT.o.2 (Rp.x09 (G:=fun k=>w.heap.size<=k) (Rp.x0f HR2.o (x0b rU _ _ _ _ _ _ _ _) (fun k _ h e=>by have h8:=HL.o;omega)) (fun _ h=>by (try have h8:=HL.o);omega)) HC4.o (fun h=>absurd h (by simp)),fun h=>⟨if_neg h,if_neg h⟩⟩
theorem Lift_nn {w:World} {F:Nat->Prop} {cb:Nat} {A:Option Addr} {c b q:Nat} {l:List Tok} {p pe al ab pb pq e:Int} {y:Tok} {s':StepD} (hrow:tokR.row w F A l) (hlc:l.length<=c) (hb:l.length<=1048576 * 4)
 (hp:∀ W,Pure w W->Calls Tryz.prog 83 #[deskV cb A l.length c,.int .i64 p,.int .i64 p] W (fun r w'=>r=.returned (.int .i64 pe)/\Pure W w'))
 (ha1:∀ W,Pure w W->Calls Tryz.prog 72 #[.slice A l.length c,.int .i64 p] W (fun r w'=>r=.returned (.int .i64 al)/\Pure W w'))
 (ha2:∀ W,Pure w W->Calls Tryz.prog 72 #[.slice A l.length c,.int .i64 al] W (fun r w'=>r=.returned (.int .i64 ab)/\Pure W w'))
 (hp1:∀ W,Pure w W->Calls Tryz.prog 103 #[.slice A l.length c,.int .i64 (b:Nat)] W (fun r w'=>r=.returned (.int .i64 pb)/\Pure W w'))
 (hp2:∀ W,Pure w W->Calls Tryz.prog 103 #[.slice A l.length c,.int .i64 (q:Nat)] W (fun r w'=>r=.returned (.int .i64 pq)/\Pure W w'))
 (p0:pe=0) (hal:al=(b:Int)) (hab:ab=(q:Int)) (hbl:b < l.length) (hy:l[q]?=some y) (hpb:-1<=pb/\pb < l.length) (hpq:-1<=pq/\pq < l.length)
 (hf:(b:Int) ≠ (q:Int)+1) (hl:pb+1 ≠ pq)
 (hr:∀ V A1 c1,Pure w V->tokR.row V (fun _=>True) A1 [shutT,y]->([shutT,y]:List Tok).length<=c1->(([shutT,y]:List Tok)=[]->A1=none/\c1=0)->Calls Tryz.prog 91 #[deskV cb A l.length c,(arnd b (pb+1) b (pb+1) 1 [shutT,y]).val A1 c1] V (Told s' (toldB A1 e) (toldC c1 e) e V))
 (h2:e=0->s'.sl=[shutT,y]) (h3:e ≠ 0->s'.sl=[]) :
 Calls Tryz.prog 48 #[.pointer (some ⟨cb,0,none⟩),.slice A l.length c,.int .i64 p] w (fun r w'=>∃ B' c',Told s' B' c' e w r w'/\(tokR.row w' (fun k=>w.heap.size<=k) B' s'.sl/\s'.sl.length<=c'/\(s'.sl=[]->B'=none/\c'=0))/\(e ≠ 0->B'=none/\c'=0)):=by
 have HP:=mK hp
 have HA1:=mK ha1
 have HA2:=mK ha2
 have HP1:=mK hp1
 have HP2:=mK hp2
 have HR:=mK hr
 have HT:=mK (And.intro h2 h3)
 have hw1:IntKind.i64.wrap ((q:Int)+1)=(q:Int)+1:=IntWalk.i64_in _ (by have:=(List.getElem?_eq_some_iff.1 hy).1;omega)
 have hw2:IntKind.i64.wrap (pb+1)=pb+1:=IntWalk.i64_in _ (by omega)
 have hw3:IntKind.i64.wrap (pq+1)=pq+1:=IntWalk.i64_in _ (by omega)
 have gb:¬ ((b:Int) < 0):=by omega
 have gq:¬ ((q:Int) < 0):=by omega
 obtain⟨bA,oA,rfl,hF,hbA,c0,c1,c2,c3⟩:=x0j hrow hy
 have HBA:=mK hbA
 have HCS:=mK (And.intro c0 (And.intro c1 (And.intro c2 c3)))
 have ql:q < l.length:=(List.getElem?_eq_some_iff.1 hy).1
 subst p0 hal hab
 have jf:((b:Int) == (q:Int)+1)=false:=by simpa using hf
 have jl:(pb+1 == pq)=false:=by simpa using hl
 clear hf hl
 clear hp ha1 ha2 hp1 hp2 hr h2 h3 hrow hy hpb hpq hF hbA c0 c1 c2 c3
 unfold Told StepD.val arnd at *
 go_enter Tryz.func48,Tryz.ntmps48
 go_wp2_with (first | (go_at_call 103;with_reducible refine(HP2.o wc HUc.o).mono ?_;rintro r wd ⟨rfl,hu⟩;have HBd:=mK (kP hu HBc.o);have HQd:=mK (kP hu HQc.o);have qd:=cells2 HQd.o;have HUd:=mK (HUc.o.tt hu);clear hu;have hbd:w.heap.size+1 < wd.heap.size:=lt_of_block HQd.o;obtain⟨qd0,qd1⟩:=qd) | (go_at_call 103;with_reducible refine(HP1.o wb HUb.o).mono ?_;rintro r wc ⟨rfl,hu⟩;have HBc:=mK (kP hu HBb.o);have HQc:=mK (kP hu HQb.o);have qc:=cells2 HQc.o;have HUc:=mK (HUb.o.tt hu);clear hu) | (go_at_call 72;with_reducible refine(HA2.o wa HUa.o).mono ?_;rintro r wb ⟨rfl,hu⟩;have HBb:=mK (kP hu HBa.o);have HQb:=mK (kP hu HQa.o);have qb:=cells2 HQb.o;have HUb:=mK (HUa.o.tt hu);clear hu) | (go_at_call 72;with_reducible refine(HA1.o w1 HU1.o).mono ?_;rintro r wa ⟨rfl,hu⟩;have HBa:=mK (kP hu HB1.o);have HQa:=mK (kP hu HQ1.o);have qa:=cells2 HQa.o;have HUa:=mK (HU1.o.tt hu);clear hu) | (go_at_call 83;refine(HP.o _ (aP.alloc _)).mono ?_;rintro r w1 ⟨rfl,hu⟩;obtain⟨hb1,hb2,hu2⟩:=x0s hu;obtain⟨q0,q1⟩:=cells2 hb2;have HB1:=mK hb1;have HQ1:=mK hb2;have HU1:=mK hu2;clear hu hb1 hb2 hu2))
 have HL:=mK (show w.heap.size+1 < wd.heap.size from lt_of_block HQd.o)
 have HS0:=mK (heap_alloc_new wd (.cells #[.int .i64 1,.int .i64 (b:Nat),.int .i64 (pb+1),.int .i64 (b:Nat),.int .i64 (pb+1),.int .i64 0,.slice none 0 0,.int .i64 0] 46))
 have HU0:=mK (HUd.o.alloc (.cells #[.int .i64 1,.int .i64 (b:Nat),.int .i64 (pb+1),.int .i64 (b:Nat),.int .i64 (pb+1),.int .i64 0,.slice none 0 0,.int .i64 0] 46))
 have HK6:=mK (fun v (hu:Pure (wd.alloc (.cells #[.int .i64 1,.int .i64 (b:Nat),.int .i64 (pb+1),.int .i64 (b:Nat),.int .i64 (pb+1),.int .i64 0,.slice none 0 0,.int .i64 0] 46)) v)=>(x06 ((hu.block wd.heap.size (by simp) (fun h=>h)).trans HS0.o)).2.2.2.2.2.2.1)
 refine x6b (P:=Tryz.prog) (fun v=>v.cell? ⟨wd.heap.size,6,none⟩=some (.slice none 0 0)) 5 (by kernel_rfl) ?_ (fun hHeld=>?_)
 ·with_reducible (first | exact HK6.o _ rU.drew | exact HK6.o _ HP3.o | exact HK6.o _ (HP3.o.alloc _) | exact HK6.o _ HP4.o)
 refine zU 0 ?_
 refine zU 1 ?_
 refine oU 2 (fun K hK=>?_)
 go_simp
 (go_at_call 93;refine(x2q _).mono ?_;rintro r w3 ⟨rfl,hu3⟩;have HP3:=mK (rU.drew.tt hu3);have HL3:=mK (lt_of_block ((HP3.o.block wd.heap.size (by simp) (fun h=>h)).trans HS0.o));clear hu3)
 refine hK.out _ _ (fun _=>by with_reducible (first | exact HK6.o _ rU.drew | exact HK6.o _ HP3.o | exact HK6.o _ (HP3.o.alloc _) | exact HK6.o _ HP4.o)) (fun hHeld=>?_)
 replace hHeld:=hHeld (by decide)
 clear hK K
 (try simp only[Act.put,sA,sB,sC])
 refine oU 3 (fun K hK=>?_)
 go_simp
 refine hK.out _ _ (fun _=>by with_reducible (first | exact HK6.o _ rU.drew | exact HK6.o _ HP3.o | exact HK6.o _ (HP3.o.alloc _) | exact HK6.o _ HP4.o)) (fun hHeld=>?_)
 replace hHeld:=hHeld (by decide)
 clear hK K
 (try simp only[Act.put,sA,sB,sC])
 refine oU 4 (fun K hK=>?_)
 refine Rp.x37 tokR (W:=w3) (Rp.x0v tokR 71 w3 (fun q=>wd.heap.size < q)) shutT shutT.cs rfl (Fp:=fun _=>False) (G:=fun q=>wd.heap.size < q) (fun _ h=>h.elim) (fun _ h=>h) (fun q hq=>Nat.lt_of_lt_of_le HL3.o hq) (by rfl) _ _ 22 _ 32 (by rfl) Tryz.underlying22 x0y rfl (by decide) (by decide) (by rfl) rfl (by rfl) (by decide) ?_;intro v1 w4 ho1 hu1;have HP4:=mK (Upd.trans HP3.o hu1 (fun k _ h=>by simp[Value.ownBlock] at h));obtain⟨Aq,cq,rfl,hcq,hrq⟩:=Rp.x0c ho1;have HO4:=mK ho1;have HR4:=mK hrq;have HC4:=mK hcq;have HU4:=mK (HU0.o.tt HP4.o);have HB4:=mK ((HP4.o.block wd.heap.size (by simp) (fun h=>h)).trans HS0.o);have HQ4:=mK ((HP4.o.block (w.heap.size+1) (by simp;have:=lt_of_block HQd.o;omega) (fun h=>h)).trans ((Below.heap_alloc wd _ _ (lt_of_block HQd.o)).trans HQd.o));have HW4:=mK ((HP4.o.block w.heap.size (by simp;have:=lt_of_block HBd.o;omega) (fun h=>h)).trans ((Below.heap_alloc wd _ _ (lt_of_block HBd.o)).trans HBd.o));have hbl4:wd.heap.size < w4.heap.size:=lt_of_block HB4.o;have hcf4:∀ i,w4.frozen? ⟨wd.heap.size,i,none⟩=false:=(fun i=>by simp[World.frozen?,HB4.o]);obtain⟨k0,k1,k2,k3,k4,k5,k6,k7⟩:=x06 HB4.o;obtain⟨d0,d1⟩:=cells2 HQ4.o;clear ho1 hu1 hcq hrq
 refine hK.out _ _ (fun _=>by with_reducible (first | exact HK6.o _ rU.drew | exact HK6.o _ HP3.o | exact HK6.o _ (HP3.o.alloc _) | exact HK6.o _ HP4.o)) (fun hHeld=>?_)
 replace hHeld:=hHeld (by decide)
 clear hK K
 (try simp only[Act.put,sA,sB,sC])
 refine oU 5 (fun K hK=>?_)
 go_simp
 refine hK.out _ _ (fun h=>absurd h (by decide)) (fun hHeld=>?_)
 clear hK K
 (try simp only[Act.put,sA,sB,sC])
 refine oU 6 (fun K hK=>?_)
 go_simp
 refine hK.out _ _ (fun h=>absurd h (by decide)) (fun hHeld=>?_)
 clear hK K
 (try simp only[Act.put,sA,sB,sC])
 refine oU 7 (fun K hK=>?_)
 go_simp
 refine hK.out _ _ (fun h=>absurd h (by decide)) (fun hHeld=>?_)
 clear hK K
 (try simp only[Act.put,sA,sB,sC])
 refine oU 8 (fun K hK=>?_)
 go_simp
 refine hK.out _ _ (fun h=>absurd h (by decide)) (fun hHeld=>?_)
 clear hK K
 (try simp only[Act.put,sA,sB,sC])
 refine x69 (by kernel_rfl) ?_ _
 go_wp2
 have hup:=((Upd.refl (fun k=>k=wd.heap.size) w4).setCell (p:=⟨wd.heap.size,6,none⟩) (fun _=>rfl) (.slice Aq ([shutT]:List Tok).length cq)).setCell (p:=⟨wd.heap.size,5,none⟩) (fun _=>rfl) (.int .i64 1)
 have HB9:=mK (show ((w4.setCell ⟨wd.heap.size,6,none⟩ (.slice Aq ([shutT]:List Tok).length cq)).setCell ⟨wd.heap.size,5,none⟩ (.int .i64 1)).heap[wd.heap.size]?=some (.cells #[.int .i64 1,.int .i64 (b:Nat),.int .i64 (pb+1),.int .i64 (b:Nat),.int .i64 (pb+1),.int .i64 1,.slice Aq ([shutT]:List Tok).length cq,.int .i64 0] 46 (0,0)) by simp[World.setCell,Array.getElem?_modify,HB4.o])
 have HU9:=mK (show Pure w ((w4.setCell ⟨wd.heap.size,6,none⟩ (.slice Aq ([shutT]:List Tok).length cq)).setCell ⟨wd.heap.size,5,none⟩ (.int .i64 1)) from(HU4.o.setCell (p:=⟨wd.heap.size,6,none⟩) (fun h=>absurd h (by show ¬ wd.heap.size < w.heap.size;have h8:=HL.o;omega)) _).setCell (p:=⟨wd.heap.size,5,none⟩) (fun h=>absurd h (by show ¬ wd.heap.size < w.heap.size;have h8:=HL.o;omega)) _)
 have HQ9:=mK ((hup.block (w.heap.size+1) (lt_of_block HQ4.o) (by have h8:=HL.o;omega)).trans HQ4.o)
 have HW9:=mK ((hup.block w.heap.size (lt_of_block HW4.o) (by have h8:=HL.o;omega)).trans HW4.o)
 have HO9:=mK (Rp.x0w HO4.o hup (fun k _ h e=>by omega))
 have HL9:=HL
 clear hup
 have hgl:(Value.slice Aq ([shutT]:List Tok).length cq)=.slice Aq 1 cq:=rfl
 rw[hgl] at *
 generalize ((w4.setCell ⟨wd.heap.size,6,none⟩ (.slice Aq 1 cq)).setCell ⟨wd.heap.size,5,none⟩ (.int .i64 1))=v9 at *
 generalize wd.heap.size=sb at *
 have HK6:=mK (fun v (hb:v.heap[sb]?=v9.heap[sb]?) (hu:Pure w v)=>(by
  obtain⟨e0,e1,e2,e3⟩:=HCS.o
  have hh:∀ k,v.cell? ⟨bA,k,none⟩=w.cell? ⟨bA,k,none⟩:=fun k=>hu.cell HBA.o (fun h=>h)
  exact⟨(x06 (hb.trans HB9.o)).2.2.2.2.2.2.1,(hh _).trans e0,(hh _).trans e1,(hh _).trans e2,(hh _).trans e3⟩:(fun v=>v.cell? ⟨sb,6,none⟩=some (.slice Aq 1 cq)/\v.cell? ⟨bA,oA+q * 4,none⟩=some (.int .i64 y.k)/\v.cell? ⟨bA,oA+q * 4+1,none⟩=some (.int .i64 y.t)/\v.cell? ⟨bA,oA+q * 4+2,none⟩=some (.int .i64 y.n)/\v.cell? ⟨bA,oA+q * 4+3,none⟩=some (.int .i64 y.m)) v))
 have HZ6:=mK (show v9.drew.heap[sb]?=v9.heap[sb]? from rfl)
 have HZ8:=mK (show ∀ o,(v9.alloc o).drew.heap[sb]?=v9.heap[sb]? from fun o=>Below.heap_alloc v9 o sb (lt_of_block HB9.o))
 have HZ7:=mK (show ∀ o,(v9.drew.alloc o).heap[sb]?=v9.heap[sb]? from fun o=>Below.heap_alloc v9.drew o sb (lt_of_block HB9.o))
 have hcf9:∀ i,v9.frozen? ⟨sb,i,none⟩=false:=(fun i=>by simp[World.frozen?,HB9.o])
 refine x6b (P:=Tryz.prog) (fun v=>v.cell? ⟨sb,6,none⟩=some (.slice Aq 1 cq)/\v.cell? ⟨bA,oA+q * 4,none⟩=some (.int .i64 y.k)/\v.cell? ⟨bA,oA+q * 4+1,none⟩=some (.int .i64 y.t)/\v.cell? ⟨bA,oA+q * 4+2,none⟩=some (.int .i64 y.n)/\v.cell? ⟨bA,oA+q * 4+3,none⟩=some (.int .i64 y.m)) 8 (by kernel_rfl) ?_ (fun hHeld=>?_)
 ·with_reducible (first | exact HK6.o _ (HZ6.o) HU9.o.drew | exact HK6.o _ (HZ7.o _) (HU9.o.drew.alloc _) | exact HK6.o _ (HZ8.o _) (HU9.o.alloc _).drew | exact HK6.o _ HZ5.o HU5.o)
 refine zU 0 ?_
 refine zU 1 ?_
 refine zU 2 ?_
 refine zU 3 ?_
 refine zU 4 ?_
 refine zU 5 ?_
 (try simp only[Act.put,sA,sB,sC])
 refine oU 6 (fun K hK=>?_)
 go_simp
 refine hK.out _ _ (fun _=>by with_reducible (first | exact HK6.o _ (HZ6.o) HU9.o.drew | exact HK6.o _ (HZ7.o _) (HU9.o.drew.alloc _) | exact HK6.o _ (HZ8.o _) (HU9.o.alloc _).drew | exact HK6.o _ HZ5.o HU5.o)) (fun hHeld=>?_)
 replace hHeld:=hHeld (by decide)
 clear hK K
 (try simp only[Act.put,sA,sB,sC])
 refine oU 7 (fun K hK=>?_)
 refine Rp.x37 tokR (W:=v9.drew) (Rp.own_drew HO9.o) y y.cs rfl (Fp:=fun _=>False) (G:=fun q=>sb < q) (fun _ h=>h.elim) (fun _ h=>h) (fun q hq=>Nat.lt_of_lt_of_le (lt_of_block HB9.o) hq) (by rfl) _ _ 22 _ 32 (by rfl) Tryz.underlying22 x0y rfl (by decide) (by decide) (by rfl) rfl (by rfl) (by decide) ?_;intro v1 w5 ho1 hu1;have HU5:=mK (Upd.trans HU9.o.drew hu1 (fun k hk h=>by have h7:=(Rp.x03 HO9.o k h).1;have h8:=HL9.o;omega));have HZ5:=mK (show w5.heap[sb]?=v9.heap[sb]? from hu1.block sb (lt_of_block HB9.o) (fun h=>Nat.lt_irrefl _ (Rp.x03 HO9.o _ h).1));have HQ5:=mK ((hu1.block (w.heap.size+1) (lt_of_block HQ9.o) (fun h=>by have h7:=(Rp.x03 HO9.o _ h).1;have h8:=HL9.o;omega)).trans HQ9.o);have HW5:=mK ((hu1.block w.heap.size (lt_of_block HW9.o) (fun h=>by have h7:=(Rp.x03 HO9.o _ h).1;have h8:=HL9.o;omega)).trans HW9.o);obtain⟨Ar,cr,rfl,hcq,hrq⟩:=Rp.x0c ho1;have HR5:=mK hrq;have HC5:=mK hcq;have HB5:=mK (HZ5.o.trans HB9.o);have hbl5:sb < w5.heap.size:=lt_of_block HB5.o;have hcf5:∀ i,w5.frozen? ⟨sb,i,none⟩=false:=(fun i=>by simp[World.frozen?,HB5.o]);obtain⟨k0,k1,k2,k3,k4,k5,k6,k7⟩:=x06 HB5.o;obtain⟨d0,d1⟩:=cells2 HQ5.o;clear ho1 hu1 hcq hrq
 refine hK.out _ _ (fun _=>by with_reducible (first | exact HK6.o _ (HZ6.o) HU9.o.drew | exact HK6.o _ (HZ7.o _) (HU9.o.drew.alloc _) | exact HK6.o _ (HZ8.o _) (HU9.o.alloc _).drew | exact HK6.o _ HZ5.o HU5.o)) (fun hHeld=>?_)
 replace hHeld:=hHeld (by decide)
 clear hK K
 (try simp only[Act.put,sA,sB,sC])
 refine oU 8 (fun K hK=>?_)
 go_simp
 refine hK.out _ _ (fun h=>absurd h (by decide)) (fun hHeld=>?_)
 clear hK K
 (try simp only[Act.put,sA,sB,sC])
 refine oU 9 (fun K hK=>?_)
 go_simp
 refine hK.out _ _ (fun h=>absurd h (by decide)) (fun hHeld=>?_)
 clear hK K
 (try simp only[Act.put,sA,sB,sC])
 refine x69 (by kernel_rfl) ?_ _
 go_wp2_with (go_at_call 91;refine(HR.o _ Ar cr (HU5.o.setCell (p:=⟨sb,6,none⟩) (fun h=>absurd h (by show ¬ sb < w.heap.size;have h8:=HL.o;omega)) _) (Rp.x09 (Rp.x0f HR5.o ((Upd.refl (fun k=>k=sb) w5).setCell (p:=⟨sb,6,none⟩) (fun _=>rfl) _) (fun k _ h e=>by omega)) (fun _ _=>trivial)) HC5.o (fun h=>absurd h (by simp))).mono ?_;rintro r w2 ⟨rfl,hu⟩;have HU2:=mK ((HU5.o.setCell (p:=⟨sb,6,none⟩) (fun h=>absurd h (by show ¬ sb < w.heap.size;have h8:=HL.o;omega)) _).tt hu);have HB2:=mK ((hu.block w.heap.size (by have h7:=lt_of_block HW5.o;simpa[World.setCell] using h7) (fun h=>h)).trans ((Upd.block (S:=fun k=>k=sb) ((Upd.refl (fun k=>k=sb) w5).setCell (p:=⟨sb,6,none⟩) (fun _=>rfl) _) w.heap.size (lt_of_block HW5.o) (by have h8:=HL.o;omega)).trans HW5.o));have HR2:=mK (Rp.x01 (Rp.x0f HR5.o ((Upd.refl (fun k=>k=sb) w5).setCell (p:=⟨sb,6,none⟩) (fun _=>rfl) _) (fun k _ h e=>by omega)) hu);clear hu;apply As.o)
 refine⟨?_⟩
 have hbl:w.heap.size < w2.heap.size:=lB HB2.o
 have hcf:=fZ HB2.o
 obtain⟨k0,k1,k2,k3,k4,k5,k6,k7⟩:=x06 HB2.o
 go_wp2
 exact bodyPost_ret (step_end (rb:=w.heap.size) rfl _ rfl (set8 (rb:=w.heap.size) HB2.o _ _ _ _ _ _ _ _)) rfl ⟨_,_,⟨rfl,x05 HU2.o (Nat.le_refl _) _ _ _ _ _ _ _ _⟩,tolds (e:=e) HT.o.1 HT.o.2 (Rp.x09 (G:=fun k=>w.heap.size<=k) (Rp.x0f HR2.o (x0b rU _ _ _ _ _ _ _ _) (fun k _ h e=>by have h8:=HL.o;omega)) (fun _ h=>by (try have h8:=HL.o);omega)) HC5.o (fun h=>absurd h (by simp)),fun h=>⟨if_neg h,if_neg h⟩⟩
def x41 (l:List Tok) (p:Int):StepD:=liftS l (x04 l p).toNat (x04 l (x04 l p)).toNat ((l[(x04 l (x04 l p)).toNat]?).getD shutT)
def x1l (l:List Tok) (p:Int):Int:=if x0e l p p ≠ 0 then x0e l p p else if x04 l p < 0\/x04 l (x04 l p) < 0 then 6 else x08 l (x41 l p)
/-- What is lifted: the block, what is around it. -/
theorem lift_at {l:List Tok} {p:Int} (h:0<=x04 l p) (h2:0<=x04 l (x04 l p)):∃ (b q:Nat) (z y:Tok),x04 l p=(b:Int)/\x04 l (b:Int)=(q:Int)/\l[b]?=some z/\z.k=1/\l[q]?=some y/\y.k=1/\(b:Int) < p/\x41 l p=liftS l b q y:=by
 obtain⟨b,z,e1,e2,e3,e4⟩:=x20 (l:=l) (p:=p) (by omega)
 rw[e1] at h2
 obtain⟨q,y,f1,f2,f3,f4⟩:=x20 (l:=l) (p:=(b:Int)) (by omega)
 refine⟨b,q,z,y,e1,f1,e2,e3,f2,f3,e4,?_⟩
 unfold x41
 rw[e1,f1]
 simp only[Int.toNat_natCast]
 rw[f2]
 rfl
theorem Lift_new {w:World} {F:Nat->Prop} {cb:Nat} {A:Option Addr} {c:Nat} {l:List Tok} {p:Int} (h:SchR w cb x02 x07) (hr:tokR.row w F A l) (hlc:l.length<=c) (hb:l.length<=1048576 * 4) :
 Calls Tryz.prog 48 #[.pointer (some ⟨cb,0,none⟩),.slice A l.length c,.int .i64 p] w (fun r w'=>∃ B' c',Told (toldS (x41 l p) (x1l l p)) B' c' (x1l l p) w r w'/\(tokR.row w' (fun k=>w.heap.size<=k) B' (toldS (x41 l p) (x1l l p)).sl/\(toldS (x41 l p) (x1l l p)).sl.length<=c'/\((toldS (x41 l p) (x1l l p)).sl=[]->B'=none/\c'=0))/\(x1l l p ≠ 0->B'=none/\c'=0)):=by
 have hpl:=fun W (hW:Pure w W)=>x34 (f:=p) (t:=p) (c:=c) (h.pure hW) (Rp.x01 hr hW) hb
 have har:=fun (at':Int) W (hW:Pure w W)=>x2g (at':=at') (c:=c) (Rp.x01 hr hW) hb hlc
 by_cases h0:x0e l p p=0
 ·by_cases h4:x04 l p < 0\/x04 l (x04 l p) < 0
  ·have he:x1l l p=6:=by unfold x1l;rw[if_neg (by omega),if_pos h4]
   rw[he]
   exact Lift_no (b:=0) (q:=0) (pb:=0) (pq:=0) (y:=shutT) hr hlc hb hpl (har _) (har _) (by by_cases h5:x04 l p < 0;exact .inr (.inl ⟨h0,h5,rfl⟩);exact .inr (.inr ⟨h0,by omega,by omega,rfl⟩)) (x0g (by decide))
  ·obtain⟨b,q,z,y,e1,e2,e3,e4,e5,e6,e7,e8⟩:=lift_at (l:=l) (p:=p) (by omega) (by omega)
   have he:x1l l p=x08 l (liftS l b q y):=by unfold x1l;rw[if_neg (by omega),if_neg h4,e8]
   obtain⟨hc,hp0,_,hp1⟩:=x16.1 h0
   have hl:=house_len_le hc
   have hbl:=(List.getElem?_eq_some_iff.1 e3).1
   rw[he,e8]
   have hP1:=fun W (hW:Pure w W)=>x5s (c:=c) (Rp.x01 hr hW) hb hlc e3 e4
   have hP2:=fun W (hW:Pure w W)=>x5s (c:=c) (Rp.x01 hr hW) hb hlc e5 e6
   have hA2:=har (x04 l p)
   rw[e1,e2] at hA2
   have hA1:=har p
   rw[e1] at hA1
   have hT:∀ V A1 c1,Pure w V->tokR.row V (fun _=>True) A1 (liftS l b q y).sl->(liftS l b q y).sl.length<=c1->((liftS l b q y).sl=[]->A1=none/\c1=0)->Calls Tryz.prog 91 #[deskV cb A l.length c,(liftS l b q y).val A1 c1] V (Told (toldS (liftS l b q y) (x08 l (liftS l b q y))) (toldB A1 (x08 l (liftS l b q y))) (toldC c1 (x08 l (liftS l b q y))) (x08 l (liftS l b q y)) V):=fun V A1 c1 hV hrow hc1 hz=>
    tell_doc (s:=liftS l b q y) (h.pure hV) (Rp.x01 hr hV) hb hrow (by
     show List.length (_ ++ _)<=_
     rw[List.length_append]
     have:∀ (P:Prop) [Decidable P] (t:Tok),(if P then [] else [t]:List Tok).length<=1:=fun P _ t=>by split <;> simp
     have h7:=this ((b:Int)=q+1) shutT
     have h8:=this (partL l b+1=partL l q) y
     omega) (fun q0 q1 q2=>doc_arnd (x3b hc) (Rp.x01 hr hV) hlc hrow hc1 hz q0 q1 q2)
   have h2:x08 l (liftS l b q y)=0->(toldS (liftS l b q y) (x08 l (liftS l b q y))).sl=(liftS l b q y).sl:=fun h9=>by rw[h9];rfl
   have h3:x08 l (liftS l b q y) ≠ 0->(toldS (liftS l b q y) (x08 l (liftS l b q y))).sl=[]:=fun h9=>by rw[x0g h9];rfl
   have hb1:=x3i (l:=l) (i:=b) hl
   have hb2:=x3i (l:=l) (i:=q) hl
   by_cases hf:(b:Int)=(q:Int)+1
   ·by_cases hz:partL l b+1=partL l q
    ·have hs:liftS l b q y=arnd q (partL l q+1) b (partL l b+1) 0 []:=by unfold liftS;rw[if_pos hf,if_pos hf,if_pos hf,if_pos hz,if_pos hz];rfl
     rw[hs] at hT h2 h3 ⊢
     exact Lift_ff hr hlc hb hpl hA1 hA2 hP1 hP2 h0 rfl rfl hbl e5 hb1 hb2 hf hz hT h2 h3
    ·have hs:liftS l b q y=arnd q (partL l b+1) b (partL l b+1) 0 [y]:=by unfold liftS;rw[if_pos hf,if_pos hf,if_pos hf,if_neg hz,if_neg hz];rfl
     rw[hs] at hT h2 h3 ⊢
     exact Lift_fn hr hlc hb hpl hA1 hA2 hP1 hP2 h0 rfl rfl hbl e5 hb1 hb2 hf hz hT h2 h3
   ·by_cases hz:partL l b+1=partL l q
    ·have hs:liftS l b q y=arnd b (partL l q+1) b (partL l b+1) 1 [shutT]:=by unfold liftS;rw[if_neg hf,if_neg hf,if_neg hf,if_pos hz,if_pos hz];rfl
     rw[hs] at hT h2 h3 ⊢
     exact Lift_nf hr hlc hb hpl hA1 hA2 hP1 hP2 h0 rfl rfl hbl e5 hb1 hb2 hf hz hT h2 h3
    ·have hs:liftS l b q y=arnd b (partL l b+1) b (partL l b+1) 1 [shutT,y]:=by unfold liftS;rw[if_neg hf,if_neg hf,if_neg hf,if_neg hz,if_neg hz];rfl
     rw[hs] at hT h2 h3 ⊢
     exact Lift_nn hr hlc hb hpl hA1 hA2 hP1 hP2 h0 rfl rfl hbl e5 hb1 hb2 hf hz hT h2 h3
 ·have he:x1l l p=x0e l p p:=by unfold x1l;rw[if_pos h0]
  rw[he]
  exact Lift_no (b:=0) (q:=0) (pb:=0) (pq:=0) (y:=shutT) hr hlc hb hpl (har _) (har _) (.inl ⟨h0,rfl⟩) (x0g h0)
theorem Lift_calls {w:World} {F:Nat->Prop} {cb:Nat} {A:Option Addr} {c:Nat} {l:List Tok} {p:Int} (h:SchR w cb x02 x07) (hr:tokR.row w F A l) (hlc:l.length<=c) (hb:l.length<=1048576 * 4) :
 Calls Tryz.prog 48 #[.pointer (some ⟨cb,0,none⟩),.slice A l.length c,.int .i64 p] w (fun r w'=>∃ B' c',Told (toldS (x41 l p) (x1l l p)) B' c' (x1l l p) w r w'/\(tokR.row w' (fun _=>True) B' (toldS (x41 l p) (x1l l p)).sl/\(toldS (x41 l p) (x1l l p)).sl.length<=c'/\((toldS (x41 l p) (x1l l p)).sl=[]->B'=none/\c'=0))/\(x1l l p ≠ 0->B'=none/\c'=0)):=
 (Lift_new h hr hlc hb).mono fun r w' ⟨B',c',h1,⟨h2,h3,h5⟩,h4⟩=>⟨B',c',h1,⟨Rp.x09 h2 (fun _ _=>trivial),h3,h5⟩,h4⟩
end Go.Proofs.YtofjodppljnlaaaGreatDoor
