/- My own texts, packed: SchR6, Spc6, NewD, Reg29, New6, House6. -/
import Derived.Test.YtofjodppljnlaaaGreatDoorP20
set_option maxRecDepth 100000
set_option maxHeartbeats 4000000
set_option linter.unusedVariables false
set_option linter.unusedSimpArgs false
variable {w w1 W:Go.World} {F G:Nat → Prop} {A B:Option Go.Addr} {cb c:Nat}
namespace Go.Proofs.YtofjodppljnlaaaGreatDoor
open Go.RowKit
/-- The reference's schema. -/
def Sch6 (w:World) (cb:Nat) (l:List Spec) (e0:Ex) (es:List Ex) (gs:List Grp):Prop:=∃ AW cW AL cL AE cE AG cG,w.heap[cb]?=some (.cells #[.int .i64 e0.k,.string e0.name,.slice AW e0.l.length cW,.slice AL l.length cL,.slice AE es.length cE,.slice AG gs.length cG] 105 (0,0)) /\
 exR.row w AnyB AW e0.l/\specR.row w AnyB AL l/\exR.row w AnyB AE es/\grpR.row w AnyB AG gs
theorem Sch6.pure {l:List Spec} {e0:Ex} {es:List Ex} {gs:List Grp} (h:Sch6 w cb l e0 es gs) (hu:Pure w w1):Sch6 w1 cb l e0 es gs:=by
 obtain⟨AW,cW,AL,cL,AE,cE,AG,cG,h0,h1,h2,h3,h4⟩:=h
 exact⟨AW,cW,AL,cL,AE,cE,AG,cG,(hu.block cb (lB h0) (fun h=>h)).trans h0,Rp.x01 h1 hu,Rp.x01 h2 hu,Rp.x01 h3 hu,Rp.x01 h4 hu⟩
/-- The house's. -/
def x43:Ex:=exS 5 x2h
def houseE7:List Ex:=houseEs.drop 1
abbrev H6 (w:World) (cb:Nat):Prop:=Sch6 w cb x1c x43 houseE7 x07
theorem h6_at (k:Nat) (hk:k < 7):∃ x e,x1c[k]?=some x/\houseE7[k]?=some e/\x02[k+1]?=some (x,e):=by
 have h:k=0\/k=1\/k=2\/k=3\/k=4\/k=5\/k=6:=by omega
 rcases h with rfl | rfl | rfl | rfl | rfl | rfl | rfl <;> exact⟨_,_,rfl,rfl,rfl⟩
theorem h6_len:x1c.length=7:=rfl
theorem h6_lenE:houseE7.length=7:=rfl
theorem ex_at6 {xs:List Ex} (h:exR.row w F A xs) {j:Nat} {e:Ex} (hx:xs[j]?=some e) :
 ∃ b o A1 c1,A=some ⟨b,o,none⟩/\F b/\b < w.heap.size/\w.cell? ⟨b,o+j * 3,none⟩=some (.int .i64 e.k)/\w.cell? ⟨b,o+j * 3+1,none⟩=some (.string e.name)/\w.cell? ⟨b,o+j * 3+2,none⟩=some (.slice A1 e.l.length c1)/\e.l.length<=c1/\exR.row w F A1 e.l:=by
 obtain⟨b,o,cs,hA,hF,hb,hr,hc⟩:=Rp.x42 h hx
 obtain⟨A1,n1,rfl,hle,hrow⟩:=ExRep.parts hr
 exact⟨b,o,A1,n1,hA,hF,hb,hc 0 _ rfl,hc 1 _ rfl,hc 2 _ rfl,hle,hrow⟩
theorem Sch6.cells {l:List Spec} {e0:Ex} {es:List Ex} {gs:List Grp} (h:Sch6 w cb l e0 es gs):∃ AW cW AL cL AE cE AG cG,cb < w.heap.size/\w.cell? ⟨cb,0,none⟩=some (.int .i64 e0.k)/\w.cell? ⟨cb,1,none⟩=some (.string e0.name)/\w.cell? ⟨cb,2,none⟩=some (.slice AW e0.l.length cW)/\w.cell? ⟨cb,3,none⟩=some (.slice AL l.length cL)/\w.cell? ⟨cb,4,none⟩=some (.slice AE es.length cE)/\w.cell? ⟨cb,5,none⟩=some (.slice AG gs.length cG) /\
 exR.row w AnyB AW e0.l/\specR.row w AnyB AL l/\exR.row w AnyB AE es/\grpR.row w AnyB AG gs:=by
 obtain⟨AW,cW,AL,cL,AE,cE,AG,cG,h0,h1,h2,h3,h4⟩:=h
 refine⟨AW,cW,AL,cL,AE,cE,AG,cG,(lB h0),?_,?_,?_,?_,?_,?_,h1,h2,h3,h4⟩
 all_goals (unfold World.cell?;simp only[h0];rfl)
theorem rule6_in {l:List Tok} (h:H6 w cb) (hr:tokR.row w F A l) {i k:Nat} {y:Tok} (hy:l[i]?=some y) (hk:k < 7) (hyt:y.t=((k+1:Nat):Int)) {e:Ex} (he:houseE7[k]?=some e):Calls Tryz.prog 78 #[.pointer (some ⟨cb,0,none⟩),.slice A l.length c,.int .i64 i] w fun r w'=>(∃ A1 c1,r=.returned (e.val A1 c1)/\exR.row w' AnyB A1 e.l)/\Pure w w':=by
 obtain⟨AW,cW,AL,cL,AE,cE,AG,cG,hcb,c0,c1,c2,c3,c4,c5,hw,hl,hE,hg⟩:=h.cells
 obtain⟨be,oe,A1,n1,rfl,_,hbe,e0,e1,e2,hle,hrow⟩:=ex_at6 hE he
 obtain⟨bt,ot,rfl,_,hbt,q0,q1,q2,q3⟩:=x0j hr hy
 rw[hyt] at q1
 rw[h6_lenE] at c4
 have hil:i < l.length:=(List.getElem?_eq_some_iff.1 hy).1
 have HR:=mK hrow
 have t1:decide ((i:Int) < 0)=false:=by simp
 have t4:IntKind.i64.wrap (((k+1:Nat):Int) - 1)=(k:Int):=by rw[show ((k+1:Nat):Int) - 1=(k:Int) by omega];exact IntWalk.i64_in _ (by omega)
 generalize ((k+1:Nat):Int)=kk at *
 have hk7:(k:Int) < 7:=by omega
 obtain⟨k0,nm,l0⟩:=e
 have HS:As (∀ v,Pure w v->v.cell? ⟨cb,4,none⟩=some (.slice (some ⟨be,oe,none⟩) 7 cE)/\v.cell? ⟨bt,ot+i * 4+1,none⟩=some (.int .i64 kk)/\v.cell? ⟨be,oe+k * 3,none⟩=some (.int .i64 k0)/\v.cell? ⟨be,oe+k * 3+1,none⟩=some (.string nm)/\v.cell? ⟨be,oe+k * 3+2,none⟩=some (.slice A1 l0.length n1)):=⟨fun v hu=>⟨(hu.cell hcb (fun h=>h)).trans c4,(hu.cell hbt (fun h=>h)).trans q1,(hu.cell hbe (fun h=>h)).trans e0,(hu.cell hbe (fun h=>h)).trans e1,(hu.cell hbe (fun h=>h)).trans e2⟩⟩
 unfold Ex.val at *
 clear hw hl hE hg h hr hy hyt he hrow hle c0 c1 c2 c3 c4 c5 q0 q1 q2 q3 e0 e1 e2
 go_enter Tryz.func78,Tryz.ntmps78
 go_wp2
 refine x0m (P:=Tryz.prog) (fun v=>v.cell? ⟨cb,4,none⟩=some (.slice (some ⟨be,oe,none⟩) 7 cE)/\v.cell? ⟨bt,ot+i * 4+1,none⟩=some (.int .i64 kk)/\v.cell? ⟨be,oe+k * 3,none⟩=some (.int .i64 k0)/\v.cell? ⟨be,oe+k * 3+1,none⟩=some (.string nm)/\v.cell? ⟨be,oe+k * 3+2,none⟩=some (.slice A1 l0.length n1)) 12 (by kernel_rfl) ?_ (fun hHeld=>?_)
 ·exact HS.o _ aU.drew
 refine zT 0 ?_
 refine zT 1 ?_
 refine zT 2 ?_
 refine zT 3 ?_
 (try simp only[Act.put,sA,sB,sC])
 refine zT 4 ?_
 refine zT 5 ?_
 refine zT 6 ?_
 refine zT 7 ?_
 (try simp only[Act.put,sA,sB,sC])
 refine zT 8 ?_
 refine zT 9 ?_
 refine zT 10 ?_
 refine zT 11 ?_
 (try simp only[Act.put,sA,sB,sC])
 refine oT 12 (fun K hK=>?_)
 go_simp
 refine hK.out _ _ (fun h=>absurd rfl h) (fun hHeld=>?_)
 clear hK K
 (try simp only[Act.put,sA,sB,sC])
 refine x0l (by kernel_rfl) ?_ _
 go_wp2
 have hu:Pure w (w.alloc (.cells #[.int .i64 k0,.string nm,.slice A1 l0.length n1] 92)).drew:=aU.drew
 exact bodyPost_ret (v:=.agg #[.int .i64 k0,.string nm,.slice A1 l0.length n1]) (by simp[results,Tryz.results78,go_sem]) rfl ⟨⟨A1,n1,rfl,Rp.x01 HR.o hu⟩,hu⟩
/-- The schema while its expressions are parsed. -/
structure NewS (W:World) (cb tb:Nat) (c0v c1v c2v c3v c5v Ev:Value) (es:List Ex) (wx:World):Prop where
 up:Upd (fun q=>q=cb\/q=tb) W wx
 hc:wx.heap[cb]?=some (.cells #[c0v,c1v,c2v,c3v,Ev,c5v] 105 (0,0))
 ht:∃ y0 y1 y2,wx.heap[tb]?=some (.cells #[y0,y1,y2] 92 (0,0))
 own:exR.own 92 wx (fun q=>W.heap.size<=q) Ev es
theorem NewS.pure {tb:Nat} {c0v c1v c2v c3v c5v Ev:Value} {es:List Ex} {wx w2:World} (h:NewS W cb tb c0v c1v c2v c3v c5v Ev es wx) (hu:Pure wx w2):NewS W cb tb c0v c1v c2v c3v c5v Ev es w2:=by
 obtain⟨y0,y1,y2,ht⟩:=h.ht
 exact⟨h.up.trans hu (fun _ _ h=>h.elim),(hu.block _ (lB h.hc) (fun h=>h)).trans h.hc,⟨y0,y1,y2,(hu.block _ (lB ht) (fun h=>h)).trans ht⟩,Rp.x0w h.own hu (fun _ _ _ h=>h)⟩
theorem cells6 {b:Nat} {x0 x1 x2 x3 x4 x5:Value} {t:TypeId} (h:w.heap[b]?=some (.cells #[x0,x1,x2,x3,x4,x5] t (0,0))) :
 (w.cell? ⟨b,0,none⟩=some x0/\w.cell? ⟨b,1,none⟩=some x1/\w.cell? ⟨b,2,none⟩=some x2/\w.cell? ⟨b,3,none⟩=some x3/\w.cell? ⟨b,4,none⟩=some x4/\w.cell? ⟨b,5,none⟩=some x5)/\(∀ i,w.frozen? ⟨b,i,none⟩=false)/\b < w.heap.size:=by
 refine⟨⟨?_,?_,?_,?_,?_,?_⟩,fun i=>by simp[World.frozen?,h],(lB h)⟩
 all_goals (unfold World.cell?;simp only[h];rfl)
theorem reg29_end {V w7:World} {tb b7 c7:Nat} {c0v c1v c2v c3v c5v:Value} {AE:Option Addr} {cE:Nat} {ek:List Ex} {k1:Int} {nm1:ByteArray} {l1:List Ex} {A5:Option Addr} {c5 s0:Nat} {z:Ex}
 (h:NewS V cb tb c0v c1v c2v c3v c5v (.slice AE ek.length cE) ek W) (ht:W.heap[tb]?=some (.cells #[.int .i64 k1,.string nm1,.slice A5 l1.length c5] 92 (0,0))) (hle:l1.length<=c5) (hr:exR.row W (fun q=>s0<=q) A5 l1)
 (hs0:∀ q,(Value.slice AE ek.length cE).ownBlock=some q->q < s0) (hVs:V.heap.size<=s0) (hcb:cb < V.heap.size) (htb:tb < V.heap.size) (hct:cb ≠ tb)
 (ho7:exR.own 92 w7 (fun k=>(V.heap.size<=k/\some k ≠ (Value.slice AE ek.length cE).ownBlock)\/(False/\k < W.drew.heap.size)\/(Value.slice (some ⟨b7,0,none⟩) (ek.length+1) c7).ownBlock=some k) (.slice (some ⟨b7,0,none⟩) (ek.length+1) c7) (ek ++ [z]))
 (hu7:Upd (fun k=>(Value.slice AE ek.length cE).ownBlock=some k) W.drew w7)
 (hat7:(Value.slice (some ⟨b7,0,none⟩) (ek.length+1) c7).ownBlock=(Value.slice AE ek.length cE).ownBlock\/∃ b,(Value.slice (some ⟨b7,0,none⟩) (ek.length+1) c7).ownBlock=some b/\W.drew.heap.size < b) :
 NewS V cb tb c0v c1v c2v c3v c5v (.slice (some ⟨b7,0,none⟩) (ek.length+1) c7) (ek ++ [.mk k1 nm1 l1]) ((((w7.setCell ⟨b7,ek.length * 3,none⟩ (.int .i64 k1)).setCell ⟨b7,ek.length * 3+1,none⟩ (.string nm1)).setCell ⟨b7,ek.length * 3+2,none⟩ (.slice A5 l1.length c5)).setCell ⟨cb,4,none⟩ (.slice (some ⟨b7,0,none⟩) (ek.length+1) c7)) /\
 NewS V cb tb c0v c1v c2v c3v c5v (.slice (some ⟨b7,0,none⟩) (ek.length+1) c7) (ek ++ [.mk k1 nm1 l1]) ((((w7.setCell ⟨cb,4,none⟩ (.slice (some ⟨b7,0,none⟩) (ek.length+1) c7)).setCell ⟨b7,ek.length * 3,none⟩ (.int .i64 k1)).setCell ⟨b7,ek.length * 3+1,none⟩ (.string nm1)).setCell ⟨b7,ek.length * 3+2,none⟩ (.slice A5 l1.length c5)):=by
 have hsz:=h.up.size
 have hE:∀ q,(Value.slice AE ek.length cE).ownBlock=some q->V.heap.size<=q:=fun q hq=>(Rp.x03 h.own q hq).1
 have hown7:(Value.slice (some ⟨b7,0,none⟩) (ek.length+1) c7).ownBlock=some b7:=rfl
 have hdz:W.drew.heap.size=W.heap.size:=rfl
 have hb7:V.heap.size<=b7:=by
  rcases hat7 with h9 | ⟨q,hq,hlt⟩
  ·exact hE b7 (h9 ▸ rfl)
  ·rw[hown7] at hq
   injection hq with hq
   omega
 have hb7n:∀ q,s0<=q->q < W.heap.size->q ≠ b7:=by
  intro q h1 h2 e
  rcases hat7 with h9 | ⟨q',hq,hlt⟩
  ·have:=hs0 b7 (h9 ▸ rfl)
   omega
  ·rw[hown7] at hq
   injection hq with hq
   omega
 have n1:¬ (Value.slice AE ek.length cE).ownBlock=some tb:=fun h=>by have:=hE tb h;omega
 have n2:¬ (Value.slice AE ek.length cE).ownBlock=some cb:=fun h=>by have:=hE cb h;omega
 have hclt:=lB h.hc
 have htlt:=lB ht
 have hc7:w7.heap[cb]?=_:=(hu7.block cb hclt n2).trans h.hc
 have ht7:w7.heap[tb]?=_:=(hu7.block tb htlt n1).trans ht
 have hr7:=Rp.x0f (Rp.x1d (fun k hk hl=>And.intro (And.intro hk hl) ⟨hl,rfl⟩) hr:exR.row W.drew (fun k=>s0<=k/\k < W.heap.size) A5 l1) hu7 (fun q _ hq h9=>by have:=hs0 q h9;omega)
 have hcb7:¬ cb=b7:=by omega
 have htb7:¬ tb=b7:=by omega
 have hup7:Upd (fun q=>q=cb\/q=tb) V w7:=h.up.drew.trans hu7 (fun q hq h9=>by have:=hE q h9;omega)
 have hset:∀ w:World,Upd (fun q=>q=b7) w (((w.setCell ⟨b7,ek.length * 3,none⟩ (.int .i64 k1)).setCell ⟨b7,ek.length * 3+1,none⟩ (.string nm1)).setCell ⟨b7,ek.length * 3+2,none⟩ (.slice A5 l1.length c5)):=fun w=>
  (((Upd.refl (fun q=>q=b7) w).setCell (p:=⟨b7,ek.length * 3,none⟩) (fun _=>rfl) _).setCell (p:=⟨b7,ek.length * 3+1,none⟩) (fun _=>rfl) _).setCell (p:=⟨b7,ek.length * 3+2,none⟩) (fun _=>rfl) _
 have hcset:∀ (w:World) (v:Value),Upd (fun q=>q=cb) w (w.setCell ⟨cb,4,none⟩ v):=fun w v=>(Upd.refl (fun q=>q=cb) w).setCell (p:=⟨cb,4,none⟩) (fun _=>rfl) _
 have hF:∀ q,s0<=q/\q < W.heap.size->((V.heap.size<=q/\some q ≠ (Value.slice AE ek.length cE).ownBlock)\/(False/\q < W.drew.heap.size)\/(Value.slice (some ⟨b7,0,none⟩) (ek.length+1) c7).ownBlock=some q)/\q ≠ b7:=fun q hq=>
  ⟨.inl ⟨by omega,fun e=>by have:=hs0 q e.symm;omega⟩,hb7n q hq.1 hq.2⟩
 have hG:∀ k,((V.heap.size<=k/\some k ≠ (Value.slice AE ek.length cE).ownBlock)\/(False/\k < W.drew.heap.size)\/(Value.slice (some ⟨b7,0,none⟩) (ek.length+1) c7).ownBlock=some k)->V.heap.size<=k:=by
  rintro k (⟨h1,_⟩ | ⟨h1,_⟩ | h1)
  ·exact h1
  ·exact h1.elim
  ·rw[hown7] at h1
   injection h1 with h1
   omega
 constructor
 ·refine⟨(hup7.trans (hset w7) (fun q hq h9=>by omega)).trans (hcset _ _) (fun q hq h9=>.inl h9),?_,?_,?_⟩
  ·simp[World.setCell,Array.getElem?_modify,hc7,hcb7,Ne.symm hcb7]
  ·exact⟨_,_,_,by
    rw[(hcset _ _).block tb (by simp[World.setCell];exact(lB ht7)) (fun e=>hct e.symm),(hset w7).block tb (lB ht7) htb7]
    exact ht7⟩
  ·exact Rp.x0w (Rp.x3a (own_last3 ho7 hr7 hF hle) hG) (hcset _ _) (fun q hq1 hq2 hq3=>by omega)
 ·refine⟨(hup7.trans (hcset w7 _) (fun q hq h9=>.inl h9)).trans (hset _) (fun q hq h9=>by omega),?_,?_,?_⟩
  ·rw[(hset _).block cb (by simp[World.setCell];exact(lB hc7)) hcb7]
   simp[World.setCell,Array.getElem?_modify,hc7]
  ·exact⟨_,_,_,by
    rw[(hset _).block tb (by simp[World.setCell];exact(lB ht7)) htb7,(hcset _ _).block tb (lB ht7) (fun e=>hct e.symm)]
    exact ht7⟩
  ·exact Rp.x3a (own_last3 (Rp.x0w ho7 (hcset _ _) (fun q hq1 hq2 hq3=>by first | (have:=hG q hq2;omega) | (have:=hG q hq1;omega))) (Rp.x0f hr7 (hcset _ _) (fun q _ hq hq2=>by omega)) hF hle) hG
theorem reg29 {V:World} {tb:Nat} {c0v c1v c2v c3v c5v Ev:Value} {ek:List Ex} {k1:Int} {nm1:ByteArray} {l1:List Ex} {A5:Option Addr} {c5 s0:Nat} (h:NewS V cb tb c0v c1v c2v c3v c5v Ev ek W)
 (ht:W.heap[tb]?=some (.cells #[.int .i64 k1,.string nm1,.slice A5 l1.length c5] 92 (0,0))) (hle:l1.length<=c5) (hr:exR.row W (fun q=>s0<=q) A5 l1) (hs0:∀ q,Ev.ownBlock=some q->q < s0) (hVs:V.heap.size<=s0)
 (hcb:cb < V.heap.size) (htb:tb < V.heap.size) (hct:cb ≠ tb) (hkl:ek.length<=15) {u0 u1 u2 u3 u4 u5 u6 u7 u8 u9 u10 u11 u12 u15 u16 u17 u18 u19 u20 u21 u22 u23 u24 u25 u26 u27 u28 u29 u30 u31 u32 u33 u34 u35 u36 u37 u38 u39 u40 u41 u42 u43 u44 u45 u46 u47 u48 u49 u50 u51 u52 u53 u54 u55 u56 u57 u58 u59 u60 u61 u62 u63 u64 u65 u66 u67 u68 u69 u70 u71 u72 u73 u74 u75 u76 u77 u78 u79 u80 u81 u82 u83 u84 u85 u86 u87 u88 u89 u90 u91 u92 u93 u94 u95 u96 u97 u98 u99 u100 u101 u102 u103 u104 u105 u106 u107 u108 u109 u110 u111 u112 u113 u114 u115 u116 u117 u118 u119 u120 u121 u122 u123 u124 u125 u126 u127 u128 u129 u130 u131 u132 u133 u134 u135 u136 u137 u138 u139 u140 u141 u142 u143 u144 u145 u146 u147 u148 u149 u150 u151 u152 u153 u154 u155:Value} {Q:Exit->Act->World->Prop}
 (hQp:∀ (c:_) (a1 a2:Act) (w:World),a1.defers=a2.defers->Q (.panic c) a1 w->Q (.panic c) a2 w)
 (hQ:∀ (x144 x145 x146 x147 x148 x149 x150 x151 x152 x153 x154:Value) (w':World),(∃ Ev',NewS V cb tb c0v c1v c2v c3v c5v Ev' (ek ++ [.mk k1 nm1 l1]) w')->Q .normal { tmps:=#[u0,u1,u2,u3,u4,u5,u6,u7,u8,u9,u10,u11,u12,.pointer (some ⟨cb,0,none⟩),.pointer (some ⟨tb,0,none⟩),u15,u16,u17,u18,u19,u20,u21,u22,u23,u24,u25,u26,u27,u28,u29,u30,u31,u32,u33,u34,u35,u36,u37,u38,u39,u40,u41,u42,u43,u44,u45,u46,u47,u48,u49,u50,u51,u52,u53,u54,u55,u56,u57,u58,u59,u60,u61,u62,u63,u64,u65,u66,u67,u68,u69,u70,u71,u72,u73,u74,u75,u76,u77,u78,u79,u80,u81,u82,u83,u84,u85,u86,u87,u88,u89,u90,u91,u92,u93,u94,u95,u96,u97,u98,u99,u100,u101,u102,u103,u104,u105,u106,u107,u108,u109,u110,u111,u112,u113,u114,u115,u116,u117,u118,u119,u120,u121,u122,u123,u124,u125,u126,u127,u128,u129,u130,u131,u132,u133,u134,u135,u136,u137,u138,u139,u140,u141,u142,u143,x144,x145,x146,x147,x148,x149,x150,x151,x152,x153,x154,u155],defers:=[] } w') :
 (Code.region 29 #[{ dst := (some 144), op := (Go.Op.move (Go.Operand.tmp 13)), type := 26, pos := "ref.go:84", after := #[], guard := none }, { dst := (some 145), op := (Go.Op.nilCheck (Go.Operand.tmp 144)), type := 0, pos := "ref.go:84", after := #[{ on := 0, ground := Go.Ground.data }], guard := none }, { dst := (some 146), op := (Go.Op.fieldAddr 105 (Go.Operand.tmp 145) 2), type := 0, pos := "ref.go:84", after := #[{ on := 1, ground := Go.Ground.data }], guard := none }, { dst := (some 147), op := (Go.Op.load 90 (Go.Operand.tmp 146)), type := 90, pos := "ref.go:84", after := #[{ on := 2, ground := Go.Ground.data }], guard := none }, { dst := (some 148), op := (Go.Op.load 92 (Go.Operand.tmp 14)), type := 92, pos := "ref.go:84", after := #[], guard := none }, { dst := (some 149), op := (Go.Op.call { callee := (Go.Callee.builtin Go.Builtin.len), args := #[(Go.Operand.tmp 147)], argTypes := #[90] }), type := 3, pos := "ref.go:84", after := #[{ on := 3, ground := Go.Ground.data }], guard := none }, { dst := (some 150), op := (Go.Op.buildSlice 90 1 #[(0, (Go.Operand.const (Go.Value.agg #[(Go.Value.int Go.IntKind.i64 0), (Go.Value.string { data := #[] }), (Go.Value.slice none 0 0)])))]), type := 90, pos := "ref.go:84", after := #[], guard := none }, { dst := (some 151), op := (Go.Op.call { callee := (Go.Callee.builtin Go.Builtin.append), args := #[(Go.Operand.tmp 147), (Go.Operand.tmp 150)], argTypes := #[90, 90] }), type := 90, pos := "ref.go:84", after := #[{ on := 3, ground := Go.Ground.data }, { on := 6, ground := Go.Ground.data }, { on := 0, ground := Go.Ground.phase }, { on := 1, ground := Go.Ground.phase }, { on := 2, ground := Go.Ground.phase }, { on := 3, ground := Go.Ground.phase }, { on := 4, ground := Go.Ground.phase }, { on := 5, ground := Go.Ground.phase }, { on := 6, ground := Go.Ground.phase }], guard := none }, { dst := (some 152), op := (Go.Op.indexAddr 90 (Go.Operand.tmp 151) (Go.Operand.tmp 149)), type := 0, pos := "ref.go:84", after := #[{ on := 7, ground := Go.Ground.data }, { on := 5, ground := Go.Ground.data }, { on := 0, ground := Go.Ground.phase }, { on := 1, ground := Go.Ground.phase }, { on := 2, ground := Go.Ground.phase }, { on := 3, ground := Go.Ground.phase }, { on := 4, ground := Go.Ground.phase }, { on := 5, ground := Go.Ground.phase }, { on := 6, ground := Go.Ground.phase }, { on := 7, ground := Go.Ground.phase }, { on := 12, ground := (Go.Ground.gcOnly Go.Departure.appendInPlace) }], guard := none }, { dst := none, op := (Go.Op.store 92 (Go.Operand.tmp 152) (Go.Operand.tmp 148)), type := 0, pos := "ref.go:84", after := #[{ on := 8, ground := Go.Ground.data }, { on := 4, ground := Go.Ground.data }, { on := 7, ground := Go.Ground.chain }, { on := 0, ground := Go.Ground.phase }, { on := 1, ground := Go.Ground.phase }, { on := 2, ground := Go.Ground.phase }, { on := 3, ground := Go.Ground.phase }, { on := 4, ground := Go.Ground.phase }, { on := 5, ground := Go.Ground.phase }, { on := 6, ground := Go.Ground.phase }, { on := 7, ground := Go.Ground.phase }, { on := 12, ground := (Go.Ground.gcOnly Go.Departure.appendInPlace) }], guard := none }, { dst := (some 153), op := (Go.Op.nilCheck (Go.Operand.tmp 144)), type := 0, pos := "ref.go:84", after := #[{ on := 0, ground := Go.Ground.data }, { on := 0, ground := Go.Ground.phase }, { on := 1, ground := Go.Ground.phase }, { on := 2, ground := Go.Ground.phase }, { on := 3, ground := Go.Ground.phase }, { on := 4, ground := Go.Ground.phase }, { on := 5, ground := Go.Ground.phase }, { on := 6, ground := Go.Ground.phase }, { on := 7, ground := Go.Ground.phase }, { on := 8, ground := (Go.Ground.textOnly Go.Departure.appendInPlace) }, { on := 9, ground := (Go.Ground.textOnly Go.Departure.appendInPlace) }], guard := none }, { dst := (some 154), op := (Go.Op.fieldAddr 105 (Go.Operand.tmp 153) 2), type := 0, pos := "ref.go:84", after := #[{ on := 10, ground := Go.Ground.data }, { on := 0, ground := Go.Ground.phase }, { on := 1, ground := Go.Ground.phase }, { on := 2, ground := Go.Ground.phase }, { on := 3, ground := Go.Ground.phase }, { on := 4, ground := Go.Ground.phase }, { on := 5, ground := Go.Ground.phase }, { on := 6, ground := Go.Ground.phase }, { on := 7, ground := Go.Ground.phase }, { on := 8, ground := (Go.Ground.textOnly Go.Departure.appendInPlace) }, { on := 9, ground := (Go.Ground.textOnly Go.Departure.appendInPlace) }], guard := none }, { dst := none, op := (Go.Op.store 90 (Go.Operand.tmp 154) (Go.Operand.tmp 151)), type := 0, pos := "ref.go:84", after := #[{ on := 11, ground := Go.Ground.data }, { on := 7, ground := Go.Ground.data }, { on := 7, ground := Go.Ground.chain }, { on := 9, ground := (Go.Ground.textOnly Go.Departure.appendInPlace) }, { on := 0, ground := Go.Ground.phase }, { on := 1, ground := Go.Ground.phase }, { on := 2, ground := Go.Ground.phase }, { on := 3, ground := Go.Ground.phase }, { on := 4, ground := Go.Ground.phase }, { on := 5, ground := Go.Ground.phase }, { on := 6, ground := Go.Ground.phase }, { on := 7, ground := Go.Ground.phase }, { on := 8, ground := (Go.Ground.textOnly Go.Departure.appendInPlace) }, { on := 9, ground := (Go.Ground.textOnly Go.Departure.appendInPlace) }], guard := none }] true).wp Tryz.prog Q { tmps := #[u0, u1, u2, u3, u4, u5, u6, u7, u8, u9, u10, u11, u12, .pointer (some ⟨cb, 0, none⟩), .pointer (some ⟨tb, 0, none⟩), u15, u16, u17, u18, u19, u20, u21, u22, u23, u24, u25, u26, u27, u28, u29, u30, u31, u32, u33, u34, u35, u36, u37, u38, u39, u40, u41, u42, u43, u44, u45, u46, u47, u48, u49, u50, u51, u52, u53, u54, u55, u56, u57, u58, u59, u60, u61, u62, u63, u64, u65, u66, u67, u68, u69, u70, u71, u72, u73, u74, u75, u76, u77, u78, u79, u80, u81, u82, u83, u84, u85, u86, u87, u88, u89, u90, u91, u92, u93, u94, u95, u96, u97, u98, u99, u100, u101, u102, u103, u104, u105, u106, u107, u108, u109, u110, u111, u112, u113, u114, u115, u116, u117, u118, u119, u120, u121, u122, u123, u124, u125, u126, u127, u128, u129, u130, u131, u132, u133, u134, u135, u136, u137, u138, u139, u140, u141, u142, u143, u144, u145, u146, u147, u148, u149, u150, u151, u152, u153, u154, u155], defers := [] } W := by
 have hct2:¬ tb=cb:=fun e=>hct e.symm
 have hct1:¬ cb=tb:=hct
 obtain⟨AE,cE,rfl,_,_⟩:=Rp.x0c h.own
 have HO6:=mK (Rp.own_drew h.own)
 have hE6:W.cell? ⟨cb,4,none⟩=some (.slice AE ek.length cE):=(cells6 h.hc).1.2.2.2.2.1
 have hE6d:W.drew.cell? ⟨cb,4,none⟩=some (.slice AE ek.length cE):=hE6
 obtain⟨⟨g0,g1',g2⟩,_,gl⟩:=x11 ht
 have hcl6:=(cells6 h.hc).2.2
 have hcf6:=(cells6 h.hc).2.1 4
 have hEo:∀ q,(Value.slice AE ek.length cE).ownBlock=some q->V.heap.size<=q:=fun q h9=>(Rp.x03 h.own q h9).1
 have HSK:As (∀ v,Upd (fun q=>(Value.slice AE ek.length cE).ownBlock=some q) W.drew v->v.cell? ⟨cb,4,none⟩=some (.slice AE ek.length cE)/\v.frozen? ⟨cb,4,none⟩=false/\v.cell? ⟨tb,0,none⟩=some (.int .i64 k1)/\v.cell? ⟨tb,1,none⟩=some (.string nm1)/\v.cell? ⟨tb,2,none⟩=some (.slice A5 l1.length c5)):=⟨by
  intro v hu
  have n1:¬ (Value.slice AE ek.length cE).ownBlock=some tb:=fun h=>by have:=hEo tb h;omega
  have n2:¬ (Value.slice AE ek.length cE).ownBlock=some cb:=fun h=>by have:=hEo cb h;omega
  exact⟨(hu.cell hcl6 n2).trans hE6,(hu.frozen hcl6 n2).trans hcf6,(hu.cell gl n1).trans g0,(hu.cell gl n1).trans g1',(hu.cell gl n1).trans g2⟩⟩
 have HH:=mK h
 have HT:=mK ht
 have HR:=mK hr
 have HEO:=mK hEo
 have HQ:=mK hQ
 have hsz:=h.up.size
 have i7:(ek.length:Int) < ((ek.length+1:Nat):Int):=by omega
 have i8:(ek.length:Int) < (ek.length:Int)+1:=by omega
 have HS0:=mK hs0
 clear h ht hr hEo hQ hs0
 refine wp_region_V (P:=Tryz.prog) (fun v=>v.cell? ⟨cb,4,none⟩=some (.slice AE ek.length cE)/\v.frozen? ⟨cb,4,none⟩=false/\v.cell? ⟨tb,0,none⟩=some (.int .i64 k1)/\v.cell? ⟨tb,1,none⟩=some (.string nm1)/\v.cell? ⟨tb,2,none⟩=some (.slice A5 l1.length c5)) 12 (by kernel_rfl) ?_ (fun hHeld=>?_)
 ·exact HSK.o _ rU
 refine yV 0 ?_ (hQ:=fun _ _ _ h=>hQp _ _ _ _ (put_defers _ _ _) h)
 refine yV 1 ?_ (hQ:=fun _ _ _ h=>hQp _ _ _ _ (put_defers _ _ _) h)
 refine yV 2 ?_ (hQ:=fun _ _ _ h=>hQp _ _ _ _ (put_defers _ _ _) h)
 refine zV 3 ?_ (hQ:=fun _ _ _ h=>hQp _ _ _ _ (put_defers _ _ _) h)
 (try simp only[Act.put,sA,sB,sC])
 refine zV 4 ?_ (hQ:=fun _ _ _ h=>hQp _ _ _ _ (put_defers _ _ _) h)
 refine yV 5 ?_ (hQ:=fun _ _ _ h=>hQp _ _ _ _ (put_defers _ _ _) h)
 refine x4b (i:=6) (by kernel_rfl) (by exact opAt rfl) (fun K hK=>?_)
 go_simp
 refine hK.out _ _ (fun _ _=>HSK.o _ aU) (fun hHeld2=>?_)
 replace hHeld:=hHeld2 (by decide) hHeld
 clear hHeld2 hK K
 (try simp only[Act.put,sA,sB,sC])
 refine x4b (i:=7) (by kernel_rfl) (by exact opAt rfl) (fun K hK=>?_)
 refine Rp.x5k exR (W:=W.drew) (Fp:=fun _=>False) HO6.o (.mk 0 ⟨#[]⟩ []) [.int .i64 0,.string ⟨#[]⟩,.slice none 0 0] (ExRep.of_parts (l:=[]) (Nat.le_refl _) (.inl rfl)) (fun _ h=>h.elim) (by rfl) _ _ 90 (.agg #[.int .i64 0,.string ⟨#[]⟩,.slice none 0 0]) 48 (by rfl) Tryz.underlying90 ex_info rfl (by decide) (by decide) (by rfl) (n:=W.heap.size) rfl (by rfl) (by omega) ?_;intro v7 w7 ho7 hu7 hat7
 obtain⟨b7,c7,rfl⟩:=own_formE ho7
 have HEND:=mK (reg29_end HH.o HT.o hle HR.o HS0.o hVs hcb htb hct ho7 hu7 hat7)
 obtain⟨⟨u0c,u1c,u2c,a0,a1,a2⟩,⟨af0,af1,af2⟩,al7⟩:=own_last_cells ho7
 have hb7:V.heap.size<=b7:=by
  rcases hat7 with h | ⟨q,hq,hlt⟩
  ·exact HEO.o b7 (h ▸ rfl)
  ·have hq':b7=q:=by simpa[Value.ownBlock] using hq
   have h3:W.drew.heap.size=W.heap.size:=rfl
   omega
 have hb7c:¬ b7=cb:=by omega
 have hb7c2:¬ cb=b7:=by omega
 have hb7t:¬ b7=tb:=by omega
 have hb7t2:¬ tb=b7:=by omega
 have HS7:=mK (HSK.o _ hu7)
 have hlc7:cb < w7.heap.size:=World.block_lt_of_cell? w7 _ HS7.o.1
 have hlt7:tb < w7.heap.size:=World.block_lt_of_cell? w7 _ HS7.o.2.2.1
 have HKW:As (∀ v v':World,(v.cell? ⟨cb,4,none⟩=some (.slice AE ek.length cE)/\v.frozen? ⟨cb,4,none⟩=false/\v.cell? ⟨tb,0,none⟩=some (.int .i64 k1)/\v.cell? ⟨tb,1,none⟩=some (.string nm1)/\v.cell? ⟨tb,2,none⟩=some (.slice A5 l1.length c5))->cb < v.heap.size->tb < v.heap.size->Upd (fun q=>q=b7) v v'->v'.cell? ⟨cb,4,none⟩=some (.slice AE ek.length cE)/\v'.frozen? ⟨cb,4,none⟩=false/\v'.cell? ⟨tb,0,none⟩=some (.int .i64 k1)/\v'.cell? ⟨tb,1,none⟩=some (.string nm1)/\v'.cell? ⟨tb,2,none⟩=some (.slice A5 l1.length c5)):=⟨by
  rintro v v' ⟨z1,z2,z3,z4,z5⟩ hc ht hu
  exact⟨(hu.cell hc hb7c2).trans z1,(hu.frozen hc hb7c2).trans z2,(hu.cell ht hb7t2).trans z3,(hu.cell ht hb7t2).trans z4,(hu.cell ht hb7t2).trans z5⟩⟩
 clear ho7 hu7 hat7
 refine hK.out _ _ (fun _ _=>HS7.o) (fun hHeld2=>?_)
 replace hHeld:=hHeld2 (by decide) hHeld
 clear hHeld2 hK K
 (try simp only[Act.put,sA,sB,sC])
 refine yV 8 ?_ (hQ:=fun _ _ _ h=>hQp _ _ _ _ (put_defers _ _ _) h)
 refine yV 10 ?_ (hQ:=fun _ _ _ h=>hQp _ _ _ _ (put_defers _ _ _) h)
 refine yV 11 ?_ (hQ:=fun _ _ _ h=>hQp _ _ _ _ (put_defers _ _ _) h)
 refine wpAnyV_two (i:=9) (j:=12) (by kernel_rfl) (by exact opAt rfl) (by exact opAt rfl) (fun K hK=>?wa) (fun K hK=>?wb)
 case' wa=>
  go_simp
  refine hK.out _ _ (fun _ hS=>HKW.o _ _ hS hlc7 hlt7 (upd3N _ _ _ _ _ _)) (fun hHeld2=>?_)
  replace hHeld:=hHeld2 (by decide) hHeld
  clear hHeld2 hK K
  (try simp only[Act.put,sA,sB,sC])
  refine x4b (i:=12) (by kernel_rfl) (by exact opAt rfl) (fun K hK=>?_)
  obtain⟨e4,ef,e0,e1,e2⟩:=hHeld
  go_simp
  refine hK.out _ _ (fun h=>absurd rfl h) (fun _=>?_)
  clear hK K
  (try simp only[Act.put,sA,sB,sC])
  refine x6a (by kernel_rfl) ?_ _
  exact HQ.o _ _ _ _ _ _ _ _ _ _ _ _ ⟨_,HEND.o.1⟩
 case' wb=>
  go_simp
  refine hK.out _ _ (fun h=>absurd rfl h) (fun _=>?_)
  clear hK K
  (try simp only[Act.put,sA,sB,sC])
  refine x4b (i:=9) (by kernel_rfl) (by exact opAt rfl) (fun K hK=>?_)
  go_simp
  refine hK.out _ _ (fun _ hS=>HKW.o _ _ hS (by simpa[World.setCell] using hlc7) (by simpa[World.setCell] using hlt7) (upd3N _ _ _ _ _ _)) (fun _=>?_)
  clear hK K
  (try simp only[Act.put,sA,sB,sC])
  refine x6a (by kernel_rfl) ?_ _
  exact HQ.o _ _ _ _ _ _ _ _ _ _ _ _ ⟨_,HEND.o.2⟩
theorem New6_calls {Bg:Option Addr} {d:Nat} {whole:ByteArray} {l:List Spec} {g:List Grp} {e0:Ex} {es:List Ex} (hr:specR.row w F A l) (hg:grpR.row w G Bg g) (hl:l.length<=15) (hgl:g.length<=16)
 (hls:∀ x ∈ l.map (·.name) ++ g.map (·.name),x.size<=1048576) (hgs:∀ x ∈ g,x.types.length<=1000) (hnm:okNames (l.map (·.name) ++ g.map (·.name))=true) (hft:∀ x ∈ l,fitsB x=true) (hes:es.length=l.length)
 (hp0:x50 whole e0/\x0k e0 (x1r l g)=0/\e0.wt<=1048576) (hpe:∀ (k:Nat) (s:Spec) (e:Ex),l[k]?=some s->es[k]?=some e->x50 s.expr e/\x0k e (x1r l g)=0/\e.wt<=1048576) :
 Calls Tryz.prog 62 #[.string whole,.slice A l.length c,.slice Bg g.length d] w fun r w'=>∃ cb,r=.returned (.tuple #[.pointer (some ⟨cb,0,none⟩),.int .i64 0])/\Sch6 w' cb l e0 es (x1r l g)/\Pure w w':=by
 have HR:=mK hr
 have HG:=mK (Rp.row_here6 hg)
 have HTW:=mK (twice_calls (c:=c) (d:=d) hr hg (by omega) (by omega) (fun x hx=>by have:=hls x hx;omega) hnm)
 have HFT:=mK hft
 have HP0:=mK hp0
 have HPE:=mK hpe
 have HGS:=mK hgs
 have t1:¬ ((l.length:Int) > 15):=by omega
 have t2:¬ ((g.length:Int) > 16):=by omega
 have HES:=mK hes
 have HGT:=mK (newGroups_types (l:=l) (g:=g) (fun x hx=>⟨hls _ (List.mem_append_right _ (List.mem_map.2 ⟨x,hx,rfl⟩)),hgs x hx⟩))
 have HGL:=mK (show (x1r l g).length<=1048576 by show (_ :: _).length<=_;rw[List.length_cons,List.length_append,x2i];omega)
 have HNG:As (⟨x0u,[0]⟩ :: (x14 l ++ g)=x1r l g):=⟨rfl⟩
 generalize x1r l g=gs at *
 clear hr hg hls hgs hnm hft hp0 hpe hes
 go_enter Tryz.func62,Tryz.ntmps62
 go_wp2_with (go_at_call 126;refine HTW.o.mono ?_;rintro e w1 ⟨rfl,hu⟩;have HU1:=mK hu;clear hu)
 go_loopg [8] l.length (fun gg i wr=>∃ k:Nat,k+gg=l.length/\i=.int .i64 k/\As (Pure w wr))
 case atStart=>exact⟨0,by omega,rfl,HU1⟩
 case round=>
  obtain⟨k,hk,rfl,HP⟩:=hrel
  by_cases hlt:k < l.length
  ·obtain⟨x,hx⟩:=gS hlt
   obtain⟨bx,ox,rfl,hFb,hbb,d0,d1,d2,d3,d4,d5,d6⟩:=x58 (Rp.x01 HR.o HP.o) hx
   obtain⟨g1,rfl⟩:=sC1 (by omega:0 < gk)
   obtain⟨f1,f2,f3,f4,f5,f6⟩:=fits_parts (HFT.o x (List.mem_of_getElem? hx))
   have HK:=mK hk
   clear hk hx
   obtain⟨xn,xe,xl,xm,x1,x2,x3⟩:=x
   cases xl with
   | false=>
     clear f6
     go_wp2
     go_roundg g1
     case measure=>omega
     case rel=>exact⟨k+1,by have:=HK.o;omega,by go_num,⟨HP.o.alloc _⟩⟩
   | true=>
     obtain rfl:xe=⟨#[]⟩:=f6 rfl
     clear f6
     go_wp2
     go_roundg g1
     case measure=>omega
     case rel=>exact⟨k+1,by have:=HK.o;omega,by go_num,⟨HP.o.alloc _⟩⟩
  ·have hrow0:intR.row (wr.alloc (.cells #[.int .i64 0] 3)) (fun k=>k=wr.heap.size) (some ⟨wr.heap.size,0,none⟩) [0]:=Rp.x1k (heap_alloc_new wr (.cells #[.int .i64 0] 3)) rfl (Reps.single (show intR.rep _ _ (0:Int) [.int .i64 0] from rfl) rfl)
   have hw:=HP.o.size
   have HO0:=mK (Rp.own_lit (e:=85) grpR (G:=fun k=>w.heap.size<=k) (⟨x0u,[0]⟩:Grp) [.string x0u,.slice (some ⟨wr.heap.size,0,none⟩) 1 1] ⟨_,_,rfl,Nat.le_refl _,hrow0⟩ (fun k hk _=>by subst hk;omega) (by simp;omega))
   have HP0':=mK (show Pure w ((wr.alloc (.cells #[.int .i64 0] 3)).alloc (.cells #[.string x0u,.slice (some ⟨wr.heap.size,0,none⟩) 1 1] 85)) from(HP.o.alloc _).alloc _)
   have hsz0:(wr.alloc (.cells #[.int .i64 0] 3)).heap.size=wr.heap.size+1:=by simp
   rw[hsz0] at HO0
   clear hrow0 hw hsz0 HP
   go_wp2
   go_loopg [11,10] l.length (fun gg i v wx=>∃ k:Nat,k+gg=l.length/\i=.int .i64 k/\As (grpR.own 85 wx (fun q=>w.heap.size<=q) v (⟨x0u,[0]⟩ :: (x14 l).take k))/\As (Pure w wx))
   case atStart=>exact⟨0,by omega,rfl,HO0,HP0'⟩
   case round=>
    clear HO0 HP0'
    obtain⟨k,hk,rfl,HO,HP⟩:=hrel
    by_cases hlt:k < l.length
    ·obtain⟨x,hx⟩:=gS hlt
     obtain⟨Av,cv,rfl,_,_⟩:=Rp.x0c HO.o
     obtain⟨bx,ox,rfl,hFb,hbb,d0,d1,d2,d3,d4,d5,d6⟩:=x58 (Rp.x01 HR.o HP.o) hx
     obtain⟨g1,rfl⟩:=sC1 (by omega:0 < gk)
     have HK:=mK hk
     have HT:=mK (show ⟨x0u,[0]⟩ :: (x14 l).take (k+1)=(⟨x0u,[0]⟩ :: (x14 l).take k) ++ [⟨x.name,[(k:Int)+1]⟩] by rw[ownGroups_take hx];rfl)
     have hlk:(⟨x0u,[0]⟩ :: (x14 l).take k).length<=1000:=by rw[List.length_cons,List.length_take,x2i];omega
     have hrow0:=mK (show intR.row (wr.alloc (.cells #[.int .i64 ((k:Int)+1)] 3)) (fun q=>q=wr.heap.size) (some ⟨wr.heap.size,0,none⟩) [(k:Int)+1] from Rp.x1k (heap_alloc_new wr (.cells #[.int .i64 ((k:Int)+1)] 3)) rfl (Reps.single (show intR.rep _ _ ((k:Int)+1) [.int .i64 ((k:Int)+1)] from rfl) rfl))
     have hwrap:IntKind.i64.wrap ((k:Int)+1)=(k:Int)+1:=IntWalk.i64_in _ (by omega)
     have HSZ:=mK HP.o.size
     clear hk hx
     go_wp2_with (at_builtin;refine Rp.x0o grpR (Rp.x1s HO.o _) (⟨x.name,[(k:Int)+1]⟩:Grp) [.string x.name,.slice (some ⟨wr.heap.size,0,none⟩) 1 1] ⟨_,_,rfl,Nat.le_refl _,hrow0.o⟩ (Fp:=fun q=>q=wr.heap.size) (G:=fun q=>w.heap.size<=q) (fun q hq _=>⟨by have:=HSZ.o;omega,fun h=>by have:=(Rp.x03 HO.o q h.symm).2;omega⟩) (fun _ h _=>h) (fun q hq=>by have:=HSZ.o;simp at hq;omega) rfl _ _ 86 _ 40 rfl Tryz.underlying86 grp_info6 rfl (by decide) (by decide) rfl (by simp[Act.eval]) (by omega) ?_;intro v1 w1 ho1 hu1;rw[<- HT.o] at ho1;have HO1:=mK ho1;have HU1:=mK (Upd.trans (HP.o.alloc _) hu1 (fun q hq h=>by have:=(Rp.x03 HO.o q h).1;omega));clear ho1 hu1)
     go_roundg g1
     case measure=>omega
     case rel=>exact⟨k+1,by have:=HK.o;omega,by go_num,HO1,HU1⟩
    ·rw[List.take_of_length_le (by rw[x2i];omega)] at HO
     have HV:=mK (fun q h=>(Rp.x03 HO.o q h).1)
     have HO2:=mK (Rp.x3a (G:=AnyB) HO.o (fun _ _=>trivial))
     clear HO
     go_wp2
     go_loopg [12,10] g.length (fun gg i v wx=>∃ k:Nat,k+gg=g.length/\i=.int .i64 k/\As (grpR.own 85 wx AnyB v (⟨x0u,[0]⟩ :: (x14 l ++ g.take k)))/\As (∀ q,v.ownBlock=some q->w.heap.size<=q)/\As (Pure w wx))
     case atStart=>exact⟨0,by omega,rfl,⟨by rw[List.take_zero,List.append_nil];exact HO2.o⟩,HV,HP⟩
     case round=>
      clear HO2 HV HP
      obtain⟨k,hk,rfl,HO,HV,HP⟩:=hrel
      by_cases hlt:k < g.length
      ·obtain⟨x,hx⟩:=gS hlt
       obtain⟨Av,cv,rfl,_,_⟩:=Rp.x0c HO.o
       obtain⟨bx,ox,A1,c1,rfl,hFb,hbb,d0,d1,hle1,hrow1⟩:=grp_at (Rp.x01 HG.o HP.o) hx
       obtain⟨g1,rfl⟩:=sC1 (by omega:0 < gk)
       have HK:=mK hk
       have HT:=mK (show ⟨x0u,[0]⟩ :: (x14 l ++ g.take (k+1))=(⟨x0u,[0]⟩ :: (x14 l ++ g.take k)) ++ [x] by rw[List.take_add_one,hx];simp)
       have hlk:(⟨x0u,[0]⟩ :: (x14 l ++ g.take k)).length<=1000:=by rw[List.length_cons,List.length_append,List.length_take,x2i];omega
       have HLE:=mK hle1
       have HR1:=mK hrow1
       clear hk hx hrow1 hle1
       go_wp2_with (at_builtin;refine Rp.x1i grpR (c:=1) (Rp.x1s HO.o (.cells #[.string x.name,.slice A1 x.types.length c1] 85)) (Rp.x5j (d:=grpR) (F:=fun q=>q < w.heap.size) (x:=x) (cs:=[.string x.name,.slice A1 x.types.length c1]) ⟨A1,c1,rfl,HLE.o,Rp.x01 HR1.o (rU.alloc _)⟩ (heap_alloc_new _ (.cells #[.string x.name,.slice A1 x.types.length c1] 85))) (fun q hq _ he=>by have:=HV.o q he.symm;omega) (by rfl) _ _ 86 (.agg #[.string ⟨#[]⟩,.slice none 0 0]) 40 (by rfl) Tryz.underlying86 grp_info6 rfl (by decide) (by decide) (by rfl) (by simp[Act.eval]) (by simp only[List.length_singleton];omega) ?_;intro v1 w1 ho1 hu1 hat;rw[<- HT.o] at ho1;have HO1:=mK (Rp.x3a (G:=AnyB) ho1 (fun _ _=>trivial));have HU1:=mK (Upd.trans (HP.o.alloc _) hu1 (fun q hq h=>by have:=HV.o q h;omega));have HV1:As (∀ q,v1.ownBlock=some q->w.heap.size<=q):=⟨fun q hq=>by rcases hat with hat | ⟨b,hb,hle⟩;exact HV.o q (hat ▸ hq);rw[hb] at hq;injection hq with hq;have:=HP.o.size;simp at hle;omega⟩;clear ho1 hu1 hat)
       go_roundg g1
       case measure=>omega
       case rel=>exact⟨k+1,by have:=HK.o;omega,by go_num,HO1,HV1,HU1⟩
      ·rw[List.take_of_length_le (by omega),HNG.o] at HO
       obtain⟨Ag,cg,rfl,_,hgrow⟩:=Rp.x0c HO.o
       have HGR:=mK hgrow
       clear hgrow HV HO HNG
       obtain⟨k0,nm0,l0⟩:=e0
       unfold Ex.val at *
       have hgl6:=HGL.o
       have HPZ:=mK (fun W (hu:Pure wr W)=>parse7_calls (d:=cg) HP0.o.1 (Rp.x01 HGR.o hu) HP0.o.2.1 (by have:=HP0.o.2.2;omega) HGL.o HGT.o)
       generalize hW:wr.alloc (.cells #[.int .i64 0,.string ⟨#[]⟩,.slice none 0 0,.slice A l.length c,.slice none 0 0,.slice Ag gs.length cg] 105)=W
       have hPW:Pure wr W:=hW ▸ Upd.alloc1 _ _ _
       have HPW:=mK hPW
       have hWs:W.heap.size=wr.heap.size+1:=by rw[<- hW];simp
       have HCB:=mK (show W.heap[wr.heap.size]?=some (.cells #[.int .i64 0,.string ⟨#[]⟩,.slice none 0 0,.slice A l.length c,.slice none 0 0,.slice Ag gs.length cg] 105 (0,0)) from hW ▸ heap_alloc_new _ _)
       clear hPW
       have hcw:w.heap.size<=wr.heap.size:=HP.o.size
       generalize hcb:wr.heap.size=cb at *
       go_wp2_with (go_at_call 127;refine(HPZ.o _ HPW.o).mono ?_;rintro e w2 ⟨A0,c0,rfl,hle,hrw,hu⟩;have HR2:=mK hrw;have HU2:=mK hu;have HLE:=mK hle;clear hrw hu hle;apply As.o)
       refine⟨?_⟩
       have hz2:=HU2.o.size
       have hcb2:=(HU2.o.block cb (by omega) (fun h=>h)).trans HCB.o
       obtain⟨⟨q0,q1,q2,q3,q4,q5⟩,qf,hcl⟩:=cells6 hcb2
       have qf0:=qf 0
       have qf1:=qf 1
       have qf2:=qf 2
       have hne:¬ cb=w2.heap.size:=by omega
       have hne2:¬ w2.heap.size=cb:=by omega
       have HCB2:=mK hcb2
       clear hcb2 qf hW
       have HGRC:=mK (show grpR.row w2 (fun q=>q < cb) Ag gs from hcb ▸ Rp.x01 (Rp.row_here6 HGR.o) (HPW.o.tt HU2.o))
       have HSPC:=mK (show specR.row w2 (fun q=>q < cb) A l from Rp.x09 (Rp.x01 (Rp.row_here6 HR.o) (HP.o.trans (HPW.o.tt HU2.o) (fun _ _ h=>h))) (fun q hq=>by omega))
       have HEXC:=mK (show exR.row w2 (fun q=>cb < q/\q < w2.heap.size) A0 l0 from Rp.x09 (Rp.x1d (fun _ hk hl=>⟨And.intro hk hl,hl,rfl⟩) HR2.o) (fun q hq=>⟨by have:=hq.1;omega,hq.2⟩))
       have HPV:=mK (show Pure w w2 from HP.o.trans (HPW.o.tt HU2.o) (fun _ _ h=>h))
       clear hcb
       go_wp2
       generalize hV:((((w2.setCell ⟨cb,0,none⟩ (.int .i64 (Ex.mk k0 nm0 l0).k)).setCell ⟨cb,1,none⟩ (.string (Ex.mk k0 nm0 l0).name)).setCell ⟨cb,2,none⟩ (.slice A0 (Ex.mk k0 nm0 l0).l.length c0)).alloc (.cells #[.int .i64 (Ex.mk k0 nm0 l0).k,.string (Ex.mk k0 nm0 l0).name,.slice A0 (Ex.mk k0 nm0 l0).l.length c0] 92))=V
       have huV:Upd (fun q=>q=cb) w2 V:=hV ▸ (set3U w2 cb _ _ _).alloc _
       have hxV:V.heap[cb]?=some (.cells #[.int .i64 k0,.string nm0,.slice A0 l0.length c0,.slice A l.length c,.slice none 0 0,.slice Ag gs.length cg] 105 (0,0)):=by
        rw[<- hV]
        refine(Below.heap_alloc _ _ cb (by simp[World.setCell];omega)).trans ?_
        simp[World.setCell,Array.getElem?_modify,HCB2.o]
       have hVs:V.heap.size=w2.heap.size+1:=by rw[<- hV];simp[World.setCell]
       have htV:V.heap[w2.heap.size]?=some (.cells #[.int .i64 k0,.string nm0,.slice A0 l0.length c0] 92 (0,0)):=by
        rw[<- hV]
        have:=heap_alloc_new ((((w2.setCell ⟨cb,0,none⟩ (.int .i64 (Ex.mk k0 nm0 l0).k)).setCell ⟨cb,1,none⟩ (.string (Ex.mk k0 nm0 l0).name)).setCell ⟨cb,2,none⟩ (.slice A0 (Ex.mk k0 nm0 l0).l.length c0))) (.cells #[.int .i64 (Ex.mk k0 nm0 l0).k,.string (Ex.mk k0 nm0 l0).name,.slice A0 (Ex.mk k0 nm0 l0).l.length c0] 92)
        rw[show ((((w2.setCell ⟨cb,0,none⟩ (.int .i64 (Ex.mk k0 nm0 l0).k)).setCell ⟨cb,1,none⟩ (.string (Ex.mk k0 nm0 l0).name)).setCell ⟨cb,2,none⟩ (.slice A0 (Ex.mk k0 nm0 l0).l.length c0))).heap.size=w2.heap.size by simp[World.setCell]] at this
        exact this
       generalize htb:w2.heap.size=tb at *
       have HGV:=mK (show grpR.row V (fun q=>q < cb) Ag gs from Rp.x0f HGRC.o huV (fun q _ hq h=>by omega))
       have HSV:=mK (show specR.row V (fun q=>q < cb) A l from Rp.x0f HSPC.o huV (fun q _ hq h=>by omega))
       have HEV:=mK (show exR.row V (fun q=>cb < q/\q < tb) A0 l0 from Rp.x0f HEXC.o huV (fun q _ hq h=>by omega))
       have HPVV:=mK (show Pure w V from HPV.o.trans huV (fun q hq h=>by omega))
       have HN0:As (∃ Ev,NewS V cb tb (.int .i64 k0) (.string nm0) (.slice A0 l0.length c0) (.slice A l.length c) (.slice Ag gs.length cg) Ev (es.take 0) V):=⟨_,⟨Upd.refl _ _,hxV,⟨_,_,_,htV⟩,Rp.x0v _ _ _ _⟩⟩
       clear hV huV hxV htV HGRC HSPC HEXC HPV HCB HCB2 HGR HPW HU2 q0 q1 q2 q3 q4 q5 qf0 qf1 qf2 htb
       go_loopg [16,15] l.length (fun gg i ev wx=>∃ k:Nat,k+gg=l.length/\i=.int .i64 k/\ev=.int .i64 0/\As (∃ Ev,NewS V cb tb (.int .i64 k0) (.string nm0) (.slice A0 l0.length c0) (.slice A l.length c) (.slice Ag gs.length cg) Ev (es.take k) wx))
       case atStart=>exact⟨0,by omega,rfl,rfl,HN0⟩
       case round=>
        clear HN0
        obtain⟨k,hk,rfl,rfl,HNS⟩:=hrel
        by_cases hlt:k < l.length
        ·obtain⟨Ev,hns⟩:=HNS.o
         obtain⟨x,hx⟩:=gS hlt
         obtain⟨e,he⟩:∃ e,es[k]?=some e:=⟨_,List.getElem?_eq_getElem (by rw[HES.o];exact hlt)⟩
         obtain⟨bx,ox,rfl,hFb,hbb,d0,d1,d2,d3,d4,d5,d6⟩:=x58 (Rp.x0f HSV.o hns.up (fun q _ hq h=>by omega)) hx
         obtain⟨g1,rfl⟩:=sC1 (by omega:0 < gk)
         have HK:=mK hk
         have HT:=mK (show es.take (k+1)=es.take k ++ [e] by rw[List.take_add_one,he];rfl)
         have HNX:=mK hns
         have HPZ5:=mK (show Calls Tryz.prog 127 #[.string x.expr,.slice Ag gs.length cg] wr _ from parse7_calls (d:=cg) (HPE.o k x e hx he).1 (Rp.x0f HGV.o hns.up (fun q _ hq h=>by omega)) (HPE.o k x e hx he).2.1 (by have:=(HPE.o k x e hx he).2.2;omega) HGL.o HGT.o)
         obtain⟨k1,nm1,l1⟩:=e
         unfold Ex.val at *
         clear hk hx he hns
         go_wp2_with (go_at_call 127;refine HPZ5.o.mono ?_;rintro r5 w5 ⟨A5,c5,rfl,hle,hrw,hu⟩;have HR5:=mK hrw;have HU5:=mK hu;have HLE5:=mK hle;clear hrw hu hle;apply As.o)
         refine⟨?_⟩
         have hns5:=HNX.o.pure HU5.o
         obtain⟨⟨q0,q1,q2,q3,q4,q5⟩,qf,hcl⟩:=cells6 hns5.hc
         obtain⟨y0,y1,y2,hty⟩:=hns5.ht
         obtain⟨⟨r0,r1,r2⟩,⟨rf0,rf1,rf2⟩,hrl⟩:=x11 hty
         have hct:¬ cb=tb:=by omega
         have HN5:=mK hns5
         have HKL:=mK (show (es.take k).length<=15 by rw[List.length_take,HES.o];have:=HK.o;omega)
         clear hns5 qf d0 d1 d2 d3 d4 d5 d6 q0 q1 q2 q3 q4 q5
         go_wp2
         generalize hW6:(((w5.setCell ⟨tb,0,none⟩ (.int .i64 (Ex.mk k1 nm1 l1).k)).setCell ⟨tb,1,none⟩ (.string (Ex.mk k1 nm1 l1).name)).setCell ⟨tb,2,none⟩ (.slice A5 (Ex.mk k1 nm1 l1).l.length c5))=W6
         have hu6:Upd (fun q=>q=tb) w5 W6:=hW6 ▸ set3U w5 tb _ _ _
         have hs6:W6.heap.size=w5.heap.size:=by rw[<- hW6];simp[World.setCell]
         have ht6:W6.heap[tb]?=some (.cells #[.int .i64 k1,.string nm1,.slice A5 l1.length c5] 92 (0,0)):=by
          rw[<- hW6]
          simp[World.setCell,Array.getElem?_modify,hty]
         have hns6:NewS V cb tb _ _ _ _ _ Ev (es.take k) W6:=⟨HN5.o.up.trans (hu6.mono (fun _ _ h=>.inr h)) (fun _ _ h=>h),(hu6.block cb hcl hct).trans HN5.o.hc,⟨_,_,_,ht6⟩,Rp.x0w HN5.o.own hu6 (fun q _ hq h=>by omega)⟩
         have hr6:=Rp.x0f HR5.o hu6 (fun q _ hq h=>by have:=HNX.o.up.size;omega)
         have hVx:=HNX.o.up.size
         refine reg29 (s0:=wr.heap.size) hns6 ht6 HLE5.o hr6 (fun q hq=>(Rp.x03 HNX.o.own q hq).2) hVx (by omega) (by omega) hct HKL.o (fun c a1 a2 w hd h=>by obtain⟨_,_⟩:=a1;obtain⟨_,_⟩:=a2;cases hd;exact h) ?_
         intro x144 x145 x146 x147 x148 x149 x150 x151 x152 x153 x154 w9 hN9
         rw[<- HT.o] at hN9
         have HN9:=mK hN9
         clear hN9 hns6 hr6 ht6 hu6 hW6 hty r0 r1 r2 rf0 rf1 rf2
         go_wp2
         go_roundg g1
         case measure=>omega
         case rel=>exact⟨k+1,by have:=HK.o;omega,by go_num,rfl,HN9⟩
        ·have hkl:k=l.length:=by omega
         subst hkl
         obtain⟨Ev,hns⟩:=HNS.o
         rw[List.take_of_length_le (by rw[HES.o];omega)] at hns
         have HNX:=mK hns
         clear hns HNS
         go_wp2
         refine bodyPost_ret (results_tmp2 rfl _ _ _) rfl ?_
         obtain⟨AE,cE,rfl,_,hre⟩:=Rp.x0c HNX.o.own
         have hup:=HNX.o.up
         exact⟨cb,rfl,⟨A0,c0,A,c,AE,cE,Ag,cg,HNX.o.hc,Rp.x09 (Rp.x0f HEV.o hup (fun q _ hq h=>by omega)) (fun _ _=>trivial),Rp.x09 (Rp.x0f HSV.o hup (fun q _ hq h=>by omega)) (fun _ _=>trivial),Rp.x09 hre (fun _ _=>trivial),Rp.x09 (Rp.x0f HGV.o hup (fun q _ hq h=>by omega)) (fun _ _=>trivial)⟩,HPVV.o.trans hup (fun q hq h=>by have:=hcw;omega)⟩
open Go.Great
theorem house6_names:okNames (x1c.map (·.name) ++ x2z.map (·.name))=true:=by kernel_rfl
theorem house6_small:∀ x ∈ x1c.map (·.name) ++ x2z.map (·.name),x.size<=1048576:=by
 have h:(x1c.map (·.name) ++ x2z.map (·.name)).all (fun x=>decide (x.size<=1048576))=true:=by kernel_rfl
 intro x hx
 simpa using List.all_eq_true.1 h x hx
theorem house6_fits:∀ x ∈ x1c,fitsB x=true:=by
 have h:x1c.all fitsB=true:=by kernel_rfl
 intro x hx
 exact List.all_eq_true.1 h x hx
theorem parse6_text:x50 x4p (exS 4 x0u):=parse6_name sign_text (by decide) (by kernel_rfl) (Nat.le_of_ble_eq_true (by kernel_rfl))
theorem parse6_block:x50 x39 (exS 5 x2h):=parse6_name sign_block (by decide) (by kernel_rfl) (Nat.le_of_ble_eq_true (by kernel_rfl))
theorem parse6_item:x50 x5h (exS 5 itemName):=parse6_name sign_item (by decide) (by kernel_rfl) (Nat.le_of_ble_eq_true (by kernel_rfl))
theorem house6_parses:∀ (k:Nat) (s:Spec) (e:Ex),x1c[k]?=some s->houseE7[k]?=some e->x50 s.expr e/\x0k e (x1r x1c x2z)=0/\e.wt<=1048576:=by
 intro k s e hs he
 have hm:e ∈ houseEs:=List.mem_of_mem_drop (List.mem_of_getElem? he)
 have hc:x0k e (x1r x1c x2z)=0:=by simpa using List.all_eq_true.1 house_checks e hm
 have hw:houseEs.all (fun e=>decide (e.wt<=1048576))=true:=by kernel_rfl
 have hw1:e.wt<=1048576:=by simpa using List.all_eq_true.1 hw e hm
 refine⟨?_,hc,hw1⟩
 have hk:k < 7:=(List.getElem?_eq_some_iff.1 hs).1
 have h:k=0\/k=1\/k=2\/k=3\/k=4\/k=5\/k=6:=by omega
 rcases h with rfl | rfl | rfl | rfl | rfl | rfl | rfl <;> (injection hs with hs;injection he with he;subst hs;subst he)
 ·exact parse6_text
 ·exact parse6_text
 ·exact parse6_block
 ·exact parse6_text
 ·exact parse6_item
 ·exact parse6_block
 ·exact parse6_empty
end Go.Proofs.YtofjodppljnlaaaGreatDoor
