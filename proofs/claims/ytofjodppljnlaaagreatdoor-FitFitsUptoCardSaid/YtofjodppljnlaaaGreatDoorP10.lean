/- My own texts, packed: May2. -/
import Derived.Test.YtofjodppljnlaaaGreatDoorP4
set_option maxRecDepth 100000
set_option maxHeartbeats 4000000
set_option linter.unusedVariables false
set_option linter.unusedSimpArgs false
variable {w w1 W:Go.World} {F G:Nat → Prop} {A B:Option Go.Addr} {cb c:Nat}
namespace Go.Proofs.YtofjodppljnlaaaGreatDoor
open Go.RowKit
theorem x5y {w:World} {cb:Nat} {rs:List (Spec × Ex)} {gs:List Grp} (h:SchR w cb rs gs) (hne:rs ≠ []):Calls Tryz.prog 63 #[.pointer (some ⟨cb,0,none⟩)] w fun r w'=>r=.returned (.bool false)/\w'=w:=by
 obtain⟨AL,cL,AG,cG,hb,hl,hr,hg⟩:=h
 rcases hr with h | ⟨b,o,rfl,_,_,_⟩
 ·exact absurd h hne
 have c0:w.cell? ⟨cb,0,none⟩=some (.slice (some ⟨b,o,none⟩) rs.length cL):=by
  unfold World.cell?;simp only[hb];rfl
 have heqn:=fun (W:World) (a:Option Addr) (n c:Nat)=>Lib.run_eql_slice_nil (P:=Tryz.prog) W 95 94 a n c 0 0 Tryz.underlying95
 clear hb hl hg
 go_enter Tryz.func63,Tryz.ntmps63
 go_wp2
 go_ret
 exact⟨rfl,rfl⟩
theorem rule_at {w:World} {F:Nat->Prop} {A:Option Addr} {xs:List (Spec × Ex)} (h:ruleR.row w F A xs) {j:Nat} {x:Spec} {e:Ex} (hx:xs[j]?=some (x,e)) :
 ∃ b o A1 c1,A=some ⟨b,o,none⟩/\F b/\b < w.heap.size/\w.cell? ⟨b,o+j * 10,none⟩=some (.string x.name)/\w.cell? ⟨b,o+j * 10+1,none⟩=some (.string x.expr)/\w.cell? ⟨b,o+j * 10+2,none⟩=some (.bool x.leaf)/\w.cell? ⟨b,o+j * 10+3,none⟩=some (.int .i64 x.marks)/\w.cell? ⟨b,o+j * 10+4,none⟩=some (.int .i64 x.least)/\w.cell? ⟨b,o+j * 10+5,none⟩=some (.int .i64 x.most)/\w.cell? ⟨b,o+j * 10+6,none⟩=some (.bool x.lines)/\w.cell? ⟨b,o+j * 10+7,none⟩=some (.int .i64 e.k)/\w.cell? ⟨b,o+j * 10+8,none⟩=some (.string e.name)/\w.cell? ⟨b,o+j * 10+9,none⟩=some (.slice A1 e.l.length c1)/\e.l.length<=c1/\exR.row w F A1 e.l:=by
 obtain⟨b,o,cs,hA,hF,hb,hr,hc⟩:=Rp.x42 h hx
 obtain⟨c0,c1,rfl,h0,h1⟩:=hr
 have h0':c0=x.cs:=h0
 subst h0'
 obtain⟨A1,n1,rfl,hle,hrow⟩:=ExRep.parts h1
 exact⟨b,o,A1,n1,hA,hF,hb,hc 0 _ rfl,hc 1 _ rfl,hc 2 _ rfl,hc 3 _ rfl,hc 4 _ rfl,hc 5 _ rfl,hc 6 _ rfl,hc 7 _ rfl,hc 8 _ rfl,hc 9 _ rfl,hle,hrow⟩
theorem SchR.cells {w:World} {cb:Nat} {rs:List (Spec × Ex)} {gs:List Grp} (h:SchR w cb rs gs):∃ AL cL AG cG,w.cell? ⟨cb,0,none⟩=some (.slice AL rs.length cL)/\w.cell? ⟨cb,1,none⟩=some (.slice AG gs.length cG)/\cb < w.heap.size/\rs.length<=cL/\ruleR.row w (fun _=>True) AL rs/\grpR.row w (fun _=>True) AG gs:=by
 obtain⟨AL,cL,AG,cG,hb,hl,hr,hg⟩:=h
 exact⟨AL,cL,AG,cG,by unfold World.cell?;simp only[hb];rfl,by unfold World.cell?;simp only[hb];rfl,(lB hb),hl,hr,hg⟩
abbrev zeroSpec:Spec:=⟨⟨#[]⟩,⟨#[]⟩,false,0,0,0,false⟩
theorem Spec_in {w:World} {cb:Nat} {rs:List (Spec × Ex)} {gs:List Grp} (h:SchR w cb rs gs) {k:Nat} {x:Spec} {e:Ex} (hx:rs[k]?=some (x,e)) (hk:1<=k) (hl:rs.length<=1000):Calls Tryz.prog 73 #[.pointer (some ⟨cb,0,none⟩),.int .i64 k] w fun r w'=>r=.returned (.tuple #[x.val,.bool true])/\Pure w w':=by
 have hlt:k < rs.length:=(List.getElem?_eq_some_iff.1 hx).1
 have hne:rs ≠ []:=by rintro rfl;simp at hlt
 have HNO:=mK (x5y (h.pure (Upd.alloc1 (fun _=>False) w (.cells #[.string ⟨#[]⟩,.string ⟨#[]⟩,.bool false,.int .i64 0,.int .i64 0,.int .i64 0,.bool false] 34))) hne)
 obtain⟨AL,cL,AG,cG,c0,_,hcb,hle,hrow,_⟩:=h.cells
 obtain⟨b,o,A1,c1,rfl,_,hbl,d0,d1,d2,d3,d4,d5,d6,_⟩:=rule_at hrow hx
 have t1:decide ((k:Int) < 1)=false:=by simp;omega
 have t2:decide ((k:Int) >= (rs.length:Int))=false:=by simp;omega
 have t3:decide ((rs.length:Int)<=(k:Int))=false:=by simp;omega
 have t4:decide (rs.length<=k)=false:=by simp;omega
 have t5:(k == 0)=false:=by simp;omega
 clear hrow h hx
 go_enter Tryz.func73,Tryz.ntmps73
 go_wp2_with (go_at_call 63;refine HNO.o.mono ?_;rintro r w1 ⟨rfl,rfl⟩)
 exact bodyPost_ret (v:=.tuple #[x.val,.bool true]) (by simp[results,Tryz.results73,go_sem,Spec.val]) rfl ⟨rfl,Upd.alloc1 _ _ _⟩
theorem Spec_low {w:World} {cb:Nat} {rs:List (Spec × Ex)} {gs:List Grp} (h:SchR w cb rs gs) (hne:rs ≠ []) (hl:rs.length<=1000) {t:Int} (ht:t < 1):Calls Tryz.prog 73 #[.pointer (some ⟨cb,0,none⟩),.int .i64 t] w fun r w'=>r=.returned (.tuple #[zeroSpec.val,.bool false])/\Pure w w':=by
 have HNO:=mK (x5y (h.pure (Upd.alloc1 (fun _=>False) w (.cells #[.string ⟨#[]⟩,.string ⟨#[]⟩,.bool false,.int .i64 0,.int .i64 0,.int .i64 0,.bool false] 34))) hne)
 obtain⟨AL,cL,AG,cG,c0,_,hcb,hle,_,_⟩:=h.cells
 have t1:decide (t < 1)=true:=by simpa using ht
 clear h
 go_enter Tryz.func73,Tryz.ntmps73
 go_wp2_with (go_at_call 63;refine HNO.o.mono ?_;rintro r w1 ⟨rfl,rfl⟩)
 exact bodyPost_ret (v:=.tuple #[zeroSpec.val,.bool false]) (by simp[results,Tryz.results73,go_sem,Spec.val]) rfl ⟨rfl,Upd.alloc1 _ _ _⟩
theorem Spec_high {w:World} {cb:Nat} {rs:List (Spec × Ex)} {gs:List Grp} (h:SchR w cb rs gs) (hne:rs ≠ []) (hl:rs.length<=1000) {t:Int} (ht:1<=t) (hh:(rs.length:Int)<=t):Calls Tryz.prog 73 #[.pointer (some ⟨cb,0,none⟩),.int .i64 t] w fun r w'=>r=.returned (.tuple #[zeroSpec.val,.bool false])/\Pure w w':=by
 have HNO:=mK (x5y (h.pure (Upd.alloc1 (fun _=>False) w (.cells #[.string ⟨#[]⟩,.string ⟨#[]⟩,.bool false,.int .i64 0,.int .i64 0,.int .i64 0,.bool false] 34))) hne)
 obtain⟨AL,cL,AG,cG,c0,_,hcb,hle,_,_⟩:=h.cells
 have t1:decide (t < 1)=false:=by simp;omega
 have t2:decide (t >= (rs.length:Int))=true:=by simpa using hh
 have t3:decide ((rs.length:Int)<=t)=true:=by simpa using hh
 clear h
 go_enter Tryz.func73,Tryz.ntmps73
 go_wp2_with (go_at_call 63;refine HNO.o.mono ?_;rintro r w1 ⟨rfl,rfl⟩)
 exact bodyPost_ret (v:=.tuple #[zeroSpec.val,.bool false]) (by simp[results,Tryz.results73,go_sem,Spec.val]) rfl ⟨rfl,Upd.alloc1 _ _ _⟩
/-- append(v, x) of one element at a drawn region's step; its footprint is told sharply. -/
theorem Rp.x5k {α:Type} (d:Rp α) {P:Program} {ops:Array Oper} {o:Oper} {a:Act} {Q:Exit->Act->World->Prop} {K:Act->World->Prop} {E:Prop} {e:Nat} {W:World} {F Fp:Nat->Prop} {v:Value} {xs:List α} (HO:d.own e W F v xs) (p:α) (cs:List Value) (hp:d.rep W Fp p cs)
 (hFp:∀ k,Fp k->k < W.heap.size->some k ≠ v.ownBlock)
 (hgd:o.guard=none) (s x:Operand) (t:TypeId) (z:Value) (bytes:Nat)
 (ho:o.op=.call { callee:=.builtin .append,args:=#[s,x],argTypes:=#[t,t] })
 (ht:P.underlying t=some (.slice e)) (hinfo:(P.info? e).map (fun i=>(i.zero,i.size,i.bytes))=some (some z,d.sz,bytes)) (hz:z.cells.size=d.sz) (hs0:0 < d.sz) (hb0:0 < bytes)
 (hs:a.eval s=v) {n:Nat} (hnb:n=W.heap.size) (hx:a.eval x=.slice (some ⟨n,0,none⟩) 1 1) (hl:(xs.length+1) * bytes<=140737488355328)
 (h:∀ v1 w1,d.own e w1 (fun k=>(F k/\some k ≠ v.ownBlock)\/(Fp k/\k < W.heap.size)\/v1.ownBlock=some k) v1 (xs ++ [p])->Upd (fun k=>v.ownBlock=some k) W w1->(v1.ownBlock=v.ownBlock\/∃ b,v1.ownBlock=some b/\W.heap.size < b)->K (a.put o.dst v1) w1) :
 if Region.wanted o (yielded ops a.tmps)=true then Oper.wp P o a (W.alloc (.cells cs.toArray e)) K Q else E:=by
 have hp1:d.rep (W.alloc (.cells cs.toArray e)) (fun k=>Fp k/\k < W.heap.size) p cs:=d.move (fun k hk hl=>⟨⟨hk,hl⟩,by simp;omega,Below.heap_alloc W _ k hl⟩) hp
 refine Rp.x1g d (c:=1) (Rp.x1s HO (.cells cs.toArray e)) (Rp.x5j hp1 (heap_alloc_new W _)) (fun k hk _=>hFp k hk.1 hk.2) hgd s x t z bytes ho ht hinfo hz hs0 hb0 hs (by rw[hx,hnb];rfl) (by simpa using hl) ?_
 intro v1 w1 ho1 hu1 hat
 refine h v1 w1 ho1 (aU.tt hu1) ?_
 rcases hat with hat | ⟨b,hb,hle⟩
 ·exact .inl hat
 ·have h9:W.heap.size+1<=b:=by simpa using hle
  exact .inr ⟨b,hb,h9⟩
/-- A level: a rule whose expression lies below B, and the value of its word. -/
def levR (B:Nat):Rp ((Spec × Ex) × Value) where
 sz:=11
 rep:=fun w F x cs=>∃ c0,cs=c0 ++ [x.2]/\x.2.oneCell'=true/\ruleR.rep w (fun k=>F k/\k < B) x.1 c0
 len:=by
  rintro w F x cs ⟨c0,rfl,_,h⟩
  rw[List.length_append,ruleR.len h]
  rfl
 one:=by
  rintro w F x cs ⟨c0,rfl,h1,h⟩ u hu
  rcases List.mem_append.1 hu with hu | hu
  ·exact ruleR.one h u hu
  ·rw[List.mem_singleton.1 hu]
   exact h1
 move:=by
  rintro w w1 F G x cs hm ⟨c0,rfl,h1,h⟩
  exact⟨c0,rfl,h1,ruleR.move (fun k hk hl=>⟨⟨(hm k hk.1 hl).1,hk.2⟩,(hm k hk.1 hl).2⟩) h⟩
theorem rule_rep {w:World} {F:Nat->Prop} {x:Spec} {e:Ex} {cs:List Value} (h:ruleR.rep w F (x,e) cs):∃ A1 c1,cs=x.cs ++ [.int .i64 e.k,.string e.name,.slice A1 e.l.length c1]/\e.l.length<=c1/\exR.row w F A1 e.l:=by
 obtain⟨c0,c1,rfl,h0,h1⟩:=h
 have h0':c0=x.cs:=h0
 subst h0'
 obtain⟨A1,n1,rfl,hle,hrow⟩:=ExRep.parts h1
 exact⟨A1,n1,rfl,hle,hrow⟩
theorem rep_rule {w:World} {F:Nat->Prop} {x:Spec} {e:Ex} {A1:Option Addr} {c1:Nat} (hl:e.l.length<=c1) (h:exR.row w F A1 e.l):ruleR.rep w F (x,e) (x.cs ++ [.int .i64 e.k,.string e.name,.slice A1 e.l.length c1]):=
 ⟨x.cs,_,rfl,rfl,ex_rep hl h⟩
theorem own_set_last {B e:Nat} {w:World} {F:Nat->Prop} {b cap:Nat} {init:List ((Spec × Ex) × Value)} {r:Spec × Ex} {v v1:Value} (h:(levR B).own e w F (.slice (some ⟨b,0,none⟩) (init.length+1) cap) (init ++ [(r,v)])) (h1:v1.oneCell'=true) :
 (levR B).own e (w.setCell ⟨b,init.length * 11+10,none⟩ v1) F (.slice (some ⟨b,0,none⟩) (init.length+1) cap) (init ++ [(r,v1)]):=by
 obtain⟨inner,⟨hlen,ho⟩,hF,hr⟩:=h
 rcases ho with ⟨h,_⟩ | ⟨g,cap',cur,hv,hb0,hb,hnc,hcm,hcs,htk⟩
 ·cases h
 simp only[Value.slice.injEq,Option.some.injEq,Addr.mk.injEq] at hv
 obtain⟨⟨rfl,_⟩,hn,rfl⟩:=hv
 have hsz:(levR B).sz=11:=rfl
 rw[hsz] at hlen hcs htk hr
 have hl1:(init ++ [(r,v)]).length=init.length+1:=by simp
 rw[hl1] at hlen hnc htk
 have hlast:=hr.2 init.length (r,v) (by simp)
 obtain⟨c0,hc0,_,hrep⟩:=hlast
 have hc0l:c0.length=10:=ruleR.len hrep
 have hinner:inner=inner.take (init.length * 11) ++ (c0 ++ [v]):=by
  rw[<- hc0,List.take_of_length_le (l:=inner.drop _) (by rw[List.length_drop];omega),List.take_append_drop]
 have hset:inner.set (init.length * 11+10) v1=inner.take (init.length * 11) ++ (c0 ++ [v1]):=by
  conv=>lhs;rw[hinner]
  rw[List.set_append_right _ _ (by rw[List.length_take];omega),List.length_take,Nat.min_eq_left (by omega),show init.length * 11+10 - init.length * 11=10 by omega,List.set_append_right _ _ (by omega),hc0l]
  rfl
 have hmove:∀ k,F k/\some k ≠ Value.ownBlock (.slice (some ⟨b,0,none⟩) (init.length+1) cap)->k < w.heap.size->(F k/\some k ≠ Value.ownBlock (.slice (some ⟨b,0,none⟩) (init.length+1) cap))/\k < (w.setCell ⟨b,init.length * 11+10,none⟩ v1).heap.size/\(w.setCell ⟨b,init.length * 11+10,none⟩ v1).heap[k]?=w.heap[k]?:=by
  intro k hk hl
  refine⟨hk,by simpa[World.setCell] using hl,Below.heap_setCell w ⟨b,init.length * 11+10,none⟩ v1 k (fun e=>hk.2 ?_)⟩
  show some k=some b
  rw[e]
 have hl2:(init ++ [(r,v1)]).length=init.length+1:=by simp
 refine⟨inner.set (init.length * 11+10) v1,⟨by rw[List.length_set,hl2,hsz];exact hlen,.inr ⟨b,cap,cur.setIfInBounds (init.length * 11+10) v1,by rw[hl2],hb0,by simp[World.setCell,Array.getElem?_modify,hb],by rw[hl2];exact hnc,hcm,by simpa[hsz] using hcs,?_⟩⟩,hF,?_⟩
 ·rw[hl2,hsz,Array.toList_setIfInBounds,List.take_set,htk]
 ·rw[hset]
  refine Reps.append (ys:=[(r,v1)]) ⟨by rw[List.length_take,hsz];omega,fun j x hx=>?_⟩ (Reps.single ⟨c0,rfl,h1,ruleR.move (fun k hk hl=>?_) hrep⟩ (by simp[hc0l,hsz]))
  ·have hj:j < init.length:=(List.getElem?_eq_some_iff.1 hx).1
   have h2:=hr.2 j x (by rw[List.getElem?_append_left hj];exact hx)
   rw[hsz,List.drop_take,List.take_take,Nat.min_eq_left (by omega)]
   exact(levR B).move hmove h2
  ·obtain⟨h3,h4,h5⟩:=hmove k hk.1 hl
   exact⟨⟨h3,hk.2⟩,h4,h5⟩
theorem int_own_to {e:Nat} {w:World} {F G:Nat->Prop} {v:Value} {xs:List Int} (h:intRS.own e w F v xs) (hG:∀ k,v.ownBlock=some k->G k):intRS.own e w G v xs:=by
 obtain⟨inner,ho,hF,hr⟩:=h
 exact⟨inner,ho,hG,hr⟩
theorem x5a {e:Nat} {w w1:World} {F S:Nat->Prop} {v:Value} {xs:List Int} (h:intRS.own e w F v xs) (hu:Upd S w w1) (hs:∀ k,v.ownBlock=some k->¬ S k):intRS.own e w1 F v xs:=
 int_own_to (Rp.x0w (int_own_to h (fun k hk=>hk)) hu (fun k _ hk=>hs k hk)) (fun k hk=>(Rp.x03 h k hk).1)
/-- What is open: b is its block; each level's word is a row of its own. -/
structure Opn (w0:World) (b cap:Nat) (rs:List ((Spec × Ex) × Value)) (ws:List (List Int)) (wr:World):Prop where
 own:(levR w0.heap.size).own 99 wr (fun k=>k < w0.heap.size\/k=b) (.slice (some ⟨b,0,none⟩) rs.length cap) rs
 ge:w0.heap.size<=b
 len:ws.length=rs.length
 word:∀ (j:Nat) (r:Spec × Ex) (v:Value) (wd:List Int),rs[j]?=some (r,v)->ws[j]?=some wd->intRS.own 3 wr (fun k=>w0.heap.size<=k/\k ≠ b) v wd
 apart:∀ (i j:Nat) (r s:Spec × Ex) (u v:Value) (k:Nat),i ≠ j->rs[i]?=some (r,u)->rs[j]?=some (s,v)->u.ownBlock=some k->v.ownBlock ≠ some k
 up:Pure w0 wr
namespace Opn
variable {w0 wr w1:World} {b cap:Nat} {rs init:List ((Spec × Ex) × Value)} {ws wi:List (List Int)} {r:Spec × Ex} {v v1:Value} {wd:List Int}
theorem blt (h:Opn w0 b cap rs ws wr):b < wr.heap.size:=(Rp.x03 h.own b rfl).2
theorem frozen (h:Opn w0 b cap rs ws wr) (i:Nat):wr.frozen? ⟨b,i,none⟩=false:=by
 obtain⟨inner,⟨_,ho⟩,_,_⟩:=h.own
 rcases ho with ⟨h,_⟩ | ⟨g,cap',cur,hv,hb0,hb,_⟩
 ·cases h
 simp only[Value.slice.injEq,Option.some.injEq,Addr.mk.injEq] at hv
 obtain⟨⟨rfl,_⟩,_⟩:=hv
 simp[World.frozen?,hb]
theorem pure (h:Opn w0 b cap rs ws wr) (hu:Pure wr w1):Opn w0 b cap rs ws w1:=
 ⟨Rp.x0w h.own hu (fun _ _ _ h=>h),h.ge,h.len,fun j r v wd h1 h2=>Rp.x0w (h.word j r v wd h1 h2) hu (fun _ _ _ h=>h),h.apart,h.up.tt hu⟩
/-- The cells of a level. -/
theorem lev (h:Opn w0 b cap rs ws wr) {j:Nat} {x:Spec} {e:Ex} (hx:rs[j]?=some ((x,e),v)) :
 ∃ A1 c1,wr.cell? ⟨b,j * 11+3,none⟩=some (.int .i64 x.marks)/\wr.cell? ⟨b,j * 11+6,none⟩=some (.bool x.lines)/\wr.cell? ⟨b,j * 11+7,none⟩=some (.int .i64 e.k)/\wr.cell? ⟨b,j * 11+8,none⟩=some (.string e.name)/\wr.cell? ⟨b,j * 11+9,none⟩=some (.slice A1 e.l.length c1)/\wr.cell? ⟨b,j * 11+10,none⟩=some v/\e.l.length<=c1/\exR.row wr (fun k=>k < w0.heap.size) A1 e.l:=by
 obtain⟨A,c,hv,_,hrow⟩:=Rp.x0c h.own
 obtain⟨b',o,cs,hA,hF,hb,hr,hc⟩:=Rp.x42 hrow hx
 simp only[Value.slice.injEq] at hv
 obtain⟨rfl,_,rfl⟩:=hv
 simp only[Option.some.injEq,Addr.mk.injEq] at hA
 obtain⟨rfl,rfl,_⟩:=hA
 obtain⟨c0,rfl,_,hr0⟩:=hr
 obtain⟨A1,c1,rfl,hle,hex⟩:=rule_rep hr0
 simp only[Nat.zero_add] at hc
 exact⟨A1,c1,hc 3 _ rfl,hc 6 _ rfl,hc 7 _ rfl,hc 8 _ rfl,hc 9 _ rfl,hc 10 _ rfl,hle,Rp.x09 hex (fun k hk=>hk.2)⟩
theorem room (h:Opn w0 b cap rs ws wr):rs.length<=cap:=by
 obtain⟨A,c,hv,hle,_⟩:=Rp.x0c h.own
 simp only[Value.slice.injEq] at hv
 omega
theorem take (h:Opn w0 b cap (init ++ [(r,v)]) (wi ++ [wd]) wr):Opn w0 b cap init wi wr:=by
 have hl:=h.len
 simp only[List.length_append,List.length_singleton] at hl
 have ho:=Rp.own_take h.own init.length (by simp)
 rw[List.take_left'] at ho
 ·refine⟨ho,h.ge,by omega,fun j r v wd h1 h2=>h.word j r v wd ?_ ?_,fun i j r s u v k hij h1 h2=>h.apart i j r s u v k hij ?_ ?_,h.up⟩
  ·rw[List.getElem?_append_left (List.getElem?_eq_some_iff.1 h1).1];exact h1
  ·rw[List.getElem?_append_left (List.getElem?_eq_some_iff.1 h2).1];exact h2
  ·rw[List.getElem?_append_left (List.getElem?_eq_some_iff.1 h1).1];exact h1
  ·rw[List.getElem?_append_left (List.getElem?_eq_some_iff.1 h2).1];exact h2
 ·rfl
theorem top (h:Opn w0 b cap (init ++ [(r,v)]) (wi ++ [wd]) wr):intRS.own 3 wr (fun k=>w0.heap.size<=k/\k ≠ b) v wd:=by
 have hl:=h.len
 simp only[List.length_append,List.length_singleton] at hl
 exact h.word init.length r v wd (by simp) (by rw[show init.length=wi.length by omega];simp)
/-- The top's word has grown. -/
theorem grow (h:Opn w0 b cap (init ++ [(r,v)]) (wi ++ [wd]) wr) {wd1:List Int} {F:Nat->Prop} (h2:intRS.own 3 w1 F v1 wd1) (hF:∀ k,v1.ownBlock=some k->w0.heap.size<=k/\k ≠ b) (hu:Upd (fun k=>v.ownBlock=some k) wr w1) (hat:v1.ownBlock=v.ownBlock\/∃ q,v1.ownBlock=some q/\wr.heap.size<=q):Opn w0 b cap (init ++ [(r,v1)]) (wi ++ [wd1]) (w1.setCell ⟨b,init.length * 11+10,none⟩ v1):=by
 have hl:=h.len
 simp only[List.length_append,List.length_singleton] at hl
 have htop:=h.top
 have hblt:=h.blt
 have hn:∀ k,v.ownBlock=some k->w0.heap.size<=k/\k ≠ b:=fun k hk=>(Rp.x03 htop k hk).1
 have ho1:=Rp.x0w h.own hu (fun k _ hk hs=>by
  have:=hn k hs
  rcases hk with hk | hk
  ·omega
  ·exact this.2 hk)
 rw[show (init ++ [(r,v)]).length=init.length+1 by simp] at ho1
 have h1:v1.oneCell'=true:=by
  obtain⟨A,c,rfl,_⟩:=Rp.x0c h2
  rfl
 have ho2:=own_set_last ho1 h1
 have hold:∀ j,j < init.length->(init ++ [(r,v1)])[j]?=(init ++ [(r,v)])[j]?:=fun j hj=>by rw[List.getElem?_append_left hj,List.getElem?_append_left hj]
 have hap:∀ (j:Nat) (s:Spec × Ex) (u:Value) (k:Nat),(init ++ [(r,v)])[j]?=some (s,u)->j < init.length->u.ownBlock=some k->v1.ownBlock ≠ some k:=by
  intro j s u k hx hj hk hk1
  rcases hat with e | ⟨q,hq,hqs⟩
  ·rw[e] at hk1
   exact h.apart j init.length s r u v k (by omega) hx (by simp) hk hk1
  ·rw[hq] at hk1
   injection hk1 with e
   subst e
   obtain⟨wdj,hwd⟩:∃ wdj,(wi ++ [wd])[j]?=some wdj:=⟨_,List.getElem?_eq_getElem (by simp;omega)⟩
   have:=(Rp.x03 (h.word j s u wdj hx hwd) q hk).2
   omega
 refine⟨by rw[show (init ++ [(r,v1)]).length=init.length+1 by simp];exact ho2,h.ge,by simp;omega,fun j s u wdj hx hwd=>?_,fun i j s t u x k hij hi hj hk=>?_,(h.up.trans hu (fun k hk e=>?_)).setCell (fun hq=>?_) _⟩
 ·rcases Nat.lt_or_ge j init.length with hj | hj
  ·rw[hold j hj] at hx
   rw[List.getElem?_append_left (by omega)] at hwd
   have hw:=h.word j s u wdj hx (by rw[List.getElem?_append_left (by omega)];exact hwd)
   refine x5a (x5a hw hu (fun k hk e=>?_)) (Upd.x1v (S:=fun q=>q=b) w1 rfl v1) (fun k hk e=>?_)
   ·exact h.apart j init.length s r u v k (by omega) hx (by simp) hk e
   ·exact(Rp.x03 hw k hk).1.2 e
  ·obtain rfl:j=init.length:=by
    have:=(List.getElem?_eq_some_iff.1 hx).1
    simp at this
    omega
   simp at hx
   obtain⟨rfl,rfl⟩:=hx
   rw[show init.length=wi.length by omega] at hwd
   simp at hwd
   subst hwd
   exact x5a (int_own_to h2 hF) (Upd.x1v (S:=fun q=>q=b) w1 rfl v1) (fun k hk e=>(hF k hk).2 e)
 ·have hi1:i < init.length+1:=by have:=(List.getElem?_eq_some_iff.1 hi).1;simpa using this
  have hj1:j < init.length+1:=by have:=(List.getElem?_eq_some_iff.1 hj).1;simpa using this
  rcases Nat.lt_or_ge i init.length with hil | hil
  ·rw[hold i hil] at hi
   rcases Nat.lt_or_ge j init.length with hjl | hjl
   ·rw[hold j hjl] at hj
    exact h.apart i j s t u x k hij hi hj hk
   ·obtain rfl:j=init.length:=by omega
    simp at hj
    obtain⟨rfl,rfl⟩:=hj
    exact hap i s u k hi hil hk
  ·obtain rfl:i=init.length:=by omega
   simp at hi
   obtain⟨rfl,rfl⟩:=hi
   rw[hold j (by omega)] at hj
   exact fun e=>hap j t x k hj (by omega) e hk
 ·have:=(hn k e).1
  omega
 ·have:=h.ge
  simp at hq
  omega
/-- One more is open. -/
theorem push (h:Opn w0 b cap rs ws wr) (ho:(levR w0.heap.size).own 99 w1 (fun k=>((k < w0.heap.size\/k=b)/\some k ≠ some b)\/(k < w0.heap.size/\k < wr.heap.size)\/v1.ownBlock=some k) v1 (rs ++ [(r,.slice none 0 0)])) (hu:Upd (fun k=>some b=some k) wr w1) (hat:v1.ownBlock=some b\/∃ q,v1.ownBlock=some q/\wr.heap.size < q) :
 ∃ b1 cap1,v1=.slice (some ⟨b1,0,none⟩) (rs.length+1) cap1/\Opn w0 b1 cap1 (rs ++ [(r,.slice none 0 0)]) (ws ++ [[]]) w1:=by
 have hblt:=h.blt
 have hge:=h.ge
 have hwr:=h.up.size
 have hl:=h.len
 obtain⟨q,hq,hqb⟩:∃ q,v1.ownBlock=some q/\(q=b\/wr.heap.size < q):=by
  rcases hat with e | ⟨q,hq,hqs⟩
  ·exact⟨b,e,.inl rfl⟩
  ·exact⟨q,hq,.inr hqs⟩
 have hv:∃ cap1,v1=.slice (some ⟨q,0,none⟩) (rs.length+1) cap1:=by
  obtain⟨inner,⟨_,ho1⟩,_,_⟩:=ho
  rcases ho1 with ⟨rfl,hz⟩ | ⟨g,cap',cur,rfl,_⟩
  ·cases hq
  ·have e:g=q:=by simpa[Value.ownBlock] using hq
   subst e
   exact⟨cap',by simp⟩
 obtain⟨cap1,rfl⟩:=hv
 refine⟨q,cap1,rfl,⟨?_,by omega,by simp;omega,fun j s u wdj hx hwd=>?_,fun i j s t u x k hij hi hj hk=>?_,h.up.trans hu (fun k hk e=>?_)⟩⟩
 ·rw[show (rs ++ [(r,(.slice none 0 0:Value))]).length=rs.length+1 by simp]
  refine Rp.x3a ho (fun k hk=>?_)
  rcases hk with ⟨hk,hk2⟩ | hk | hk
  ·rcases hk with hk | hk
   ·exact .inl hk
   ·exact absurd (by rw[hk]) hk2
  ·exact .inl hk.1
  ·injection hk with hk
   exact .inr hk.symm
 ·rcases Nat.lt_or_ge j rs.length with hj | hj
  ·rw[List.getElem?_append_left hj] at hx
   rw[List.getElem?_append_left (by omega)] at hwd
   have hw:=h.word j s u wdj hx hwd
   refine int_own_to (x5a hw hu (fun k hk e=>?_)) (fun k hk=>?_)
   ·injection e with e
    exact(Rp.x03 hw k hk).1.2 e.symm
   ·have:=Rp.x03 hw k hk
    exact⟨this.1.1,by omega⟩
  ·obtain rfl:j=rs.length:=by
    have:=(List.getElem?_eq_some_iff.1 hx).1
    simp at this
    omega
   simp at hx
   obtain⟨rfl,rfl⟩:=hx
   rw[show rs.length=ws.length by omega] at hwd
   simp at hwd
   subst hwd
   exact Rp.x0v _ _ _ _
 ·rcases Nat.lt_or_ge i rs.length with hil | hil
  ·rw[List.getElem?_append_left hil] at hi
   rcases Nat.lt_or_ge j rs.length with hjl | hjl
   ·rw[List.getElem?_append_left hjl] at hj
    exact h.apart i j s t u x k hij hi hj hk
   ·obtain rfl:j=rs.length:=by
     have:=(List.getElem?_eq_some_iff.1 hj).1
     simp at this
     omega
    simp at hj
    obtain⟨rfl,rfl⟩:=hj
    exact fun e=>by cases e
  ·obtain rfl:i=rs.length:=by
    have:=(List.getElem?_eq_some_iff.1 hi).1
    simp at this
    omega
   simp at hi
   obtain⟨rfl,rfl⟩:=hi
   cases hk
 ·injection e with e
  omega
/-- The whole is open. -/
theorem start {A1:Option Addr} {c1:Nat} {x:Spec} {e:Ex} (hu:Pure w0 wr) (hl:e.l.length<=c1) (hx:exR.row wr (fun k=>k < w0.heap.size) A1 e.l) :
 Opn w0 wr.heap.size 1 [((x,e),.slice none 0 0)] [[]] (wr.alloc (.cells (x.cs ++ [Value.int .i64 e.k,Value.string e.name,Value.slice A1 e.l.length c1] ++ [Value.slice none 0 0]).toArray 99)):=by
 have hz:=hu.size
 refine⟨Rp.own_lit (levR w0.heap.size) (Fp:=fun k=>k < w0.heap.size) ((x,e),(.slice none 0 0:Value)) _ ⟨_,rfl,rfl,ruleR.move (fun k hk hl=>⟨⟨hk,hk⟩,hl,rfl⟩) (rep_rule hl hx)⟩ (fun k hk _=>.inl hk) (.inr rfl),hz,rfl,fun j s u wdj h1 h2=>?_,fun i j s t u x k hij hi hj hk=>?_,hu.alloc _⟩
 ·have hj:j < 1:=(List.getElem?_eq_some_iff.1 h1).1
  obtain rfl:j=0:=by omega
  simp at h1 h2
  obtain⟨rfl,rfl⟩:=h1
  subst h2
  exact Rp.x0v _ _ _ _
 ·have h1:i < 1:=(List.getElem?_eq_some_iff.1 hi).1
  have h2:j < 1:=(List.getElem?_eq_some_iff.1 hj).1
  omega
end Opn
end Go.Proofs.YtofjodppljnlaaaGreatDoor
namespace Go.Proofs.YtofjodppljnlaaaGreatDoor
open Go.RowKit
def mayB (s:Spec) (x:Tok):Bool:=decide (x.n >= s.least) && decide (x.n<=s.most) && (s.leaf == decide (x.k=3))
theorem may_in {w:World} {cb:Nat} {rs:List (Spec × Ex)} {gs:List Grp} {V:Value} (h:SchR w cb rs gs) (hl:rs.length<=1000) {k n m:Int} {j:Nat} {x:Spec} {e:Ex} (hx:rs[j]?=some (x,e)) (hj:1<=j) (hk:k ≠ 0):Calls Tryz.prog 67 #[V,.pointer (some ⟨cb,0,none⟩),.agg #[.int .i64 k,.int .i64 j,.int .i64 n,.int .i64 m]] w fun r w'=>r=.returned (.bool (mayB x ⟨k,j,n,m⟩))/\Pure w w':=by
 have HS:=mK (fun W (hu:Pure w W)=>Spec_in (h.pure hu) hx hj hl)
 have t1:(k == 0)=false:=by simpa using hk
 have HT:=mK ((Upd.alloc1 (fun _=>False) w (.cells #[.int .i64 k,.int .i64 j,.int .i64 n,.int .i64 m] 71)))
 have HTB:=mK (heap_alloc_new w (.cells #[.int .i64 k,.int .i64 j,.int .i64 n,.int .i64 m] 71))
 have HV:=mK (show mayB x ⟨k,j,n,m⟩=(decide (n >= x.least) && decide (n<=x.most) && (x.leaf == decide (k=3))) from rfl)
 clear h hx hk
 go_enter Tryz.func67,Tryz.ntmps67
 go_wp2_with (go_at_call 73;refine(HS.o _ HT.o).mono ?_;rintro r w1 ⟨rfl,hu⟩;have HU:=mK hu;clear hu;apply As.o)
 refine⟨?_⟩
 have hb:=(HU.o.block w.heap.size (by simp) (fun h=>h)).trans HTB.o
 have q0:w1.cell? ⟨w.heap.size,0,none⟩=some (.int .i64 k):=by unfold World.cell?;simp only[hb];rfl
 have q2:w1.cell? ⟨w.heap.size,2,none⟩=some (.int .i64 n):=by unfold World.cell?;simp only[hb];rfl
 have hbl:w.heap.size < w1.heap.size:=lB hb
 have HPW:=mK (show Pure w w1 from HT.o.tt HU.o)
 clear hb
 cases b1:decide (n >= x.least) <;> cases b2:decide (n<=x.most) <;> cases b3:x.leaf <;> cases b4:decide (k=3)
 all_goals
  rw[b1,b2,b3,b4] at HV
  have b5:=b1
  have b6:=b2
  simp only[ge_iff_le] at b5
  have b7:(k == 3)=decide (k=3):=rfl
  rw[b4] at b7
  go_wp2
  go_ret
  exact⟨x0h (by rw[HV.o];rfl),HPW.o.alloc _⟩
theorem may_out {w:World} {cb:Nat} {rs:List (Spec × Ex)} {gs:List Grp} {V:Value} (h:SchR w cb rs gs) (hne:rs ≠ []) (hl:rs.length<=1000) {k t n m:Int} (ht:t < 1\/(rs.length:Int)<=t) (hk:k ≠ 0):Calls Tryz.prog 67 #[V,.pointer (some ⟨cb,0,none⟩),.agg #[.int .i64 k,.int .i64 t,.int .i64 n,.int .i64 m]] w fun r w'=>r=.returned (.bool false)/\Pure w w':=by
 have HS:=mK (fun W (hu:Pure w W)=>(by
  by_cases h1:t < 1
  ·exact Spec_low (h.pure hu) hne hl h1
  ·exact Spec_high (h.pure hu) hne hl (by omega) (by omega):Calls Tryz.prog 73 #[.pointer (some ⟨cb,0,none⟩),.int .i64 t] W fun r w'=>r=.returned (.tuple #[zeroSpec.val,.bool false])/\Pure W w'))
 have t1:(k == 0)=false:=by simpa using hk
 have HT:=mK ((Upd.alloc1 (fun _=>False) w (.cells #[.int .i64 k,.int .i64 t,.int .i64 n,.int .i64 m] 71)))
 clear h ht hk
 go_enter Tryz.func67,Tryz.ntmps67
 go_wp2_with (go_at_call 73;refine(HS.o _ HT.o).mono ?_;rintro r w1 ⟨rfl,hu⟩;have HU:=mK hu;clear hu)
 go_ret
 exact⟨rfl,(HT.o.tt HU.o).alloc _⟩
def x4t (m marks:Int):Bool:=decide (bits .andNot .i64 m marks=0)
def runeB (x:Spec) (n m:Int):Bool:=x4t m x.marks && (!decide (n=10) || x.lines)
theorem may_rune_a {w:World} {c:Value} {b o:Nat} {marks:Int} {lines:Bool} (hb:b < w.heap.size) (h3:w.cell? ⟨b,o+3,none⟩=some (.int .i64 marks)) (h6:w.cell? ⟨b,o+6,none⟩=some (.bool lines)) {t n m:Int} (hm:x4t m marks=false):Calls Tryz.prog 67 #[.pointer (some ⟨b,o,none⟩),c,.agg #[.int .i64 0,.int .i64 t,.int .i64 n,.int .i64 m]] w fun r w'=>r=.returned (.bool false)/\Pure w w':=by
 obtain⟨W,hW⟩:∃ W,W=w.alloc (.cells #[.int .i64 0,.int .i64 t,.int .i64 n,.int .i64 m] 71):=⟨_,rfl⟩
 have HPW:=mK (show Pure w W from hW ▸ Upd.alloc1 _ _ _)
 have hWb:W.heap[w.heap.size]?=some (.cells #[.int .i64 0,.int .i64 t,.int .i64 n,.int .i64 m] 71):=hW ▸ heap_alloc_new w _
 have HSK:As (∀ v,Upd (fun _=>False) W v->v.cell? ⟨b,o+3,none⟩=some (.int .i64 marks)/\v.cell? ⟨b,o+6,none⟩=some (.bool lines)/\v.cell? ⟨w.heap.size,2,none⟩=some (.int .i64 n)/\v.cell? ⟨w.heap.size,3,none⟩=some (.int .i64 m)):=⟨by
  intro v hu
  have hu2:=HPW.o.tt hu
  have hbk:=(hu.block w.heap.size (lB hWb) (fun h=>h)).trans hWb
  refine⟨(hu2.cell hb (fun h=>h)).trans h3,(hu2.cell hb (fun h=>h)).trans h6,?_,?_⟩ <;> (unfold World.cell?;simp only[hbk];rfl)⟩
 have hz:¬ bits .andNot .i64 m marks=0:=by simpa[x4t] using hm
 have hz1:(bits .andNot .i64 m marks == 0)=false:=by simpa using hz
 have hz2:decide (bits .andNot .i64 m marks=0)=false:=by simpa using hz
 clear hz
 clear hm
 clear h3 h6 hWb
 go_enter Tryz.func67,Tryz.ntmps67
 go_wp2
 rw[<- hW]
 clear hW
 refine x0m (P:=Tryz.prog) (fun v=>v.cell? ⟨b,o+3,none⟩=some (.int .i64 marks)/\v.cell? ⟨b,o+6,none⟩=some (.bool lines)/\v.cell? ⟨w.heap.size,2,none⟩=some (.int .i64 n)/\v.cell? ⟨w.heap.size,3,none⟩=some (.int .i64 m)) 23 (by kernel_rfl) ?_ (fun hHeld=>?_)
 ·exact HSK.o _ (rU.drew)
 refine zT 0 ?_
 refine zT 1 ?_
 refine zT 2 ?_
 refine zT 3 ?_
 (try simp only[Act.put,sA,sB,sC])
 refine zT 4 ?_
 refine zT 5 ?_
 refine zT 6 ?_
 refine zT 7 ?_
 (try simp only[Act.put,sA,sB,sC])
 refine zT 8 ?_
 refine zT 9 ?_
 refine zT 10 ?_
 refine x1e (i:=11) (v:=undef) (by exact opAt rfl) (by kernel_rfl) (by kernel_rfl) (by kernel_rfl) (by kernel_rfl) (by exact fun _ _ _ h=>h) (Or.inr ⟨by rfl,by rfl⟩) (by assumption) ?_
 (try simp only[Act.put,sA,sB,sC])
 refine x1e (i:=12) (v:=undef) (by exact opAt rfl) (by kernel_rfl) (by kernel_rfl) (by kernel_rfl) (by kernel_rfl) (by exact fun _ _ _ h=>h) (Or.inr ⟨by rfl,by rfl⟩) (by assumption) ?_
 (try simp only[Act.put,sA,sB,sC])
 refine x1e (i:=13) (v:=undef) (by exact opAt rfl) (by kernel_rfl) (by kernel_rfl) (by kernel_rfl) (by kernel_rfl) (by exact fun _ _ _ h=>h) (Or.inr ⟨by rfl,by rfl⟩) (by assumption) ?_
 (try simp only[Act.put,sA,sB,sC])
 refine x1e (i:=14) (v:=undef) (by exact opAt rfl) (by kernel_rfl) (by kernel_rfl) (by kernel_rfl) (by kernel_rfl) (by exact fun _ _ _ h=>h) (Or.inr ⟨by rfl,by rfl⟩) (by assumption) ?_
 (try simp only[Act.put,sA,sB,sC])
 refine x1e (i:=15) (v:=undef) (by exact opAt rfl) (by kernel_rfl) (by kernel_rfl) (by kernel_rfl) (by kernel_rfl) (by exact fun _ _ _ h=>h) (Or.inr ⟨by rfl,by rfl⟩) (by assumption) ?_
 (try simp only[Act.put,sA,sB,sC])
 refine x1e (i:=16) (v:=undef) (by exact opAt rfl) (by kernel_rfl) (by kernel_rfl) (by kernel_rfl) (by kernel_rfl) (by exact fun _ _ _ h=>h) (Or.inr ⟨by rfl,by rfl⟩) (by assumption) ?_
 (try simp only[Act.put,sA,sB,sC])
 refine x1e (i:=17) (v:=undef) (by exact opAt rfl) (by kernel_rfl) (by kernel_rfl) (by kernel_rfl) (by kernel_rfl) (by exact fun _ _ _ h=>h) (Or.inr ⟨by rfl,by rfl⟩) (by assumption) ?_
 (try simp only[Act.put,sA,sB,sC])
 refine x1e (i:=18) (v:=undef) (by exact opAt rfl) (by kernel_rfl) (by kernel_rfl) (by kernel_rfl) (by kernel_rfl) (by exact fun _ _ _ h=>h) (Or.inr ⟨by rfl,by rfl⟩) (by assumption) ?_
 (try simp only[Act.put,sA,sB,sC])
 refine x1e (i:=19) (v:=undef) (by exact opAt rfl) (by kernel_rfl) (by kernel_rfl) (by kernel_rfl) (by kernel_rfl) (by exact fun _ _ _ h=>h) (Or.inr ⟨by rfl,by rfl⟩) (by assumption) ?_
 (try simp only[Act.put,sA,sB,sC])
 refine x1e (i:=20) (v:=undef) (by exact opAt rfl) (by kernel_rfl) (by kernel_rfl) (by kernel_rfl) (by kernel_rfl) (by exact fun _ _ _ h=>h) (Or.inr ⟨by rfl,by rfl⟩) (by assumption) ?_
 (try simp only[Act.put,sA,sB,sC])
 refine x1e (i:=21) (v:=undef) (by exact opAt rfl) (by kernel_rfl) (by kernel_rfl) (by kernel_rfl) (by kernel_rfl) (by exact fun _ _ _ h=>h) (Or.inr ⟨by rfl,by rfl⟩) (by assumption) ?_
 (try simp only[Act.put,sA,sB,sC])
 refine zT 22 ?_
 refine oT 23 (fun K hK=>?_)
 go_simp
 refine hK.out _ _ (fun h=>absurd rfl h) (fun hHeld=>?_)
 clear hK K
 (try simp only[Act.put,sA,sB,sC])
 refine x0l (by kernel_rfl) ?_ _
 go_wp2
 go_ret
 exact⟨rfl,HPW.o.drew⟩
theorem may_rune_b {w:World} {c:Value} {b o:Nat} {marks:Int} {lines:Bool} (hb:b < w.heap.size) (h3:w.cell? ⟨b,o+3,none⟩=some (.int .i64 marks)) (h6:w.cell? ⟨b,o+6,none⟩=some (.bool lines)) {t n m:Int} (hm:x4t m marks=true) (hn:n ≠ 10):Calls Tryz.prog 67 #[.pointer (some ⟨b,o,none⟩),c,.agg #[.int .i64 0,.int .i64 t,.int .i64 n,.int .i64 m]] w fun r w'=>r=.returned (.bool true)/\Pure w w':=by
 obtain⟨W,hW⟩:∃ W,W=w.alloc (.cells #[.int .i64 0,.int .i64 t,.int .i64 n,.int .i64 m] 71):=⟨_,rfl⟩
 have HPW:=mK (show Pure w W from hW ▸ Upd.alloc1 _ _ _)
 have hWb:W.heap[w.heap.size]?=some (.cells #[.int .i64 0,.int .i64 t,.int .i64 n,.int .i64 m] 71):=hW ▸ heap_alloc_new w _
 have HSK:As (∀ v,Upd (fun _=>False) W v->v.cell? ⟨b,o+3,none⟩=some (.int .i64 marks)/\v.cell? ⟨b,o+6,none⟩=some (.bool lines)/\v.cell? ⟨w.heap.size,2,none⟩=some (.int .i64 n)/\v.cell? ⟨w.heap.size,3,none⟩=some (.int .i64 m)):=⟨by
  intro v hu
  have hu2:=HPW.o.tt hu
  have hbk:=(hu.block w.heap.size (lB hWb) (fun h=>h)).trans hWb
  refine⟨(hu2.cell hb (fun h=>h)).trans h3,(hu2.cell hb (fun h=>h)).trans h6,?_,?_⟩ <;> (unfold World.cell?;simp only[hbk];rfl)⟩
 have hz:bits .andNot .i64 m marks=0:=by simpa[x4t] using hm
 have hz1:(bits .andNot .i64 m marks == 0)=true:=by simpa using hz
 have hz2:decide (bits .andNot .i64 m marks=0)=true:=by simpa using hz
 clear hz
 have t1:(n == 10)=false:=by simpa using hn
 have t2:(n != 10)=true:=by simpa using hn
 clear hm
 clear h3 h6 hWb
 go_enter Tryz.func67,Tryz.ntmps67
 go_wp2
 rw[<- hW]
 clear hW
 refine x0m (P:=Tryz.prog) (fun v=>v.cell? ⟨b,o+3,none⟩=some (.int .i64 marks)/\v.cell? ⟨b,o+6,none⟩=some (.bool lines)/\v.cell? ⟨w.heap.size,2,none⟩=some (.int .i64 n)/\v.cell? ⟨w.heap.size,3,none⟩=some (.int .i64 m)) 23 (by kernel_rfl) ?_ (fun hHeld=>?_)
 ·exact HSK.o _ (rU.drew)
 refine zT 0 ?_
 refine zT 1 ?_
 refine zT 2 ?_
 refine zT 3 ?_
 (try simp only[Act.put,sA,sB,sC])
 refine zT 4 ?_
 refine zT 5 ?_
 refine zT 6 ?_
 refine zT 7 ?_
 (try simp only[Act.put,sA,sB,sC])
 refine zT 8 ?_
 refine zT 9 ?_
 refine zT 10 ?_
 refine zT 11 ?_
 (try simp only[Act.put,sA,sB,sC])
 refine zT 12 ?_
 refine zT 13 ?_
 refine zT 14 ?_
 refine x1e (i:=15) (v:=undef) (by exact opAt rfl) (by kernel_rfl) (by kernel_rfl) (by kernel_rfl) (by kernel_rfl) (by exact fun _ _ _ h=>h) (Or.inr ⟨by rfl,by rfl⟩) (by assumption) ?_
 (try simp only[Act.put,sA,sB,sC])
 refine x1e (i:=16) (v:=undef) (by exact opAt rfl) (by kernel_rfl) (by kernel_rfl) (by kernel_rfl) (by kernel_rfl) (by exact fun _ _ _ h=>h) (Or.inr ⟨by rfl,by rfl⟩) (by assumption) ?_
 (try simp only[Act.put,sA,sB,sC])
 refine x1e (i:=17) (v:=undef) (by exact opAt rfl) (by kernel_rfl) (by kernel_rfl) (by kernel_rfl) (by kernel_rfl) (by exact fun _ _ _ h=>h) (Or.inr ⟨by rfl,by rfl⟩) (by assumption) ?_
 (try simp only[Act.put,sA,sB,sC])
 refine x1e (i:=18) (v:=undef) (by exact opAt rfl) (by kernel_rfl) (by kernel_rfl) (by kernel_rfl) (by kernel_rfl) (by exact fun _ _ _ h=>h) (Or.inr ⟨by rfl,by rfl⟩) (by assumption) ?_
 (try simp only[Act.put,sA,sB,sC])
 refine x1e (i:=19) (v:=undef) (by exact opAt rfl) (by kernel_rfl) (by kernel_rfl) (by kernel_rfl) (by kernel_rfl) (by exact fun _ _ _ h=>h) (Or.inr ⟨by rfl,by rfl⟩) (by assumption) ?_
 (try simp only[Act.put,sA,sB,sC])
 refine x1e (i:=20) (v:=undef) (by exact opAt rfl) (by kernel_rfl) (by kernel_rfl) (by kernel_rfl) (by kernel_rfl) (by exact fun _ _ _ h=>h) (Or.inr ⟨by rfl,by rfl⟩) (by assumption) ?_
 (try simp only[Act.put,sA,sB,sC])
 refine zT 21 ?_
 refine zT 22 ?_
 refine oT 23 (fun K hK=>?_)
 go_simp
 refine hK.out _ _ (fun h=>absurd rfl h) (fun hHeld=>?_)
 clear hK K
 (try simp only[Act.put,sA,sB,sC])
 refine x0l (by kernel_rfl) ?_ _
 go_wp2
 go_ret
 exact⟨rfl,HPW.o.drew⟩
theorem may_rune_c {w:World} {c:Value} {b o:Nat} {marks:Int} {lines:Bool} (hb:b < w.heap.size) (h3:w.cell? ⟨b,o+3,none⟩=some (.int .i64 marks)) (h6:w.cell? ⟨b,o+6,none⟩=some (.bool lines)) {t n m:Int} (hm:x4t m marks=true) (hn:n=10):Calls Tryz.prog 67 #[.pointer (some ⟨b,o,none⟩),c,.agg #[.int .i64 0,.int .i64 t,.int .i64 n,.int .i64 m]] w fun r w'=>r=.returned (.bool lines)/\Pure w w':=by
 obtain⟨W,hW⟩:∃ W,W=w.alloc (.cells #[.int .i64 0,.int .i64 t,.int .i64 n,.int .i64 m] 71):=⟨_,rfl⟩
 have HPW:=mK (show Pure w W from hW ▸ Upd.alloc1 _ _ _)
 have hWb:W.heap[w.heap.size]?=some (.cells #[.int .i64 0,.int .i64 t,.int .i64 n,.int .i64 m] 71):=hW ▸ heap_alloc_new w _
 have HSK:As (∀ v,Upd (fun _=>False) W v->v.cell? ⟨b,o+3,none⟩=some (.int .i64 marks)/\v.cell? ⟨b,o+6,none⟩=some (.bool lines)/\v.cell? ⟨w.heap.size,2,none⟩=some (.int .i64 n)/\v.cell? ⟨w.heap.size,3,none⟩=some (.int .i64 m)):=⟨by
  intro v hu
  have hu2:=HPW.o.tt hu
  have hbk:=(hu.block w.heap.size (lB hWb) (fun h=>h)).trans hWb
  refine⟨(hu2.cell hb (fun h=>h)).trans h3,(hu2.cell hb (fun h=>h)).trans h6,?_,?_⟩ <;> (unfold World.cell?;simp only[hbk];rfl)⟩
 have hz:bits .andNot .i64 m marks=0:=by simpa[x4t] using hm
 have hz1:(bits .andNot .i64 m marks == 0)=true:=by simpa using hz
 have hz2:decide (bits .andNot .i64 m marks=0)=true:=by simpa using hz
 clear hz
 have t1:(n == 10)=true:=by simpa using hn
 have t2:(n != 10)=false:=by simpa using hn
 clear hm hn
 clear h3 h6 hWb
 go_enter Tryz.func67,Tryz.ntmps67
 go_wp2
 rw[<- hW]
 clear hW
 refine x0m (P:=Tryz.prog) (fun v=>v.cell? ⟨b,o+3,none⟩=some (.int .i64 marks)/\v.cell? ⟨b,o+6,none⟩=some (.bool lines)/\v.cell? ⟨w.heap.size,2,none⟩=some (.int .i64 n)/\v.cell? ⟨w.heap.size,3,none⟩=some (.int .i64 m)) 23 (by kernel_rfl) ?_ (fun hHeld=>?_)
 ·exact HSK.o _ (rU.drew)
 refine zT 0 ?_
 refine zT 1 ?_
 refine zT 2 ?_
 refine zT 3 ?_
 (try simp only[Act.put,sA,sB,sC])
 refine zT 4 ?_
 refine zT 5 ?_
 refine zT 6 ?_
 refine zT 7 ?_
 (try simp only[Act.put,sA,sB,sC])
 refine zT 8 ?_
 refine zT 9 ?_
 refine zT 10 ?_
 refine zT 11 ?_
 (try simp only[Act.put,sA,sB,sC])
 refine zT 12 ?_
 refine zT 13 ?_
 refine zT 14 ?_
 refine zT 15 ?_
 (try simp only[Act.put,sA,sB,sC])
 refine zT 16 ?_
 refine zT 17 ?_
 refine zT 18 ?_
 refine zT 19 ?_
 (try simp only[Act.put,sA,sB,sC])
 refine zT 20 ?_
 refine zT 21 ?_
 refine zT 22 ?_
 refine oT 23 (fun K hK=>?_)
 go_simp
 refine hK.out _ _ (fun h=>absurd rfl h) (fun hHeld=>?_)
 clear hK K
 (try simp only[Act.put,sA,sB,sC])
 refine x0l (by kernel_rfl) ?_ _
 go_wp2
 go_ret
 exact⟨rfl,HPW.o.drew⟩
theorem may_rune {w:World} {c:Value} {b o:Nat} {x:Spec} (hb:b < w.heap.size) (h3:w.cell? ⟨b,o+3,none⟩=some (.int .i64 x.marks)) (h6:w.cell? ⟨b,o+6,none⟩=some (.bool x.lines)) {t n m:Int}:Calls Tryz.prog 67 #[.pointer (some ⟨b,o,none⟩),c,.agg #[.int .i64 0,.int .i64 t,.int .i64 n,.int .i64 m]] w fun r w'=>r=.returned (.bool (runeB x n m))/\Pure w w':=by
 cases hm:x4t m x.marks
 ·exact(may_rune_a hb h3 h6 hm).mono fun r w' h=>⟨by rw[h.1];unfold runeB;rw[hm];rfl,h.2⟩
 ·by_cases hn:n=10
  ·exact(may_rune_c hb h3 h6 hm hn).mono fun r w' h=>⟨by rw[h.1];unfold runeB;rw[hm];simp[hn],h.2⟩
  ·exact(may_rune_b hb h3 h6 hm hn).mono fun r w' h=>⟨by rw[h.1];unfold runeB;rw[hm];simp[hn],h.2⟩
/-- The spec of a type. -/
def x17 (rs:List (Spec × Ex)) (t:Int):Option Spec:=if t < 1 then none else (rs[t.toNat]?).map (·.1)
def mayT (rs:List (Spec × Ex)) (x:Spec) (t:Tok):Bool:=if t.k=0 then runeB x t.n t.m else match x17 rs t.t with | some s=>mayB s t | none=>false
theorem may_calls {w:World} {cb:Nat} {rs:List (Spec × Ex)} {gs:List Grp} (h:SchR w cb rs gs) (hne:rs ≠ []) (hl:rs.length<=1000) {b o:Nat} {x:Spec} (hb:b < w.heap.size) (h3:w.cell? ⟨b,o+3,none⟩=some (.int .i64 x.marks)) (h6:w.cell? ⟨b,o+6,none⟩=some (.bool x.lines)) (t:Tok):Calls Tryz.prog 67 #[.pointer (some ⟨b,o,none⟩),.pointer (some ⟨cb,0,none⟩),t.val] w fun r w'=>r=.returned (.bool (mayT rs x t))/\Pure w w':=by
 obtain⟨k,tt,n,m⟩:=t
 by_cases hk:k=0
 ·subst hk
  exact(may_rune hb h3 h6).mono fun r w' h=>⟨by rw[h.1];rfl,h.2⟩
 ·by_cases h1:tt < 1\/(rs.length:Int)<=tt
  ·have hs:x17 rs tt=none:=by
    unfold x17
    split
    ·rfl
    ·rw[List.getElem?_eq_none (by omega)];rfl
   have hv:mayT rs x ⟨k,tt,n,m⟩=false:=by
    unfold mayT
    rw[if_neg hk]
    simp only[hs]
   rw[hv]
   exact may_out h hne hl h1 hk
  ·obtain⟨j,rfl⟩:∃ j:Nat,tt=j:=⟨tt.toNat,by omega⟩
   obtain⟨y,hy⟩:∃ y,rs[j]?=some y:=⟨_,List.getElem?_eq_getElem (by omega)⟩
   obtain⟨s,e⟩:=y
   have hs:x17 rs j=some s:=by
    unfold x17
    rw[if_neg (by omega),Int.toNat_natCast,hy];rfl
   have hv:mayT rs x ⟨k,j,n,m⟩=mayB s ⟨k,j,n,m⟩:=by
    unfold mayT
    rw[if_neg hk]
    simp only[hs]
   rw[hv]
   exact may_in h hl hy (by omega) hk
end Go.Proofs.YtofjodppljnlaaaGreatDoor
