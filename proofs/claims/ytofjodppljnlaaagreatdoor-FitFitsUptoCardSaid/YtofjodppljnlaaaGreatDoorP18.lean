/- My own texts, packed: StepE, Done9, Chk9, StepC, MayP, Word6, Ref4. -/
import Derived.Test.YtofjodppljnlaaaGreatDoorP15
import Derived.Laws.CopyOwn
import Derived.Laws.OwnMore
set_option maxRecDepth 100000
set_option maxHeartbeats 4000000
set_option linter.unusedVariables false
set_option linter.unusedSimpArgs false
variable {w w1 W:Go.World} {F G:Nat → Prop} {A B:Option Go.Addr} {cb c:Nat}
namespace Go.Proofs.YtofjodppljnlaaaGreatDoor
open Go Go.RowKit
section
variable {P:Program}
theorem run_copy_rowN (w:World) (dT sT ty elem:TypeId) (g o dLen dCap:Nat) (a:Addr) (sLen sCap sz:Nat) (cur:Array Value) (t:TypeId) (cs:List Value)
 (hu:P.underlying dT=some (.slice elem)) (hs:(P.info? elem).map (·.size)=some sz)
 (hg:w.heap[g]?=some (.cells cur t (0,0))) (hn:cs.length=Nat.min sLen dLen * sz)
 (hsrc:∀ j v,cs[j]?=some v->w.cell? (a.add j)=some v) (hfit:o+cs.length<=cur.size) (h1:∀ v ∈ cs,v.oneCell'=true) :
 (Builtin.copy_ #[dT,sT] ty #[.slice (some ⟨g,o,none⟩) dLen dCap,.slice (some a) sLen sCap]).run P w =
   .ok (goInt (Nat.min sLen dLen)) (w.setRow g (cur.toList.take o ++ cs ++ cur.toList.drop (o+cs.length)).toArray):=by
 have hl:=run_loadCells_list (P:=P) w a cs hsrc
 have hst:=run_storeCells_at P g o t cs 0 cur w hg (by simpa using hfit) h1
 cases hq:P.info? elem with
 | none=>simp[hq] at hs
 | some i=>
   have hi:i.size=sz:=by simpa[hq] using hs
   simp[Builtin.copy_,run_underlying hu,Builtin.lenOf,Builtin.firstCells,sizeOf,typeInfo,hq,hi,<- hn,hl,hst]
theorem x5e (w:World) (dT sT ty elem:TypeId) (d a:Option Addr) (dLen dCap sLen sCap sz:Nat) (hu:P.underlying dT=some (.slice elem)) (hs:(P.info? elem).map (·.size)=some sz) (hn:Nat.min sLen dLen=0) :
 (Builtin.copy_ #[dT,sT] ty #[.slice d dLen dCap,.slice a sLen sCap]).run P w=.ok (goInt 0) w:=by
 cases hq:P.info? elem with
 | none=>simp[hq] at hs
 | some i=>
   have hi:i.size=sz:=by simpa[hq] using hs
   cases a with
   | none=>cases d <;> simp[Builtin.copy_,run_underlying hu,Builtin.lenOf,Builtin.firstCells,sizeOf,typeInfo,hq,hi,hn,storeCells]
   | some a=>
     have hl:=run_loadCells_list (P:=P) w a [] (fun j v h=>by cases h)
     simp at hl
     cases d <;> simp[Builtin.copy_,run_underlying hu,Builtin.lenOf,Builtin.firstCells,sizeOf,typeInfo,hq,hi,hn,hl,storeCells]
end
end Go.Proofs.YtofjodppljnlaaaGreatDoor
namespace Go.Proofs.YtofjodppljnlaaaGreatDoor
open Go.RowKit
theorem tok_size:(Tryz.prog.info? 71).map (·.size)=some 4:=by kernel_rfl
/-- Tokens, cell by cell. -/
def flatT (l:List Tok):List Value:=l.flatMap Tok.cs
theorem flatT_len (l:List Tok):(flatT l).length=l.length * 4:=by
 unfold flatT
 induction l with
 | nil=>rfl
 | cons x r ih=>rw[List.flatMap_cons,List.length_append,ih];simp[Tok.cs];omega
theorem flatT_app (a b:List Tok):flatT (a ++ b)=flatT a ++ flatT b:=by unfold flatT;rw[List.flatMap_append]
theorem flatT_one:∀ l:List Tok,∀ v ∈ flatT l,v.oneCell'=true:=by
 intro l v hv
 unfold flatT at hv
 obtain⟨x,_,h⟩:=List.mem_flatMap.1 hv
 simp[Tok.cs] at h
 rcases h with rfl | rfl | rfl | rfl <;> rfl
theorem flatT_at:∀ (l:List Tok) (j:Nat) (x:Tok),l[j]?=some x->((flatT l).drop (j * 4)).take 4=x.cs:=by
 intro l
 induction l with
 | nil=>intro j x h;cases h
 | cons y r ih=>
   intro j x h
   cases j with
   | zero=>
     simp only[List.getElem?_cons_zero,Option.some.injEq] at h
     subst h
     rfl
   | succ j=>
     rw[List.getElem?_cons_succ] at h
     rw[show (j+1) * 4=4+j * 4 by omega,<- List.drop_drop]
     exact ih j x h
theorem reps_flatT (w:World) (F:Nat->Prop) (l:List Tok):Reps (tokR.rep w F) 4 l (flatT l):=⟨flatT_len l,fun j x hx=>flatT_at l j x hx⟩
/-- The cells of a row of tokens. -/
theorem row_flat {w:World} {F:Nat->Prop} {A:Option Addr} {l:List Tok} (h:tokR.row w F A l) (hne:l ≠ []):∃ ad,A=some ad/\∀ j v,(flatT l)[j]?=some v->w.cell? (ad.add j)=some v:=by
 rcases h with h | ⟨b,o,rfl,_,_,hc⟩
 ·exact absurd h hne
 ·refine⟨⟨b,o,none⟩,rfl,fun j v hv=>?_⟩
  have hadd:(⟨b,o,none⟩:Addr).add j=⟨b,o+j,none⟩:=by unfold Addr.add;split <;> simp_all
  have hj:j < (flatT l).length:=(List.getElem?_eq_some_iff.1 hv).1
  rw[flatT_len] at hj
  have hq:j / 4 < l.length:=by omega
  obtain⟨x,hx⟩:∃ x,l[j / 4]?=some x:=⟨_,List.getElem?_eq_getElem hq⟩
  obtain⟨cs,hr,hcs⟩:=hc _ _ hx
  have hr':cs=x.cs:=hr
  subst hr'
  have h4:=flatT_at l _ x hx
  have h5:(x.cs)[j % 4]?=some v:=by
   rw[<- h4,List.getElem?_take,if_pos (by omega),List.getElem?_drop,show j / 4 * 4+j % 4=j by omega]
   exact hv
  rw[hadd,<- hcs _ _ h5]
  congr 2
  show o+j=o+j / 4 * 4+j % 4
  omega
/-- A row of lists of tokens. -/
abbrev toksR:Rp (List Tok):=Rp.slice tokR
theorem toks_at {w:World} {F:Nat->Prop} {A:Option Addr} {ls:List (List Tok)} (h:toksR.row w F A ls) {j:Nat} {x:List Tok} (hx:ls[j]?=some x) :
 ∃ b o B c,A=some ⟨b,o,none⟩/\F b/\b < w.heap.size/\x.length<=c/\tokR.row w F B x/\w.cell? ⟨b,o+j,none⟩=some (.slice B x.length c):=by
 obtain⟨b,o,cs,hA,hF,hb,⟨B,c,hcs,hlc,hrow⟩,hc⟩:=Rp.x42 h hx
 subst hcs
 have:=hc 0 _ rfl
 rw[show toksR.sz=1 from rfl,Nat.mul_one] at this
 exact⟨b,o,B,c,hA,hF,hb,hlc,hrow,this⟩
def sumL (ls:List (List Tok)):Nat:=(ls.map (·.length)).sum
theorem sumL_take {ls:List (List Tok)} {k:Nat} {x:List Tok} (hx:ls[k]?=some x):sumL (ls.take (k+1))=sumL (ls.take k)+x.length:=by
 unfold sumL
 rw[List.take_add_one,hx]
 simp
theorem sumL_le (ls:List (List Tok)) (k:Nat):sumL (ls.take k)<=sumL ls:=by
 unfold sumL
 rw[List.map_take]
 conv=>rhs;rw[<- List.take_append_drop k (ls.map (·.length)),List.sum_append]
 omega
theorem flatten_take {ls:List (List Tok)} {k:Nat} {x:List Tok} (hx:ls[k]?=some x):(ls.take (k+1)).flatten=(ls.take k).flatten ++ x:=by
 rw[List.take_add_one,hx]
 simp
theorem flatten_len (ls:List (List Tok)):ls.flatten.length=sumL ls:=by
 unfold sumL
 rw[List.length_flatten]
/-- Where the rounds stand: the row of the call's own, block g, holds what has come. -/
def TkRel (w wr:World) (g:Nat) (ls:List (List Tok)) (k:Nat):Prop:=
 Pure w wr/\w.heap.size<=g/\g < wr.heap.size/\∃ cur:List Value,wr.heap[g]?=some (.cells cur.toArray 71 (0,0))/\cur.length=sumL ls * 4/\cur.take (sumL (ls.take k) * 4)=flatT (ls.take k).flatten
theorem TkRel.step {w wr w1:World} {g:Nat} {ls:List (List Tok)} {k:Nat} {x:List Tok} {cur:List Value} (hx:ls[k]?=some x) (hp:Pure w wr) (hg:w.heap.size<=g) (hgl:g < wr.heap.size) (hl:cur.length=sumL ls * 4) (ht:cur.take (sumL (ls.take k) * 4)=flatT (ls.take k).flatten)
 (h1:w1.heap[g]?=some (.cells (splice cur (sumL (ls.take k) * 4) (flatT x)).toArray 71 (0,0))) (hu:Upd (fun q=>q=g) wr w1):TkRel w w1 g ls (k+1):=by
 have hs:=sumL_take hx
 have hle:=sumL_le ls (k+1)
 have hfl:=flatT_len x
 refine⟨Upd.trans hp hu (fun q hq h=>by omega),hg,Nat.lt_of_lt_of_le hgl hu.size,_,h1,?_,?_⟩
 ·rw[length_splice _ _ _ (by rw[hl,hfl];omega),hl]
 ·unfold splice
  rw[hs,flatten_take hx,flatT_app,<- ht,<- List.append_assoc]
  rw[List.take_append_of_le_length (by simp only[List.length_append,List.length_take,hfl,hl];omega)]
  rw[List.take_of_length_le (by simp only[List.length_append,List.length_take,hfl,hl];omega)]
theorem tokens_calls {w:World} {F:Nat->Prop} {A:Option Addr} {c:Nat} {ls:List (List Tok)} (hr:toksR.row w F A ls) (hlc:ls.length<=c) (hl:ls.length<=1000) (hb:sumL ls<=1048576 * 8) :
 Calls Tryz.prog 153 #[.slice A ls.length c] w fun r w'=>(∃ B,r=.returned (.slice (some B) ls.flatten.length ls.flatten.length)/\tokR.row w' (fun k=>w.heap.size<=k) (some B) ls.flatten)/\Pure w w':=by
 obtain⟨i0,hi,hzz⟩:=Option.map_eq_some_iff.1 x0y
 simp only[Prod.mk.injEq] at hzz
 obtain⟨hz0,hz1,hz2⟩:=hzz
 have HR:=mK hr
 clear hr
 go_enter Tryz.func153,Tryz.ntmps153
 go_wp2
 go_loopg [3,12] ls.length (fun gg nv kv wr=>∃ k:Nat,k+gg=ls.length/\kv=.int .i64 k/\nv=.int .i64 (sumL (ls.take k):Nat)/\As (Pure w wr))
 case atStart=>exact⟨0,by omega,rfl,by simp[sumL],⟨Upd.refl _ _⟩⟩
 case round=>
  obtain⟨k,hk,rfl,rfl,HP⟩:=hrel
  by_cases hlt:k < ls.length
  ·obtain⟨x,hx⟩:=gS hlt
   obtain⟨b,o,B,cx,rfl,hF,hbl,hcx,hrow,hcell⟩:=toks_at (Rp.x01 HR.o HP.o) hx
   have hs:=sumL_take hx
   have hle:=sumL_le ls (k+1)
   obtain⟨g1,rfl⟩:=sC1 (by omega:0 < gk)
   have hw1:IntKind.i64.wrap ((sumL (ls.take k):Nat)+(x.length:Int))=(sumL (ls.take k):Nat)+(x.length:Int):=IntWalk.i64_in _ (by omega)
   have HS:=mK hs
   clear hx hrow hs
   go_wp2
   go_roundg g1
   case measure=>omega
   case rel=>exact⟨k+1,by omega,by go_num,by rw[HS.o];go_num,HP⟩
  ·obtain rfl:k=ls.length:=by omega
   obtain⟨wo,rfl⟩:∃ wo:World,wo=wr:=⟨_,rfl⟩
   have htl:ls.take ls.length=ls:=List.take_length
   rw[htl]
   obtain⟨N,hN⟩:∃ N,sumL ls=N:=⟨_,rfl⟩
   rw[hN]
   have hNb:N<=1048576 * 8:=by omega
   have hmk:=run_make (P:=Tryz.prog) wo 22 71 i0 _ Tryz.underlying22 hi hz0 .i64 .i64 (N:Int) N (by omega) (Int.le_refl _) (by rw[hz2];push_cast;omega) (by omega)
   simp only[Int.toNat_natCast] at hmk
   obtain⟨C,hC⟩:∃ C,madeCells (Value.agg #[.int .i64 0,.int .i64 0,.int .i64 0,.int .i64 0]).cells (N * i0.size)=C:=⟨_,rfl⟩
   rw[hC] at hmk
   have hCs:C.size=N * 4:=by rw[<- hC,size_madeCells,hz1]
   obtain⟨cur0,rfl⟩:∃ cur0:List Value,C=cur0.toArray:=⟨C.toList,by simp⟩
   have hcl:cur0.length=N * 4:=by simpa using hCs
   have H0:=mK (show TkRel w (wo.alloc (.cells cur0.toArray 71)) wo.heap.size ls 0 from⟨HP.o.alloc _,HP.o.size,by simp,cur0,heap_alloc_new wo _,by rw[hcl,hN],by simp[sumL,flatT]⟩)
   have HN:=mK hN
   have HCL:=mK hcl
   clear htl hN hC hCs hcl hz0 hz1 hz2 hi
   go_wp2
   go_loopg [7,25] ls.length (fun gg av kv wx=>∃ k:Nat,k+gg=ls.length/\kv=.int .i64 k/\av=.int .i64 (sumL (ls.take k):Nat)/\As (TkRel w wx wo.heap.size ls k))
   case atStart=>exact⟨0,by omega,rfl,by simp[sumL],H0⟩
   case round=>
    obtain⟨k,hk,rfl,rfl,HT⟩:=hrel
    obtain⟨hp,hg1,hg2,cur,hblk,hcl,htk⟩:=HT.o
    by_cases hlt:k < ls.length
    ·obtain⟨x,hx⟩:=gS hlt
     obtain⟨b,o,B,cx,rfl,hF,hbl,hcx,hrow,hcell⟩:=toks_at (Rp.x01 HR.o hp) hx
     have hs:=sumL_take hx
     have hle:=sumL_le ls (k+1)
     obtain⟨g1,rfl⟩:=sC1 (by omega:0 < gk)
     obtain⟨S0,hS0⟩:∃ S0,sumL (ls.take k)=S0:=⟨_,rfl⟩
     have hSN:S0+x.length<=N:=by have:=HN.o;omega
     have HSX:=mK (show sumL (ls.take (k+1))=S0+x.length by omega)
     have hfl:=flatT_len x
     have HST:=mK (fun (W1:World) (h1:W1.heap[wo.heap.size]?=some (.cells (splice cur (S0 * 4) (flatT x)).toArray 71 (0,0))) (hu:Upd (fun q=>q=wo.heap.size) wr W1)=>TkRel.step hx hp hg1 hg2 hcl htk (by rw[hS0];exact h1) hu)
     by_cases hroom:S0 < N
     ·skip
      have hw1:IntKind.i64.wrap ((S0:Int)+(x.length:Int))=(S0:Int)+(x.length:Int):=IntWalk.i64_in _ (by omega)
      have hle0:¬ (N:Int) < (S0:Int):=by omega
      rw[hS0]
      have HX0:=mK (And.intro hp (And.intro hg1 hg2))
      by_cases h0:x.length=0
      ·have hx0:x=[]:=List.eq_nil_of_length_eq_zero h0
       subst hx0
       have hcopy:=x5e (P:=Tryz.prog) wr 22 22 3 71 (some ⟨wo.heap.size,S0 * 4,none⟩) B (N - S0) (N - S0) 0 cx 4 Tryz.underlying22 tok_size (by simp[Nat.min_def])
       have HG:=mK (HST.o wr (by rw[hblk];simp[splice,flatT]) rU)
       have hw2:IntKind.i64.wrap ((S0:Int)+0)=(S0:Int):=IntWalk.i64_in _ (by omega)
       simp only[List.length_nil,Nat.add_zero] at HSX
       clear hx hs hfl hp hblk hcl htk hS0 hrow hw1 hg1
       go_wp2
       go_roundg g1
       case measure=>omega
       case rel=>exact⟨k+1,by omega,by go_num,by first | (rw[HSX.o];done) | (rw[HSX.o,Int.natCast_add]),HG⟩
      ·obtain⟨ad,rfl,hcells⟩:=row_flat hrow (by intro e;rw[e] at h0;exact h0 rfl)
       have hmin:Nat.min x.length (N - S0)=x.length:=Nat.min_eq_left (by omega)
       have hcopy:=run_copy_rowN (P:=Tryz.prog) wr 22 22 3 71 wo.heap.size (S0 * 4) (N - S0) (N - S0) ad x.length cx 4 cur.toArray 71 (flatT x) Tryz.underlying22 tok_size hblk (by rw[hmin];exact hfl) hcells (by rw[hfl,List.size_toArray,hcl];have:=HN.o;omega) (flatT_one x)
       rw[hmin] at hcopy
       obtain⟨W1,hW1⟩:∃ W1,wr.setRow wo.heap.size (cur.toArray.toList.take (S0 * 4) ++ flatT x ++ cur.toArray.toList.drop (S0 * 4+(flatT x).length)).toArray=W1:=⟨_,rfl⟩
       have hb1:W1.heap[wo.heap.size]?=some (.cells (splice cur (S0 * 4) (flatT x)).toArray 71 (0,0)):=by
        rw[<- hW1]
        have h9:=setRow_heap wr wo.heap.size cur.toArray (cur.toArray.toList.take (S0 * 4) ++ flatT x ++ cur.toArray.toList.drop (S0 * 4+(flatT x).length)).toArray 71 (0,0) hblk
        rw[h9]
        simp[splice]
       have hu1:Upd (fun q=>q=wo.heap.size) wr W1:=by
        rw[<- hW1]
        exact⟨rfl,rfl,rfl,by simp[World.setRow],fun q hq hn=>setRow_other wr wo.heap.size q _ (fun e=>hn e)⟩
       rw[hW1] at hcopy
       have HG:=mK (HST.o W1 hb1 hu1)
       clear hx hs hfl hp hblk hcl htk hS0 hrow hcells hmin hW1 hb1 hu1 h0 hg1
       go_wp2
       go_roundg g1
       case measure=>omega
       case rel=>exact⟨k+1,by omega,by go_num,by first | (rw[HSX.o];done) | (rw[HSX.o,Int.natCast_add]),HG⟩
     ·have hS1:S0=N:=by omega
      have hx0:x.length=0:=by omega
      have hxn:x=[]:=List.eq_nil_of_length_eq_zero hx0
      subst hxn
      have hcopy:=x5e (P:=Tryz.prog) wr 22 22 3 71 (some ⟨wo.heap.size,0,none⟩) B 0 0 0 cx 4 Tryz.underlying22 tok_size (by simp[Nat.min_def])
      have HG:=mK (HST.o wr (by rw[hblk];simp[splice,flatT]) rU)
      have hw2:IntKind.i64.wrap ((N:Int)+0)=(N:Int):=IntWalk.i64_in _ (by omega)
      simp only[List.length_nil,Nat.add_zero] at HSX
      rw[hS0]
      subst hS1
      clear hx hs hfl hp hblk hcl htk hS0 hrow hg1 hroom
      go_wp2
      go_roundg g1
      case measure=>omega
      case rel=>exact⟨k+1,by omega,by go_num,by first | (rw[HSX.o]) | (rw[HSX.o];go_num),HG⟩
    ·obtain rfl:k=ls.length:=by omega
     have htl:ls.take ls.length=ls:=List.take_length
     rw[htl] at htk
     have hN:=HN.o
     have hfin:flatT ls.flatten=cur:=by
      rw[<- htk,List.take_of_length_le (by omega)]
     have hrow:tokR.row wr (fun q=>w.heap.size<=q) (some ⟨wo.heap.size,0,none⟩) ls.flatten:=Rp.x1k hblk hg1 (by rw[List.toList_toArray,<- hfin];exact reps_flatT _ _ _)
     have HRW:=mK hrow
     have HP2:=mK hp
     have HLN:=mK (show ls.flatten.length=N by rw[flatten_len,hN])
     rw[htl]
     clear htl htk hN hfin hrow hp hblk hcl hg1 hg2 HT
     go_wp2
     go_ret
     exact⟨⟨_,by rw[HLN.o];rfl,HRW.o⟩,HP2.o⟩
theorem row_take {w:World} {F:Nat->Prop} {A:Option Addr} {l:List Tok} (h:tokR.row w F A l) (n:Nat):tokR.row w F A (l.take n):=by
 rcases h with rfl | ⟨b,o,hA,hF,hb,hc⟩
 ·exact .inl (by simp)
 ·refine .inr ⟨b,o,hA,hF,hb,fun j x hx=>hc j x ?_⟩
  rw[List.getElem?_take] at hx
  split at hx
  ·exact hx
  ·cases hx
theorem row_drop {w:World} {F:Nat->Prop} {b o:Nat} {l:List Tok} (h:tokR.row w F (some ⟨b,o,none⟩) l) (n:Nat):tokR.row w F (some ⟨b,o+n * 4,none⟩) (l.drop n):=by
 rcases h with rfl | ⟨b',o',hA,hF,hb,hc⟩
 ·exact .inl (by simp)
 ·simp only[Option.some.injEq,Addr.mk.injEq,and_true] at hA
  obtain⟨rfl,rfl⟩:=hA
  refine .inr ⟨b,o+n * 4,rfl,hF,hb,fun j x hx=>?_⟩
  rw[List.getElem?_drop] at hx
  obtain⟨cs,h1,h2⟩:=hc _ _ hx
  refine⟨cs,h1,fun i u hu=>?_⟩
  have:=h2 i u hu
  rw[show tokR.sz=4 from rfl] at this ⊢
  rw[show o+n * 4+j * 4+i=o+(n+j) * 4+i by omega]
  exact this
/-- A slice value of tokens, wherever it lies. -/
def TokS (w:World) (F:Nat->Prop) (v:Value) (l:List Tok):Prop:=∃ A c,v=.slice A l.length c/\l.length<=c/\tokR.row w F A l
/-- The slices' box is a row of lists. -/
theorem toks_box {w:World} {F:Nat->Prop} {vs:List Value} {ls:List (List Tok)} {b:Nat} {e:TypeId} {fr:Nat × Nat} (hb:w.heap[b]?=some (.cells vs.toArray e fr)) (hF:F b) (hl:vs.length=ls.length) (h:∀ (j:Nat) (v:Value) (x:List Tok),vs[j]?=some v->ls[j]?=some x->TokS w F v x):toksR.row w F (some ⟨b,0,none⟩) ls:=by
 refine Rp.x1k hb hF ⟨by rw[List.toList_toArray,hl];show ls.length=ls.length * 1;omega,fun j x hx=>?_⟩
 have hj:j < vs.length:=by rw[hl];exact(List.getElem?_eq_some_iff.1 hx).1
 obtain⟨A,c,hv,hlc,hr⟩:=h j vs[j] x (List.getElem?_eq_getElem hj) hx
 refine⟨A,c,?_,hlc,hr⟩
 rw[List.toList_toArray,show toksR.sz=1 from rfl,Nat.mul_one,<- hv]
 rw[List.drop_eq_getElem_cons hj]
 rfl
theorem TokS.pure {w w1:World} {F:Nat->Prop} {v:Value} {l:List Tok} (h:TokS w F v l) (hu:Pure w w1):TokS w1 F v l:=by
 obtain⟨A,c,h1,h2,h3⟩:=h
 exact⟨A,c,h1,h2,Rp.x01 h3 hu⟩
theorem TokS.fp {w:World} {F:Nat->Prop} {v:Value} {l:List Tok} (h:TokS w F v l):TokS w (fun _=>True) v l:=by
 obtain⟨A,c,h1,h2,h3⟩:=h
 exact⟨A,c,h1,h2,Rp.x09 h3 (fun _ _=>trivial)⟩
theorem TokS.take {w:World} {F:Nat->Prop} {A:Option Addr} {c n m:Nat} {l:List Tok} (h:tokR.row w F A l) (hn:n<=l.length) (hc:l.length<=c) (hm:n=m):TokS w F (.slice A m c) (l.take n):=by
 subst hm
 exact⟨A,c,by rw[List.length_take,Nat.min_eq_left hn],by rw[List.length_take];omega,row_take h n⟩
theorem TokS.drop {w:World} {F:Nat->Prop} {b o:Nat} {c n m c':Nat} {l:List Tok} (h:tokR.row w F (some ⟨b,o,none⟩) l) (hn:n<=l.length) (hc:l.length<=c) (hm:l.length - n=m) (hc':c - n=c'):TokS w F (.slice (some ⟨b,o+n * 4,none⟩) m c') (l.drop n):=by
 subst hm hc'
 exact⟨_,c - n,by rw[List.length_drop],by rw[List.length_drop];omega,row_drop h n⟩
theorem TokS.end {w:World} {F:Nat->Prop} {A:Option Addr} {n:Nat} {l:List Tok} (hn:l.length<=n):TokS w F (.slice A 0 0) (l.drop n):=by
 rw[List.drop_eq_nil_of_le hn]
 exact⟨A,0,rfl,Nat.le_refl _,.inl rfl⟩
theorem TokS.whole {w:World} {F:Nat->Prop} {A:Option Addr} {c n:Nat} {l:List Tok} (h:tokR.row w F A l) (hc:l.length<=c) (hn:l.length=n):TokS w F (.slice A n c) l:=by
 subst hn
 exact⟨A,c,rfl,hc,h⟩
theorem TokS.mid {w:World} {F:Nat->Prop} {b o:Nat} {c g h m c':Nat} {l:List Tok} (hr:tokR.row w F (some ⟨b,o,none⟩) l) (hh:h<=l.length) (hc:l.length<=c) (hm:h - g=m) (hc':c - g=c'):TokS w F (.slice (some ⟨b,o+g * 4,none⟩) m c') ((l.take h).drop g):=by
 subst hm hc'
 exact⟨_,c - g,by rw[List.length_drop,List.length_take];congr 1;omega,by rw[List.length_drop,List.length_take];omega,row_drop (row_take hr h) g⟩
theorem TokS.cut {w:World} {F:Nat->Prop} {b o:Nat} {c n m c':Nat} {l:List Tok} (h:tokR.row w F (some ⟨b,o,none⟩) l) (hn:n<=l.length) (hc:l.length<=c) (hm:l.length - n=m) (hc':c - n=c'):TokS w F (.slice (if c=n then some ⟨b,o,none⟩ else some ⟨b,o+n * 4,none⟩) m c') (l.drop n):=by
 split
 ·rename_i e
  subst hm hc'
  rw[show l.length - n=0 by omega,show c - n=0 by omega]
  exact TokS.end (by omega)
 ·exact TokS.drop h hn hc hm hc'
theorem tokens3 {w:World} {F0 F1 F2:Nat->Prop} {x0 x1 x2:List Tok} (hb:x0.length+x1.length+x2.length<=1048576) (W:World) (hu:Pure w W) {v0 v1 v2:Value} {blk:Nat} {e:TypeId} {fr:Nat × Nat} (hblk:W.heap[blk]?=some (.cells #[v0,v1,v2] e fr)) (h0:TokS w F0 v0 x0) (h1:TokS w F1 v1 x1) (h2:TokS w F2 v2 x2) :
 Calls Tryz.prog 153 #[.slice (some ⟨blk,0,none⟩) 3 3] W fun r w'=>(∃ B,r=.returned (.slice (some B) (x0 ++ (x1 ++ x2)).length (x0 ++ (x1 ++ x2)).length)/\tokR.row w' (fun k=>W.heap.size<=k) (some B) (x0 ++ (x1 ++ x2)))/\Pure W w':=by
 have hr:toksR.row W (fun _=>True) (some ⟨blk,0,none⟩) [x0,x1,x2]:=toks_box (vs:=[v0,v1,v2]) hblk trivial rfl (fun j v x hv hx=>by
  match j,hv,hx with
  | 0,hv,hx=>simp at hv hx;subst hv hx;exact(h0.pure hu).fp
  | 1,hv,hx=>simp at hv hx;subst hv hx;exact(h1.pure hu).fp
  | 2,hv,hx=>simp at hv hx;subst hv hx;exact(h2.pure hu).fp
  | j+3,hv,hx=>simp at hv)
 have h:=tokens_calls (c:=3) hr (Nat.le_refl _) (by simp) (by simp[sumL];omega)
 have e:([x0,x1,x2]:List (List Tok)).flatten=x0 ++ (x1 ++ x2):=by simp
 rw[e] at h
 exact h
/-- A fresh row of tokens is answered. -/
def Fresh (w:World) (l:List Tok) (r:Ending) (w':World):Prop:=(∃ B,r=.returned (.slice (some B) l.length l.length)/\tokR.row w' (fun k=>w.heap.size<=k) (some B) l)/\Pure w w'
theorem Fresh.of {w W:World} {l:List Tok} {r:Ending} {w':World} (hu:Pure w W) {B:Addr} {n:Nat} (hr:r=.returned (.slice (some B) n n)) (hn:l.length=n) (hrow:tokR.row w' (fun k=>W.heap.size<=k) (some B) l) (hp:Pure W w'):Fresh w l r w':=by
 subst hn
 exact⟨⟨B,hr,Rp.x09 hrow (fun k h=>Nat.le_trans hu.size h)⟩,hu.tt hp⟩
theorem do_repl_some {w:World} {F G:Nat->Prop} {b o:Nat} {A B:Option Addr} {c cb:Nat} {l sl:List Tok} {p q:Nat} (hr:tokR.row w F (some ⟨b,o,none⟩) l) (hlc:l.length<=c) (hs:tokR.row w G B sl) (hsc:sl.length<=cb) (hb:l.length+sl.length<=100000) (hp:p<=q) (hq:q<=l.length) :
 Calls Tryz.prog 116 #[.slice (some ⟨b,o,none⟩) l.length c,(repl p q sl).val B cb] w (Fresh w (l.take p ++ (sl ++ l.drop q))):=by
 have hbox:=Upd.alloc1 (fun _=>False) w (.cells #[.int .i64 0,.int .i64 (p:Nat),.int .i64 (q:Nat),.int .i64 0,.int .i64 0,.int .i64 0,.slice B sl.length cb,.int .i64 0] 46)
 have hblk:=heap_alloc_new w (.cells #[.int .i64 0,.int .i64 (p:Nat),.int .i64 (q:Nat),.int .i64 0,.int .i64 0,.int .i64 0,.slice B sl.length cb,.int .i64 0] 46)
 have h1:=TokS.take (m:=p) hr (by omega) hlc rfl
 have h2:=TokS.whole hs hsc rfl
 have h3:=TokS.cut (m:=l.length - q) (c':=c - q) hr hq hlc rfl rfl
 have HT:=mK (fun (W:World) (hu:Pure w W) (blk:Nat) (e:TypeId) (fr:Nat × Nat) hblk=>tokens3 (x0:=l.take p) (x1:=sl) (x2:=l.drop q) (by rw[List.length_take,List.length_drop];omega) W hu (blk:=blk) (e:=e) (fr:=fr) hblk h1 h2 h3)
 have HB:=mK hbox
 have HBK:=mK (fun (cs:Array Value) (T:TypeId)=>(by
  have h:=heap_alloc_new (w.alloc (.cells #[.int .i64 0,.int .i64 (p:Nat),.int .i64 (q:Nat),.int .i64 0,.int .i64 0,.int .i64 0,.slice B sl.length cb,.int .i64 0] 46)) (.cells cs T)
  rw[World.size_alloc] at h
  exact h:(((w.alloc (.cells #[.int .i64 0,.int .i64 (p:Nat),.int .i64 (q:Nat),.int .i64 0,.int .i64 0,.int .i64 0,.slice B sl.length cb,.int .i64 0] 46)).alloc (.cells cs T)).drew).heap[w.heap.size+1]?=some (.cells cs T (0,0))))
 have q0:∀ v,Pure (w.alloc (.cells #[.int .i64 0,.int .i64 (p:Nat),.int .i64 (q:Nat),.int .i64 0,.int .i64 0,.int .i64 0,.slice B sl.length cb,.int .i64 0] 46)) v->v.cell? ⟨w.heap.size,1,none⟩=some (.int .i64 (p:Nat))/\v.cell? ⟨w.heap.size,2,none⟩=some (.int .i64 (q:Nat))/\v.cell? ⟨w.heap.size,6,none⟩=some (.slice B sl.length cb):=fun v hu=>by
  have:=(hu.block w.heap.size (by simp) (fun h=>h)).trans hblk
  refine⟨?_,?_,?_⟩ <;> (unfold World.cell?;simp only[this];rfl)
 have HQ:=mK q0
 have i1:(0:Int)<=((p:Nat):Int):=by omega
 have i2:((p:Nat):Int)<=((c:Nat):Int):=by omega
 have i3:(0:Int)<=((q:Nat):Int):=by omega
 have i4:((q:Nat):Int)<=((l.length:Nat):Int):=by omega
 have i5:((q:Nat):Int)<=((c:Nat):Int):=by omega
 have i6:((l.length:Nat):Int)<=((c:Nat):Int):=by omega
 clear hr hs h1 h2 h3 hbox hblk q0
 unfold StepD.val repl
 go_enter Tryz.func116,Tryz.ntmps116
 go_wp2
 refine x0m (P:=Tryz.prog) (fun v=>v.cell? ⟨w.heap.size,1,none⟩=some (.int .i64 (p:Nat))/\v.cell? ⟨w.heap.size,2,none⟩=some (.int .i64 (q:Nat))/\v.cell? ⟨w.heap.size,6,none⟩=some (.slice B sl.length cb)) 12 (by kernel_rfl) ?_ (fun hHeld=>?_)
 ·first | exact HQ.o _ (rU.drew) | exact HQ.o _ ((rU.alloc _).drew) | exact HQ.o _ (((rU.alloc _).drew).tt hu3)
 refine zT 0 ?_
 refine zT 1 ?_
 refine zT 2 ?_
 refine zT 3 ?_
 (try simp only[Act.put,sA,sB,sC])
 refine zT 4 ?_
 refine zT 5 ?_
 refine zT 6 ?_
 refine zT 7 ?_
 (try simp only[Act.put,sA,sB,sC])
 refine zT 8 ?_
 refine zT 9 ?_
 refine oT 10 (fun K hK=>?_)
 go_simp
 refine hK.out _ _ (fun _=>by first | exact HQ.o _ (rU.drew) | exact HQ.o _ ((rU.alloc _).drew) | exact HQ.o _ (((rU.alloc _).drew).tt hu3)) (fun hHeld=>?_)
 replace hHeld:=hHeld (by decide)
 clear hK K
 (try simp only[Act.put,sA,sB,sC])
 refine oT 11 (fun K hK=>?_)
 go_simp
 (go_at_call 153;with_reducible refine(HT.o _ ((HB.o.alloc _).drew) _ _ _ (HBK.o _ _)).mono ?_;rintro e w3 ⟨⟨B3,rfl,hrow3⟩,hu3⟩)
 refine hK.out _ _ (fun _=>by first | exact HQ.o _ (rU.drew) | exact HQ.o _ ((rU.alloc _).drew) | exact HQ.o _ (((rU.alloc _).drew).tt hu3)) (fun hHeld=>?_)
 replace hHeld:=hHeld (by decide)
 clear hK K
 (try simp only[Act.put,sA,sB,sC])
 refine oT 12 (fun K hK=>?_)
 go_simp
 refine hK.out _ _ (fun h=>absurd rfl h) (fun hHeld=>?_)
 clear hK K
 (try simp only[Act.put,sA,sB,sC])
 refine x0l (by kernel_rfl) ?_ _
 go_wp2
 all_goals go_ret
 all_goals exact Fresh.of ((HB.o.alloc _).drew) rfl (by first | (simp;done) | (simp;omega)) hrow3 hu3
theorem tokens5 {w:World} {F0 F1 F2 F3 F4:Nat->Prop} {x0 x1 x2 x3 x4:List Tok} (hb:x0.length+x1.length+x2.length+x3.length+x4.length<=1048576) (W:World) (hu:Pure w W) {v0 v1 v2 v3 v4:Value} {blk:Nat} {e:TypeId} {fr:Nat × Nat} (hblk:W.heap[blk]?=some (.cells #[v0,v1,v2,v3,v4] e fr)) (h0:TokS w F0 v0 x0) (h1:TokS w F1 v1 x1) (h2:TokS w F2 v2 x2) (h3:TokS w F3 v3 x3) (h4:TokS w F4 v4 x4) :
 Calls Tryz.prog 153 #[.slice (some ⟨blk,0,none⟩) 5 5] W fun r w'=>(∃ B,r=.returned (.slice (some B) (x0 ++ (x1 ++ (x2 ++ (x3 ++ x4)))).length (x0 ++ (x1 ++ (x2 ++ (x3 ++ x4)))).length)/\tokR.row w' (fun k=>W.heap.size<=k) (some B) (x0 ++ (x1 ++ (x2 ++ (x3 ++ x4)))))/\Pure W w':=by
 have hr:toksR.row W (fun _=>True) (some ⟨blk,0,none⟩) [x0,x1,x2,x3,x4]:=toks_box (vs:=[v0,v1,v2,v3,v4]) hblk trivial rfl (fun j v x hv hx=>by
  match j,hv,hx with
  | 0,hv,hx=>simp at hv hx;subst hv hx;exact(h0.pure hu).fp
  | 1,hv,hx=>simp at hv hx;subst hv hx;exact(h1.pure hu).fp
  | 2,hv,hx=>simp at hv hx;subst hv hx;exact(h2.pure hu).fp
  | 3,hv,hx=>simp at hv hx;subst hv hx;exact(h3.pure hu).fp
  | 4,hv,hx=>simp at hv hx;subst hv hx;exact(h4.pure hu).fp
  | j+5,hv,hx=>simp at hv)
 have h:=tokens_calls (c:=5) hr (Nat.le_refl _) (by simp) (by simp[sumL];omega)
 have e:([x0,x1,x2,x3,x4]:List (List Tok)).flatten=x0 ++ (x1 ++ (x2 ++ (x3 ++ x4))):=by simp
 rw[e] at h
 exact h
theorem do_arnd_some {w:World} {F G:Nat->Prop} {b o b2 o2:Nat} {c cb:Nat} {l sl:List Tok} {p q g h n:Nat} (hr:tokR.row w F (some ⟨b,o,none⟩) l) (hlc:l.length<=c) (hs:tokR.row w G (some ⟨b2,o2,none⟩) sl) (hsc:sl.length<=cb) (hb:l.length+sl.length<=100000) (hn:n<=sl.length) (hp:p<=g) (hg:g < h) (hh:h<=q) (hq:q<=l.length) :
 Calls Tryz.prog 116 #[.slice (some ⟨b,o,none⟩) l.length c,(arnd p q g h (n:Nat) sl).val (some ⟨b2,o2,none⟩) cb] w (Fresh w (l.take p ++ (sl.take n ++ ((l.take h).drop g ++ (sl.drop n ++ l.drop q))))):=by
 have hbox:=Upd.alloc1 (fun _=>False) w (.cells #[.int .i64 1,.int .i64 (p:Nat),.int .i64 (q:Nat),.int .i64 (g:Nat),.int .i64 (h:Nat),.int .i64 (n:Nat),.slice (some ⟨b2,o2,none⟩) sl.length cb,.int .i64 0] 46)
 have hblk:=heap_alloc_new w (.cells #[.int .i64 1,.int .i64 (p:Nat),.int .i64 (q:Nat),.int .i64 (g:Nat),.int .i64 (h:Nat),.int .i64 (n:Nat),.slice (some ⟨b2,o2,none⟩) sl.length cb,.int .i64 0] 46)
 have h1:=TokS.take (m:=p) hr (by omega) hlc rfl
 have h2:=TokS.take (m:=n) hs (by omega) hsc rfl
 have h3:=TokS.mid (g:=g) (h:=h) (m:=h - g) (c':=c - g) hr (by omega) hlc rfl rfl
 have h4:=TokS.cut (n:=n) (m:=sl.length - n) (c':=cb - n) hs (by omega) hsc rfl rfl
 have h5:=TokS.cut (n:=q) (m:=l.length - q) (c':=c - q) hr hq hlc rfl rfl
 have HT:=mK (fun (W:World) (hu:Pure w W) (blk:Nat) (e:TypeId) (fr:Nat × Nat) hblk=>tokens5 (x0:=l.take p) (x1:=sl.take n) (x2:=(l.take h).drop g) (x3:=sl.drop n) (x4:=l.drop q) (by simp only[List.length_take,List.length_drop,List.length_nil];omega) W hu (blk:=blk) (e:=e) (fr:=fr) hblk h1 h2 h3 h4 h5)
 have HB:=mK hbox
 have HBK:=mK (fun (cs:Array Value) (T:TypeId)=>(by
  have h:=heap_alloc_new (w.alloc (.cells #[.int .i64 1,.int .i64 (p:Nat),.int .i64 (q:Nat),.int .i64 (g:Nat),.int .i64 (h:Nat),.int .i64 (n:Nat),.slice (some ⟨b2,o2,none⟩) sl.length cb,.int .i64 0] 46)) (.cells cs T)
  rw[World.size_alloc] at h
  exact h:(((w.alloc (.cells #[.int .i64 1,.int .i64 (p:Nat),.int .i64 (q:Nat),.int .i64 (g:Nat),.int .i64 (h:Nat),.int .i64 (n:Nat),.slice (some ⟨b2,o2,none⟩) sl.length cb,.int .i64 0] 46)).alloc (.cells cs T)).drew).heap[w.heap.size+1]?=some (.cells cs T (0,0))))
 have q0:∀ v,Pure (w.alloc (.cells #[.int .i64 1,.int .i64 (p:Nat),.int .i64 (q:Nat),.int .i64 (g:Nat),.int .i64 (h:Nat),.int .i64 (n:Nat),.slice (some ⟨b2,o2,none⟩) sl.length cb,.int .i64 0] 46)) v->(fun v=>v.cell? ⟨w.heap.size,0,none⟩=some (.int .i64 1)/\v.cell? ⟨w.heap.size,1,none⟩=some (.int .i64 (p:Nat))/\v.cell? ⟨w.heap.size,2,none⟩=some (.int .i64 (q:Nat))/\v.cell? ⟨w.heap.size,3,none⟩=some (.int .i64 (g:Nat))/\v.cell? ⟨w.heap.size,4,none⟩=some (.int .i64 (h:Nat))/\v.cell? ⟨w.heap.size,5,none⟩=some (.int .i64 (n:Nat))/\v.cell? ⟨w.heap.size,6,none⟩=some (.slice (some ⟨b2,o2,none⟩) sl.length cb)) v:=fun v hu=>by
  have:=(hu.block w.heap.size (by simp) (fun h=>h)).trans hblk
  refine⟨?_,?_,?_,?_,?_,?_,?_⟩ <;> (unfold World.cell?;simp only[this];rfl)
 have HQ:=mK q0
 have i1:(0:Int)<=((p:Nat):Int):=by omega
 have i2:((p:Nat):Int)<=((c:Nat):Int):=by omega
 have i3:(0:Int)<=((q:Nat):Int):=by omega
 have i4:((q:Nat):Int)<=((l.length:Nat):Int):=by omega
 have i5:((q:Nat):Int)<=((c:Nat):Int):=by omega
 have i6:((l.length:Nat):Int)<=((c:Nat):Int):=by omega
 have i7:(0:Int)<=((g:Nat):Int):=by omega
 have i8:((g:Nat):Int)<=((h:Nat):Int):=by omega
 have i9:((h:Nat):Int)<=((c:Nat):Int):=by omega
 have j1:(0:Int)<=((h:Nat):Int):=by omega
 have j2:¬ c=g:=by omega
 have k1:(0:Int)<=((n:Nat):Int):=by omega
 have k2:((n:Nat):Int)<=((cb:Nat):Int):=by omega
 have k3:((n:Nat):Int)<=((sl.length:Nat):Int):=by omega
 have k4:((sl.length:Nat):Int)<=((cb:Nat):Int):=by omega
 clear hr h1 h2 h3 h4 h5 hbox hblk q0 hs
 unfold StepD.val arnd
 go_enter Tryz.func116,Tryz.ntmps116
 go_wp2
 refine x0m (P:=Tryz.prog) (fun v=>v.cell? ⟨w.heap.size,0,none⟩=some (.int .i64 1)/\v.cell? ⟨w.heap.size,1,none⟩=some (.int .i64 (p:Nat))/\v.cell? ⟨w.heap.size,2,none⟩=some (.int .i64 (q:Nat))/\v.cell? ⟨w.heap.size,3,none⟩=some (.int .i64 (g:Nat))/\v.cell? ⟨w.heap.size,4,none⟩=some (.int .i64 (h:Nat))/\v.cell? ⟨w.heap.size,5,none⟩=some (.int .i64 (n:Nat))/\v.cell? ⟨w.heap.size,6,none⟩=some (.slice (some ⟨b2,o2,none⟩) sl.length cb)) 26 (by kernel_rfl) ?_ (fun hHeld=>?_)
 ·first | exact HQ.o _ (rU.drew) | exact HQ.o _ ((rU.alloc _).drew) | exact HQ.o _ (((rU.alloc _).drew).tt hu3)
 refine zT 0 ?_
 refine zT 1 ?_
 refine zT 2 ?_
 refine zT 3 ?_
 refine zT 4 ?_
 refine zT 5 ?_
 (try simp only[Act.put,sA,sB,sC])
 refine zT 6 ?_
 refine zT 7 ?_
 refine zT 8 ?_
 refine zT 9 ?_
 (try simp only[Act.put,sA,sB,sC])
 refine zT 10 ?_
 refine zT 11 ?_
 refine zT 12 ?_
 refine zT 13 ?_
 (try simp only[Act.put,sA,sB,sC])
 refine zT 14 ?_
 refine zT 15 ?_
 refine zT 16 ?_
 refine zT 17 ?_
 (try simp only[Act.put,sA,sB,sC])
 refine zT 18 ?_
 refine zT 19 ?_
 refine zT 20 ?_
 refine zT 21 ?_
 (try simp only[Act.put,sA,sB,sC])
 refine zT 22 ?_
 refine zT 23 ?_
 refine oT 24 (fun K hK=>?_)
 go_simp
 refine hK.out _ _ (fun _=>by first | exact HQ.o _ (rU.drew) | exact HQ.o _ ((rU.alloc _).drew) | exact HQ.o _ (((rU.alloc _).drew).tt hu3)) (fun hHeld=>?_)
 replace hHeld:=hHeld (by decide)
 clear hK K
 (try simp only[Act.put,sA,sB,sC])
 refine oT 25 (fun K hK=>?_)
 go_simp
 (go_at_call 153;with_reducible refine(HT.o _ ((HB.o.alloc _).drew) _ _ _ (HBK.o _ _)).mono ?_;rintro e w3 ⟨⟨B3,rfl,hrow3⟩,hu3⟩)
 refine hK.out _ _ (fun _=>by first | exact HQ.o _ (rU.drew) | exact HQ.o _ ((rU.alloc _).drew) | exact HQ.o _ (((rU.alloc _).drew).tt hu3)) (fun hHeld=>?_)
 replace hHeld:=hHeld (by decide)
 clear hK K
 (try simp only[Act.put,sA,sB,sC])
 refine oT 26 (fun K hK=>?_)
 go_simp
 refine hK.out _ _ (fun h=>absurd rfl h) (fun hHeld=>?_)
 clear hK K
 (try simp only[Act.put,sA,sB,sC])
 refine x0l (by kernel_rfl) ?_ _
 go_wp2
 all_goals go_ret
 all_goals exact Fresh.of ((HB.o.alloc _).drew) rfl (by first | (simp;done) | (simp;omega)) hrow3 hu3
theorem do_arnd_none {w:World} {F:Nat->Prop} {b o:Nat} {c:Nat} {l:List Tok} {p q g h:Nat} (hr:tokR.row w F (some ⟨b,o,none⟩) l) (hlc:l.length<=c) (hb:l.length<=100000) (hp:p<=g) (hg:g < h) (hh:h<=q) (hq:q<=l.length) :
 Calls Tryz.prog 116 #[.slice (some ⟨b,o,none⟩) l.length c,(arnd p q g h 0 []).val none 0] w (Fresh w (l.take p ++ ((l.take h).drop g ++ l.drop q))):=by
 have hbox:=Upd.alloc1 (fun _=>False) w (.cells #[.int .i64 1,.int .i64 (p:Nat),.int .i64 (q:Nat),.int .i64 (g:Nat),.int .i64 (h:Nat),.int .i64 0,.slice none 0 0,.int .i64 0] 46)
 have hblk:=heap_alloc_new w (.cells #[.int .i64 1,.int .i64 (p:Nat),.int .i64 (q:Nat),.int .i64 (g:Nat),.int .i64 (h:Nat),.int .i64 0,.slice none 0 0,.int .i64 0] 46)
 have h1:=TokS.take (m:=p) hr (by omega) hlc rfl
 have h2:=(⟨none,0,rfl,Nat.le_refl _,.inl rfl⟩:TokS w (fun _=>True) (.slice none 0 0) ([]:List Tok))
 have h3:=TokS.mid (g:=g) (h:=h) (m:=h - g) (c':=c - g) hr (by omega) hlc rfl rfl
 have h4:=h2
 have h5:=TokS.cut (n:=q) (m:=l.length - q) (c':=c - q) hr hq hlc rfl rfl
 have HT:=mK (fun (W:World) (hu:Pure w W) (blk:Nat) (e:TypeId) (fr:Nat × Nat) hblk=>tokens5 (x0:=l.take p) (x1:=[]) (x2:=(l.take h).drop g) (x3:=[]) (x4:=l.drop q) (by simp only[List.length_take,List.length_drop,List.length_nil];omega) W hu (blk:=blk) (e:=e) (fr:=fr) hblk h1 h2 h3 h4 h5)
 simp only[List.nil_append] at HT
 have HB:=mK hbox
 have HBK:=mK (fun (cs:Array Value) (T:TypeId)=>(by
  have h:=heap_alloc_new (w.alloc (.cells #[.int .i64 1,.int .i64 (p:Nat),.int .i64 (q:Nat),.int .i64 (g:Nat),.int .i64 (h:Nat),.int .i64 0,.slice none 0 0,.int .i64 0] 46)) (.cells cs T)
  rw[World.size_alloc] at h
  exact h:(((w.alloc (.cells #[.int .i64 1,.int .i64 (p:Nat),.int .i64 (q:Nat),.int .i64 (g:Nat),.int .i64 (h:Nat),.int .i64 0,.slice none 0 0,.int .i64 0] 46)).alloc (.cells cs T)).drew).heap[w.heap.size+1]?=some (.cells cs T (0,0))))
 have q0:∀ v,Pure (w.alloc (.cells #[.int .i64 1,.int .i64 (p:Nat),.int .i64 (q:Nat),.int .i64 (g:Nat),.int .i64 (h:Nat),.int .i64 0,.slice none 0 0,.int .i64 0] 46)) v->(fun v=>v.cell? ⟨w.heap.size,0,none⟩=some (.int .i64 1)/\v.cell? ⟨w.heap.size,1,none⟩=some (.int .i64 (p:Nat))/\v.cell? ⟨w.heap.size,2,none⟩=some (.int .i64 (q:Nat))/\v.cell? ⟨w.heap.size,3,none⟩=some (.int .i64 (g:Nat))/\v.cell? ⟨w.heap.size,4,none⟩=some (.int .i64 (h:Nat))/\v.cell? ⟨w.heap.size,5,none⟩=some (.int .i64 0)/\v.cell? ⟨w.heap.size,6,none⟩=some (.slice none 0 0)) v:=fun v hu=>by
  have:=(hu.block w.heap.size (by simp) (fun h=>h)).trans hblk
  refine⟨?_,?_,?_,?_,?_,?_,?_⟩ <;> (unfold World.cell?;simp only[this];rfl)
 have HQ:=mK q0
 have i1:(0:Int)<=((p:Nat):Int):=by omega
 have i2:((p:Nat):Int)<=((c:Nat):Int):=by omega
 have i3:(0:Int)<=((q:Nat):Int):=by omega
 have i4:((q:Nat):Int)<=((l.length:Nat):Int):=by omega
 have i5:((q:Nat):Int)<=((c:Nat):Int):=by omega
 have i6:((l.length:Nat):Int)<=((c:Nat):Int):=by omega
 have i7:(0:Int)<=((g:Nat):Int):=by omega
 have i8:((g:Nat):Int)<=((h:Nat):Int):=by omega
 have i9:((h:Nat):Int)<=((c:Nat):Int):=by omega
 have j1:(0:Int)<=((h:Nat):Int):=by omega
 have j2:¬ c=g:=by omega
 clear hr h1 h2 h3 h4 h5 hbox hblk q0
 unfold StepD.val arnd
 go_enter Tryz.func116,Tryz.ntmps116
 go_wp2
 refine x0m (P:=Tryz.prog) (fun v=>v.cell? ⟨w.heap.size,0,none⟩=some (.int .i64 1)/\v.cell? ⟨w.heap.size,1,none⟩=some (.int .i64 (p:Nat))/\v.cell? ⟨w.heap.size,2,none⟩=some (.int .i64 (q:Nat))/\v.cell? ⟨w.heap.size,3,none⟩=some (.int .i64 (g:Nat))/\v.cell? ⟨w.heap.size,4,none⟩=some (.int .i64 (h:Nat))/\v.cell? ⟨w.heap.size,5,none⟩=some (.int .i64 0)/\v.cell? ⟨w.heap.size,6,none⟩=some (.slice none 0 0)) 26 (by kernel_rfl) ?_ (fun hHeld=>?_)
 ·first | exact HQ.o _ (rU.drew) | exact HQ.o _ ((rU.alloc _).drew) | exact HQ.o _ (((rU.alloc _).drew).tt hu3)
 refine zT 0 ?_
 refine zT 1 ?_
 refine zT 2 ?_
 refine zT 3 ?_
 refine zT 4 ?_
 refine zT 5 ?_
 refine zT 6 ?_
 (try simp only[Act.put,sA,sB,sC])
 refine zT 7 ?_
 refine zT 8 ?_
 refine zT 9 ?_
 refine zT 10 ?_
 (try simp only[Act.put,sA,sB,sC])
 refine zT 11 ?_
 refine zT 12 ?_
 refine zT 13 ?_
 refine zT 14 ?_
 (try simp only[Act.put,sA,sB,sC])
 refine zT 15 ?_
 refine zT 16 ?_
 refine zT 17 ?_
 refine zT 18 ?_
 (try simp only[Act.put,sA,sB,sC])
 refine zT 19 ?_
 refine zT 20 ?_
 refine zT 21 ?_
 refine zT 22 ?_
 (try simp only[Act.put,sA,sB,sC])
 refine zT 23 ?_
 refine oT 24 (fun K hK=>?_)
 go_simp
 refine hK.out _ _ (fun _=>by first | exact HQ.o _ (rU.drew) | exact HQ.o _ ((rU.alloc _).drew) | exact HQ.o _ (((rU.alloc _).drew).tt hu3)) (fun hHeld=>?_)
 replace hHeld:=hHeld (by decide)
 clear hK K
 (try simp only[Act.put,sA,sB,sC])
 refine oT 25 (fun K hK=>?_)
 go_simp
 (go_at_call 153;with_reducible refine(HT.o _ ((HB.o.alloc _).drew) _ _ _ (HBK.o _ _)).mono ?_;rintro e w3 ⟨⟨B3,rfl,hrow3⟩,hu3⟩)
 refine hK.out _ _ (fun _=>by first | exact HQ.o _ (rU.drew) | exact HQ.o _ ((rU.alloc _).drew) | exact HQ.o _ (((rU.alloc _).drew).tt hu3)) (fun hHeld=>?_)
 replace hHeld:=hHeld (by decide)
 clear hK K
 (try simp only[Act.put,sA,sB,sC])
 refine oT 26 (fun K hK=>?_)
 go_simp
 refine hK.out _ _ (fun h=>absurd rfl h) (fun hHeld=>?_)
 clear hK K
 (try simp only[Act.put,sA,sB,sC])
 refine x0l (by kernel_rfl) ?_ _
 go_wp2
 all_goals go_ret
 all_goals exact Fresh.of ((HB.o.alloc _).drew) rfl (by first | (simp;done) | (simp;omega)) hrow3 hu3
/-- A row of tokens that the call made is answered. -/
def Told9 (w:World) (l:List Tok) (r:Ending) (w':World):Prop:=(∃ A c,r=.returned (.slice A l.length c)/\l.length<=c/\tokR.row w' (fun k=>w.heap.size<=k) A l)/\Pure w w'
theorem Told9.of {l:List Tok} {r:Ending} {w':World} (hu:Pure w W) {A:Option Addr} {n c:Nat} (hr:r=.returned (.slice A n c)) (hn:l.length=n) (hc:l.length<=c) (hrow:tokR.row w' (fun k=>W.heap.size<=k) A l) (hp:Pure W w'):Told9 w l r w':=by
 subst hn
 exact⟨⟨A,c,hr,hc,Rp.x09 hrow (fun k h=>Nat.le_trans hu.size h)⟩,hu.tt hp⟩
theorem join9_calls {ls:List (List Tok)} (hr:toksR.row w F A ls) (hlc:ls.length<=c) (hl:ls.length<=1000) (hb:sumL ls<=1048576 * 8) :
 Calls Tryz.prog 204 #[.slice A ls.length c] w (Told9 w ls.flatten):=by
 have HR:=mK hr
 have HF:=mK (fun k=>show (ls.take k).flatten.length<=1048576 * 8 from by rw[flatten_len];exact Nat.le_trans (sumL_le ls k) hb)
 have H0:=mK (show tokR.own 71 w (fun q=>w.heap.size<=q) (.slice none 0 0) (ls.take 0).flatten from by rw[List.take_zero];exact Rp.x0v _ _ _ _)
 clear hr hb
 go_enter Tryz.func204,Tryz.ntmps204
 go_wp2
 go_loopg [3,4] ls.length (fun gg v i wr=>∃ k:Nat,k+gg=ls.length/\i=.int .i64 k/\As (tokR.own 71 wr (fun q=>w.heap.size<=q) v (ls.take k).flatten)/\As (Pure w wr))
 case atStart=>exact⟨0,by omega,rfl,H0,⟨Upd.refl _ _⟩⟩
 case round=>
  clear H0
  obtain⟨k,hk,rfl,HO,HP⟩:=hrel
  by_cases hlt:k < ls.length
  ·obtain⟨x,hx⟩:=gS hlt
   obtain⟨b,o,B,cx,rfl,hF,hbl,hcx,hrow,hcell⟩:=toks_at (Rp.x01 HR.o HP.o) hx
   obtain⟨g1,rfl⟩:=sC1 (by omega:0 < gk)
   have HT:=mK (flatten_take hx)
   have HXR:=mK hrow
   have HK:=mK hk
   have hL:=HF.o k
   have hLx:x.length<=1048576 * 8:=by have:=HF.o (k+1);rw[HT.o,List.length_append] at this;omega
   have HL:=mK (And.intro hL hLx)
   clear hx hrow hk hL hLx
   go_wp2_with (at_builtin;refine Rp.x1i tokR (c:=cx) HO.o (Rp.x1q HXR.o (fun _ _ h=>h)) (Fz:=fun _=>False) (fun _ h=>h.elim) rfl _ _ 22 (.agg #[.int .i64 0,.int .i64 0,.int .i64 0,.int .i64 0]) 32 rfl Tryz.underlying22 x0y rfl (by decide) (by decide) rfl (by rfl) (by have:=HL.o;omega) ?_;intro v4 w4 ho4 hu4 hat4;rw[<- HT.o] at ho4;have HV4:=mK (hat_ge (B:=w.heap.size) hat4 (fun q hq=>(Rp.x03 HO.o q hq).1) HP.o.size);have HO4:=mK (tok_own_to (G:=fun q=>w.heap.size<=q) ho4 HV4.o);have HP4:=mK (HP.o.trans hu4 (fun q hq h=>by have:=(Rp.x03 HO.o q h).1;omega));clear ho4 hu4 hat4)
   go_roundg g1
   case measure=>omega
   case rel=>exact⟨k+1,by have:=HK.o;omega,by go_num,HO4,HP4⟩
  ·obtain rfl:k=ls.length:=by omega
   rw[List.take_length] at HO
   go_wp2
   go_ret
   obtain⟨A1,c1,rfl,hle,hrow⟩:=Rp.x0c HO.o
   exact⟨⟨A1,c1,rfl,hle,hrow⟩,HP.o⟩
theorem sc_one {s:StepD} (h:¬ s.sl.length > 2048) (ho:¬ s.ok):x0q s=1:=by unfold x0q;rw[if_neg h,if_neg ho]
theorem sc_zero {s:StepD} (h:¬ s.sl.length > 2048) (ho:s.ok):x0q s=0:=by unfold x0q;rw[if_neg h,if_pos ho]
theorem sc_two {s:StepD} (h:s.sl.length > 2048):x0q s=2:=by unfold x0q;rw[if_pos h]
theorem all_right {l:List Tok}:l.all x0p=true ↔ ∀ x ∈ l,x0p x=true:=by simp
def okTo (B:Prop) (sl:List Tok) (j:Nat):Prop:=B/\∀ x ∈ sl.take j,x0p x=true
theorem okTo_zero {B:Prop} {sl:List Tok}:okTo B sl 0 ↔ B:=by simp[okTo]
theorem okTo_succ {B:Prop} {sl:List Tok} {j:Nat} {x:Tok} (hx:sl[j]?=some x):okTo B sl (j+1) ↔ okTo B sl j/\x0p x=true:=by
 unfold okTo
 rw[List.take_add_one,hx]
 constructor
 ·exact fun ⟨h1,h2⟩=>⟨⟨h1,fun y hy=>h2 y (List.mem_append_left _ hy)⟩,h2 x (by simp)⟩
 ·exact fun ⟨⟨h1,h2⟩,h3⟩=>⟨h1,fun y hy=>by
   rcases List.mem_append.1 hy with h | h
   ·exact h2 y h
   ·simp at h;rw[h];exact h3⟩
theorem okTo_all {B:Prop} {sl:List Tok}:okTo B sl sl.length ↔ B/\∀ x ∈ sl,x0p x=true:=by
 unfold okTo
 rw[List.take_length]
theorem sc_around {fr tt gf gt ins mk:Int} {sl:List Tok} (hr:tokR.row w F A sl) (hb:sl.length<=2048) :
 Calls Tryz.prog 115 #[(StepD.mk 1 fr tt gf gt ins sl mk).val A c] w fun r w'=>r=.returned (.int .i64 (if (StepD.mk 1 fr tt gf gt ins sl mk).ok then 0 else 1))/\Pure w w':=by
 have HR:=mK hr
 have hL1:(((listL mk 3).length:Int) == 1)=decide (x10 mk):=by
  rw[Bool.eq_iff_iff,beq_iff_eq,decide_eq_true_eq,<- list_one]
  omega
 have HBB:=mK (show (∀ (B:Prop),(B ↔ ((0<=fr/\fr<=tt/\tt<=2048)/\fr<=gf/\gf < gt/\gt<=tt/\0<=ins/\ins<=(sl.length:Int)/\mk=0))->((StepD.mk 1 fr tt gf gt ins sl mk).ok ↔ okTo B sl sl.length)) from fun B hB=>by
  rw[okTo_all,hB]
  unfold StepD.ok StepD.kindOk
  constructor
  ·rintro ⟨h1,h2,h3,h4,h5⟩
   refine⟨?_,h5⟩
   dsimp only at h1 h2 h3 h4
   rcases h4 with h4 | h4 | h4
   ·exact⟨⟨h1,h2,h3⟩,h4.2⟩
   ·exact absurd h4.1 (by decide)
   ·exact absurd h4.1 (by decide)
  ·rintro ⟨h1,h5⟩
   exact⟨h1.1.1,h1.1.2.1,h1.1.2.2,.inl ⟨rfl,h1.2⟩,h5⟩)
 obtain⟨B,hB⟩:∃ B:Prop,B ↔ ((0<=fr/\fr<=tt/\tt<=2048)/\fr<=gf/\gf < gt/\gt<=tt/\0<=ins/\ins<=(sl.length:Int)/\mk=0):=⟨_,Iff.rfl⟩
 have HOK:=mK (HBB.o B hB)
 clear hr HBB
 obtain⟨V,hV⟩:∃ V:Int,V=(if (StepD.mk 1 fr tt gf gt ins sl mk).ok then 0 else 1):=⟨_,rfl⟩
 rw[<- hV]
 have HV0:=mK (show okTo B sl sl.length->V=0 from fun h=>by rw[hV,if_pos (HOK.o.2 h)])
 have HV1:=mK (show ¬ okTo B sl sl.length->V=1 from fun h=>by rw[hV,if_neg (fun h2=>h (HOK.o.1 h2))])
 clear hV HOK
 unfold StepD.val
 try simp only
 skip
 all_goals cases hmo:decide (x10 mk)
 all_goals
  rw[hmo] at hL1
  have HMO:=mK hmo
  have HBI:=mK hB
  clear hmo hB
  go_enter Tryz.func115,Tryz.ntmps115
  go_wp2_with (go_at_call 152;refine(x5o _ _).mono ?_;rintro e w1 ⟨⟨A1,c1,rfl⟩,hu⟩;have HU1:=mK hu;obtain⟨oc,of⟩:=hu.olds;have hz1:=hu.size;clear hu)
  all_goals
   go_loopg [4,123] sl.length (fun gg v4 iv wr=>∃ (j:Nat) (bb:Bool),j+gg=sl.length/\iv=.int .i64 j/\v4=.bool bb/\As ((bb=true ↔ okTo B sl j)/\Pure w wr))
   case atStart=>exact⟨0,_,by omega,rfl,rfl,⟨by
    rw[okTo_zero,HBI.o]
    have h9:=HMO.o
    simp only[decide_eq_true_eq,decide_eq_false_iff_not] at h9
    have hlen:0<=(sl.length:Int):=by omega
    simp only[Bool.false_eq_true,true_iff,false_iff,iff_true,iff_false,h9,true_and,and_true,false_and,and_false,not_false_eq_true,decide_eq_true_eq,beq_iff_eq]
    try omega,(by repeat (first | exact Upd.refl _ _ | exact HU1.o | (refine Upd.alloc ?_ _) | (refine Upd.setCell ?_ (by intro h;simp at h;try omega) _) | (refine Upd.drew ?_) | (refine Upd.drewN ?_ _) | (refine Upd.trans ?_ HU1.o (fun _ _ h=>h))))⟩⟩
   case round=>
    obtain⟨j,bb,hj,rfl,rfl,HC⟩:=hrel
    by_cases hlt:j < sl.length
    ·obtain⟨x,hx⟩:=gS hlt
     obtain⟨b,o,rfl,hF,hbl,d0,d1,d2,d3⟩:=x0j (Rp.x01 HR.o HC.o.2) hx
     obtain⟨g1,rfl⟩:=sC1 (by omega:0 < gk)
     have HS:=mK (okTo_succ (B:=B) hx)
     clear hx
     cases hrx:x0p x <;> cases bb
     all_goals
      have HRX:=mK hrx
      clear hrx
      go_wp2_with (go_at_call 102;refine(x2a HRX.o _).mono ?_;rintro e w2 ⟨rfl,hu2⟩;have HU2:=mK hu2;clear hu2)
      go_roundg g1
      case measure=>omega
      case rel=>exact⟨j+1,_,by omega,by go_num,rfl,⟨by rw[HS.o,<- HC.o.1,HRX.o];simp,by first | exact HC.o.2.alloc _ | exact(HC.o.2.alloc _).tt HU2.o⟩⟩
    ·obtain rfl:j=sl.length:=by omega
     have HP:=mK HC.o.2
     cases bb
     ·have e:=HV1.o (fun h=>by have:=HC.o.1.2 h;cases this)
      subst e
      clear HC
      go_wp2
      go_ret
      exact⟨rfl,HP.o⟩
     ·have e:=HV0.o (HC.o.1.1 rfl)
      subst e
      clear HC
      go_wp2
      go_ret
      exact⟨rfl,HP.o⟩
theorem sc_other {k fr tt gf gt ins mk:Int} {sl:List Tok} (hr:tokR.row w F A sl) (hb:sl.length<=2048) (hk:k ≠ 0/\k ≠ 1/\k ≠ 2/\k ≠ 3) :
 Calls Tryz.prog 115 #[(StepD.mk k fr tt gf gt ins sl mk).val A c] w fun r w'=>r=.returned (.int .i64 (if (StepD.mk k fr tt gf gt ins sl mk).ok then 0 else 1))/\Pure w w':=by
 have HR:=mK hr
 have hL1:(((listL mk 3).length:Int) == 1)=decide (x10 mk):=by
  rw[Bool.eq_iff_iff,beq_iff_eq,decide_eq_true_eq,<- list_one]
  omega
 have HBB:=mK (show (∀ (B:Prop),(B ↔ False)->((StepD.mk k fr tt gf gt ins sl mk).ok ↔ okTo B sl sl.length)) from fun B hB=>by
  rw[okTo_all,hB]
  unfold StepD.ok StepD.kindOk
  constructor
  ·rintro ⟨h1,h2,h3,h4,h5⟩
   refine⟨?_,h5⟩
   dsimp only at h1 h2 h3 h4
   rcases h4 with h4 | h4 | h4
   ·exact absurd h4.1 (by omega)
   ·exact absurd h4.1 (by omega)
   ·exact absurd h4.1 (by omega)
  ·rintro ⟨h1,h5⟩
   exact h1.elim)
 obtain⟨B,hB⟩:∃ B:Prop,B ↔ False:=⟨_,Iff.rfl⟩
 have HOK:=mK (HBB.o B hB)
 clear hr HBB
 obtain⟨V,hV⟩:∃ V:Int,V=(if (StepD.mk k fr tt gf gt ins sl mk).ok then 0 else 1):=⟨_,rfl⟩
 rw[<- hV]
 have HV0:=mK (show okTo B sl sl.length->V=0 from fun h=>by rw[hV,if_pos (HOK.o.2 h)])
 have HV1:=mK (show ¬ okTo B sl sl.length->V=1 from fun h=>by rw[hV,if_neg (fun h2=>h (HOK.o.1 h2))])
 clear hV HOK
 unfold StepD.val
 try simp only
 have f1:(k == 1)=false:=by simpa using hk.2.1
 have f0:(k == 0)=false:=by simpa using hk.1
 have f2:(k == 2)=false:=by simpa using hk.2.2.1
 have f3:(k == 3)=false:=by simpa using hk.2.2.2
 clear hk
 all_goals cases hmo:decide (x10 mk)
 all_goals
  rw[hmo] at hL1
  have HMO:=mK hmo
  have HBI:=mK hB
  clear hmo hB
  go_enter Tryz.func115,Tryz.ntmps115
  go_wp2_with (go_at_call 152;refine(x5o _ _).mono ?_;rintro e w1 ⟨⟨A1,c1,rfl⟩,hu⟩;have HU1:=mK hu;obtain⟨oc,of⟩:=hu.olds;have hz1:=hu.size;clear hu)
  all_goals
   go_loopg [4,123] sl.length (fun gg v4 iv wr=>∃ (j:Nat) (bb:Bool),j+gg=sl.length/\iv=.int .i64 j/\v4=.bool bb/\As ((bb=true ↔ okTo B sl j)/\Pure w wr))
   case atStart=>exact⟨0,_,by omega,rfl,rfl,⟨by
    rw[okTo_zero,HBI.o]
    have h9:=HMO.o
    simp only[decide_eq_true_eq,decide_eq_false_iff_not] at h9
    have hlen:0<=(sl.length:Int):=by omega
    simp only[Bool.false_eq_true,true_iff,false_iff,iff_true,iff_false,h9,true_and,and_true,false_and,and_false,not_false_eq_true,decide_eq_true_eq,beq_iff_eq]
    try omega,(by repeat (first | exact Upd.refl _ _ | exact HU1.o | (refine Upd.alloc ?_ _) | (refine Upd.setCell ?_ (by intro h;simp at h;try omega) _) | (refine Upd.drew ?_) | (refine Upd.drewN ?_ _) | (refine Upd.trans ?_ HU1.o (fun _ _ h=>h))))⟩⟩
   case round=>
    obtain⟨j,bb,hj,rfl,rfl,HC⟩:=hrel
    by_cases hlt:j < sl.length
    ·obtain⟨x,hx⟩:=gS hlt
     obtain⟨b,o,rfl,hF,hbl,d0,d1,d2,d3⟩:=x0j (Rp.x01 HR.o HC.o.2) hx
     obtain⟨g1,rfl⟩:=sC1 (by omega:0 < gk)
     have HS:=mK (okTo_succ (B:=B) hx)
     clear hx
     cases hrx:x0p x <;> cases bb
     all_goals
      have HRX:=mK hrx
      clear hrx
      go_wp2_with (go_at_call 102;refine(x2a HRX.o _).mono ?_;rintro e w2 ⟨rfl,hu2⟩;have HU2:=mK hu2;clear hu2)
      go_roundg g1
      case measure=>omega
      case rel=>exact⟨j+1,_,by omega,by go_num,rfl,⟨by rw[HS.o,<- HC.o.1,HRX.o];simp,by first | exact HC.o.2.alloc _ | exact(HC.o.2.alloc _).tt HU2.o⟩⟩
    ·obtain rfl:j=sl.length:=by omega
     have HP:=mK HC.o.2
     cases bb
     ·have e:=HV1.o (fun h=>by have:=HC.o.1.2 h;cases this)
      subst e
      clear HC
      go_wp2
      go_ret
      exact⟨rfl,HP.o⟩
     ·have e:=HV0.o (HC.o.1.1 rfl)
      subst e
      clear HC
      go_wp2
      go_ret
      exact⟨rfl,HP.o⟩
theorem hTop_wd:Wd hTop:=wd_new 0
/-- What is open: the places fit the levels. -/
inductive Mt (l:List Tok):List Int->Lev->List Lev->Prop
 | nil {t:Lev}:t.1=x0r x02 0->Mt l [] t []
 | snoc {s:List Int} {j yt:Nat} {y:Tok} {t p:Lev} {q:List Lev}:l[j]?=some y->y.k=1->y.t=yt->1<=yt->x02[yt]?=some t.1->Mt l s p q->Mt l (s ++ [(j:Int)]) t (p :: q)
theorem Mt.word {l:List Tok} {s:List Int} {t:Lev} {q:List Lev} (h:Mt l s t q) (w:List Int):Mt l s (t.1,w) q:=by
 cases h with
 | nil h=>exact .nil h
 | snoc h1 h2 h3 h4 h5 h6=>exact .snoc h1 h2 h3 h4 h5 h6
theorem mayT_open1 {rs:List (Spec × Ex)} {s:Spec} {x:Tok} (h1:x.k=1) (h:mayT rs s x=true):∃ j:Nat,x.t=j/\1<=j/\rs[j]?=some (x0r rs x.t):=by
 obtain⟨j,hj,y,e,hy,hr⟩:=mayT_open h1 h
 refine⟨j,hj,?_,by rw[hr];exact hy⟩
 unfold mayT at h
 rw[if_neg (by omega)] at h
 cases hs:x17 rs x.t with
 | none=>simp[hs] at h
 | some y=>
   unfold x17 at hs
   split at hs
   ·cases hs
   ·omega
abbrev letter:Tok:=⟨0,0,120,0⟩
theorem house_marks:((List.range 9).all fun i=>decide ((x0r x02 (i:Int)).1.marks=0\/(x0r x02 (i:Int)).1.marks=7))=true:=by kernel_rfl
/-- What May asks: the rule at a place, and the kids' types. -/
structure AtP (l:List Tok) (n:Nat) (R:Spec × Ex):Prop where
 whole:x04 l n=-1/\x02[0]?=some R\/∃ (j yt:Nat) (y:Tok),x04 l n=j/\l[j]?=some y/\y.k=1/\y.t=yt/\1<=yt/\x02[yt]?=some R
 kids:∀ p ∈ kidsL l (x04 l n),∃ (i:Nat) (x:Tok),p=i/\l[i]?=some x/\x.t ∈ tyR R
 wd:Wd (R,[])
 put:(x0d (l.take n ++ letter :: l.drop n)).2=0 ↔ (0:Int) ∈ tyR R
def tyAt (l:List Tok) (p:Int):Int:=(l[p.toNat]?.map (·.t)).getD 0
theorem stk_app6:∀ (a b:List Tok) (k:Nat) (s:List Int),stkGo k (a ++ b) s=stkGo (k+a.length) b (stkGo k a s):=by
 intro a
 induction a with
 | nil=>intro b k s;rfl
 | cons x r ih=>
   intro b k s
   rw[List.cons_append,stkGo,stkGo,ih,List.length_cons]
   congr 1
   omega
theorem stack_at6 {l:List Tok} {n:Nat} (hn:n<=l.length):x1w l (n:Int)=stkGo 0 (l.take n) []:=by
 unfold x1w
 rw[if_neg (by omega),show (max (n:Int) 0).toNat=n by omega]
theorem stack_succ {l:List Tok} {n:Nat} {x:Tok} (hx:l[n]?=some x):x1w l ((n+1:Nat):Int)=x1b n x (x1w l (n:Int)):=by
 have hn:n < l.length:=(List.getElem?_eq_some_iff.1 hx).1
 rw[stack_at6 (by omega),stack_at6 (by omega),List.take_add_one,hx,stk_app6]
 have:(l.take n).length=n:=by rw[List.length_take];omega
 rw[this,Nat.zero_add]
 rfl
/-- A word as emenderref07.word gathers it: depth, types. -/
def x3m (s:Int × List Int) (x:Tok):Int × List Int:=(if x.k=1 then s.1+1 else if x.k=2 then s.1 - 1 else s.1,if s.1=0/\x.k ≠ 2 then s.2 ++ [x.t] else s.2)
def wdGo (l:List Tok) (i to':Int):Int × List Int:=((l.take to'.toNat).drop (i+1).toNat).foldl x3m (0,[])
def wordL (l:List Tok) (i to':Int):List Int:=(wdGo l i to').2
theorem wd_succ {l:List Tok} {k:Nat} {x:Tok} (hx:l[k]?=some x) {i:Int} (hi:i < k) (h1:-1<=i):wdGo l i ((k+1:Nat):Int)=x3m (wdGo l i (k:Int)) x:=by
 have hk:k < l.length:=(List.getElem?_eq_some_iff.1 hx).1
 unfold wdGo
 rw[Int.toNat_natCast,Int.toNat_natCast,List.take_add_one,hx,List.drop_append_of_le_length (by rw[List.length_take];omega),List.foldl_append]
 rfl
theorem wd_none (l:List Tok) (k:Nat):wdGo l (k:Int) ((k+1:Nat):Int)=(0,[]):=by
 unfold wdGo
 rw[Int.toNat_natCast,show ((k:Int)+1).toNat=k+1 by omega,List.drop_eq_nil_of_le (by rw[List.length_take];omega)]
 rfl
theorem wd_none0 (l:List Tok):wdGo l (-1) ((0:Nat):Int)=(0,[]):=by
 unfold wdGo
 simp
/-- The levels at a place: their places, their words. -/
inductive Lv (l:List Tok) (k:Nat):Nat->List Int->Lev->List Lev->Prop
 | bot {h:Nat} {t:Lev}:t.1=x0r x02 0->wdGo l (-1) k=((h:Int),t.2)->Lv l k h [] t []
 | up {h:Nat} {s:List Int} {j yt:Nat} {y:Tok} {t p:Lev} {q:List Lev}:l[j]?=some y->y.k=1->y.t=yt->1<=yt->x02[yt]?=some t.1->j < k->wdGo l (j:Int) k=((h:Int),t.2)->Lv l k (h+1) s p q->Lv l k h (s ++ [(j:Int)]) t (p :: q)
theorem Lv.next {l:List Tok} {k:Nat} {x:Tok} (hx:l[k]?=some x) (h2:x.k ≠ 2) {h:Nat} {s:List Int} {t:Lev} {q:List Lev} (H:Lv l k h s t q) :
 Lv l (k+1) (if x.k=1 then h+1 else h) s (t.1,if h=0 then t.2 ++ [x.t] else t.2) q:=by
 induction H with
 | @bot h t h1 hw=>
   refine .bot h1 ?_
   rw[wd_succ hx (by omega) (by omega),hw]
   unfold x3m
   by_cases hk:x.k=1 <;> by_cases hh:h=0 <;> simp[hk,hh,h2]
 | @up h s j yt y t p q hy hy1 hyt hyt1 hR hj hw _ ih=>
   have ih':Lv l (k+1) ((if x.k=1 then h+1 else h)+1) s p q:=by
    rw[if_neg (by omega:¬ h+1=0)] at ih
    by_cases hk:x.k=1
    ·rw[if_pos hk] at ih ⊢;exact ih
    ·rw[if_neg hk] at ih ⊢;exact ih
   refine .up hy hy1 hyt hyt1 hR (by omega) ?_ ih'
   rw[wd_succ hx (by omega) (by omega),hw]
   unfold x3m
   by_cases hk:x.k=1 <;> by_cases hh:h=0 <;> simp[hk,hh,h2]
theorem Lv.prev {l:List Tok} {k:Nat} {x:Tok} (hx:l[k]?=some x) (h2:x.k=2) {h' h:Nat} {s:List Int} {t:Lev} {q:List Lev} (H:Lv l k h' s t q) (hh:h'=h+1) :
 Lv l (k+1) h s t q:=by
 induction H generalizing h with
 | @bot h' t h1 hw=>
   subst hh
   refine .bot h1 ?_
   rw[wd_succ hx (by omega) (by omega),hw]
   unfold x3m
   simp[h2]
 | @up h' s j yt y t p q hy hy1 hyt hyt1 hR hj hw _ ih=>
   subst hh
   refine .up hy hy1 hyt hyt1 hR (by omega) ?_ (ih rfl)
   rw[wd_succ hx (by omega) (by omega),hw]
   unfold x3m
   simp[h2]
theorem Lv.inv {l:List Tok} {k:Nat} {s:List Int} {t:Lev} {q:List Lev} (H:Lv l k 0 s t q) :
 (s.getLast?.getD (-1)=-1/\t.1=x0r x02 0/\wdGo l (-1) k=(0,t.2)) \/
 ∃ (j yt:Nat) (y:Tok),s.getLast?.getD (-1)=(j:Int)/\l[j]?=some y/\y.k=1/\y.t=yt/\1<=yt/\x02[yt]?=some t.1/\j < k/\wdGo l (j:Int) k=(0,t.2):=by
 cases H with
 | bot h1 hw=>exact .inl ⟨rfl,h1,hw⟩
 | @up _ s j yt y t p q hy hy1 hyt hyt1 hR hj hw _=>exact .inr ⟨j,yt,y,by simp,hy,hy1,hyt,hyt1,hR,hj,hw⟩
theorem Lv.whole {l:List Tok} {k h:Nat} {s:List Int} {t:Lev} (H:Lv l k h s t []):t.1=x0r x02 0/\wdGo l (-1) k=((h:Int),t.2):=by
 generalize hz:([]:List Lev)=z at H
 cases H with
 | bot h1 hw=>exact⟨h1,hw⟩
 | up=>cases hz
theorem rule_get {yt:Nat} {r:Spec × Ex} (h:x02[yt]?=some r):x0r x02 (yt:Int)=r:=by
 unfold x0r
 rw[Int.toNat_natCast,h]
 rfl
theorem lv_step {l:List Tok} {k:Nat} {x:Tok} (hx:l[k]?=some x) {s:List Int} {top t:Lev} {below z:List Lev} (H:Lv l k 0 s top below) (h:hRun top below [x]=some (t,z)):Lv l (k+1) 0 (x1b k x s) t z:=by
 unfold hRun at h
 rw[x1f] at h
 unfold x1b
 by_cases h2:x.k=2
 ·rw[if_pos h2] at h
  rw[if_neg (by omega),if_pos h2]
  cases H with
  | bot=>cases h
  | @up _ s j yt y t' p q hy hy1 hyt hyt1 hR hj hw H'=>
    simp only at h
    split at h
    ·simp only[ckRun,Option.some.injEq,Prod.mk.injEq] at h
     obtain⟨rfl,rfl⟩:=h
     rw[List.dropLast_concat]
     exact H'.prev hx h2 rfl
    ·cases h
 ·rw[if_neg h2] at h
  rw[if_neg h2]
  have HN:=H.next hx h2
  rw[if_pos rfl] at HN
  split at h
  ·rename_i hs
   have hm:mayT x02 top.1.1 x=true:=by
    unfold x36 at hs
    rw[Bool.and_eq_true] at hs
    exact hs.1
   by_cases h1:x.k=1
   ·rw[if_pos h1] at h HN ⊢
    simp only[ckRun,Option.some.injEq,Prod.mk.injEq] at h
    obtain⟨rfl,rfl⟩:=h
    obtain⟨j,hj,hj1,hrj⟩:=mayT_open1 h1 hm
    exact .up hx h1 hj hj1 hrj (by omega) (wd_none l k) HN
   ·rw[if_neg h1] at h HN ⊢
    simp only[ckRun,Option.some.injEq,Prod.mk.injEq] at h
    obtain⟨rfl,rfl⟩:=h
    exact HN
  ·cases h
theorem run_lv {l:List Tok}:∀ {k:Nat},k<=l.length->∀ {top:Lev} {below:List Lev},hRun hTop [] (l.take k)=some (top,below)->Lv l k 0 (x1w l k) top below:=by
 intro k
 induction k with
 | zero=>
   intro _ top below h
   rw[List.take_zero] at h
   simp only[hRun,ckRun,Option.some.injEq,Prod.mk.injEq] at h
   obtain⟨rfl,rfl⟩:=h
   rw[stack_at6 (Nat.zero_le _)]
   exact .bot rfl (wd_none0 l)
 | succ k ih=>
   intro hk top below h
   obtain⟨x,hx⟩:∃ x,l[k]?=some x:=⟨_,List.getElem?_eq_getElem (by omega)⟩
   rw[List.take_add_one,hx] at h
   unfold hRun at h
   rw[x5l] at h
   obtain⟨S,h1,h2⟩:=Option.bind_eq_some_iff.1 h
   rw[stack_succ hx]
   exact lv_step hx (ih (by omega) h1) h2
/-- The rule at a place, as the reference reads it. -/
def rule6 (l:List Tok) (at':Int):Spec × Ex:=if at' < 0 then x0r x02 0 else x0r x02 (tyAt l at')
def specAt (l:List Tok) (n:Int):Spec:=if n < 0 then zeroSpec else (x17 x02 (tyAt l n)).getD zeroSpec
def x4i (s:Spec) (x:Tok):Bool:=
 if x.k=0 then decide (bits .and .i64 x.m s.marks=x.m) && (decide (x.n ≠ 10) || s.lines)
 else match x17 x02 x.t with | some s=>decide (x.n >= s.least) && decide (x.n<=s.most) && (s.leaf == decide (x.k=3)) | none=>false
def one6 (l:List Tok) (i:Nat) (x:Tok):Bool:=
 if x.k=2 then x0n (rule6 l (x04 l i)).2 x07 (wordL l (x04 l i) i)
 else x4i (specAt l (x04 l i)) x && decide (x18 (rule6 l (x04 l i)).2 x07 (wordL l (x04 l i) i ++ [x.t])=(wordL l (x04 l i) i).length+1)
def ck6 (l:List Tok):Nat->List Tok->Int × Int
 | i,[]=>(i,if x0n (x0r x02 0).2 x07 (wordL l (-1) l.length)=true then 0 else 9)
 | i,x :: r=>if one6 l i x=true then ck6 l (i+1) r else (i,9)
def check6 (l:List Tok):Int × Int:=if (x0a l).2=0 then ck6 l 0 l else x0a l
theorem marks_and:∀ m:Int,0<=m->m<=4->∀ s:Int,s=0\/s=7->decide (bits .and .i64 m s=m)=decide (bits .andNot .i64 m s=0):=by
 intro m h0 h4 s hs
 have hm:m=0\/m=1\/m=2\/m=3\/m=4:=by omega
 rcases hm with rfl | rfl | rfl | rfl | rfl <;> rcases hs with rfl | rfl <;> rfl
theorem token_may {s:Spec} {x:Tok} (hs:s.marks=0\/s.marks=7) (hx:x0p x=true):x4i s x=mayT x02 s x:=by
 unfold x4i mayT
 by_cases h0:x.k=0
 ·rw[if_pos h0,if_pos h0]
  unfold runeB x4t
  have hm:0<=x.m/\x.m<=4:=by
   have:=of_decide_eq_true hx
   unfold RightP MarkP at this
   omega
  rw[marks_and x.m hm.1 hm.2 _ hs]
  congr 1
  by_cases h:x.n=10 <;> simp[h]
 ·rw[if_neg h0,if_neg h0]
  rfl
theorem house_specs_marks (i:Nat):(x0r x02 (i:Int)).1.marks=0\/(x0r x02 (i:Int)).1.marks=7:=by
 obtain⟨j,hj,h⟩:=x56 (i:Int)
 rw[h]
 simpa using List.all_eq_true.1 house_marks j (List.mem_range.2 hj)
theorem rule0_marks:(x0r x02 0).1.marks=0/\(x0r x02 0).1.lines=false:=by
 constructor <;> kernel_rfl
theorem begins_le {t:Lev} (h:Wd t) (x:Int):x18 t.1.2 x07 (t.2 ++ [x])<=t.2.length+1:=by
 obtain⟨⟨u,hu⟩,_⟩:=h
 obtain⟨i,hi,hr⟩:=x56 u
 have hc:x0k t.1.2 x07=0:=by
  rw[hu,hr]
  simpa using List.all_eq_true.1 house_check_all i (List.mem_range.2 hi)
 rw[begins_eq hc]
 have:=(run_spec hc (t.2 ++ [x])).2.1
 simpa using this
/-- What the reference asks of a token is what the program asks of it at its level. -/
theorem one_step {l:List Tok} {k:Nat} {x:Tok} {top:Lev} {below:List Lev} (hx:l[k]?=some x) (hr:x0p x=true) (h:hRun hTop [] (l.take k)=some (top,below)) :
 one6 l k x=if x.k=2 then hAcc top else x36 x02 x07 top x:=by
 have hk:k < l.length:=(List.getElem?_eq_some_iff.1 hx).1
 have HL:=run_lv (by omega) h
 have hwd:Wd top:=by
  obtain⟨t',z',h3,h4⟩:=run_rl (l.take k) (.bot rfl hTop_wd hTop_wd) h
  exact h4.wd.2.1
 have key:(rule6 l (x04 l k)).2=top.1.2/\wordL l (x04 l k) k=top.2/\(x.k ≠ 2->x4i (specAt l (x04 l k)) x=mayT x02 top.1.1 x):=by
  unfold x04
  rcases HL.inv with ⟨h1,h2,h3⟩ | ⟨j,yt,y,h1,hy,hy1,hyt,hyt1,hR,hj,h3⟩
  ·rw[h1]
   refine⟨by unfold rule6;rw[if_pos (by decide),h2],by unfold wordL;rw[h3],fun _=>?_⟩
   unfold specAt
   rw[if_pos (by decide),token_may (.inl rfl) hr,h2]
   obtain⟨e1,e2⟩:=rule0_marks
   unfold mayT runeB
   rw[e1,e2]
  ·rw[h1]
   have hty:tyAt l (j:Int)=(yt:Int):=by unfold tyAt;rw[Int.toNat_natCast,hy];exact hyt
   refine⟨by unfold rule6;rw[if_neg (by omega),hty,rule_get hR],by unfold wordL;rw[h3],fun _=>?_⟩
   unfold specAt
   have hs:(x17 x02 (tyAt l (j:Int))).getD zeroSpec=top.1.1:=by
    rw[hty]
    unfold x17
    rw[if_neg (by omega),Int.toNat_natCast,hR]
    rfl
   rw[if_neg (by omega),hs]
   have:=house_specs_marks yt
   rw[rule_get hR] at this
   exact token_may this hr
 obtain⟨k1,k2,k3⟩:=key
 unfold one6
 rw[k1,k2]
 by_cases h2:x.k=2
 ·rw[if_pos h2,if_pos h2]
 ·rw[if_neg h2,if_neg h2,k3 h2]
  unfold x36
  congr 1
  have:=begins_le hwd x.t
  rw[Bool.eq_iff_iff]
  simp only[decide_eq_true_eq]
  omega
theorem whole_step {l:List Tok} {top:Lev} (h:hRun hTop [] l=some (top,[])):x0n (x0r x02 0).2 x07 (wordL l (-1) l.length)=hAcc top:=by
 have HL:=run_lv (Nat.le_refl l.length) (by rw[List.take_length];exact h)
 have hw:=HL.whole
 unfold wordL
 rw[hw.2,<- hw.1]
theorem ck6_eq {l:List Tok}:∀ (r:List Tok) (k:Nat) (top:Lev) (below:List Lev),l.drop k=r->k<=l.length->hRun hTop [] (l.take k)=some (top,below)->(fcGo k below.length r).2=0->ck6 l k r=ckGo x02 x07 k top below r:=by
 intro r
 induction r with
 | nil=>
   intro k top below hd hk h hf
   have hkl:k=l.length:=by
    have:=List.length_drop (i:=k) (l:=l)
    rw[hd] at this
    simp at this
    omega
   subst hkl
   unfold fcGo at hf
   have hb:below=[]:=by
    cases below with
    | nil=>rfl
    | cons p q=>simp at hf
   subst hb
   rw[List.take_length] at h
   rw[ck_end,ck6,whole_step h]
 | cons x r ih=>
   intro k top below hd hk h hf
   have hx:l[k]?=some x:=by
    have:(l.drop k)[0]?=some x:=by rw[hd];rfl
    simpa using this
   have hk2:k < l.length:=(List.getElem?_eq_some_iff.1 hx).1
   have hd2:l.drop (k+1)=r:=by
    have:(l.drop k).drop 1=r:=by rw[hd];rfl
    rwa [List.drop_drop] at this
   have hf':fcGo k below.length (x :: r)=((fcGo k below.length (x :: r)).1,0):=by rw[<- hf]
   have hr:=fc_right hf'
   have hone:=one_step hx hr h
   rw[ck6,hone]
   have hrun:∀ (t:Lev) (z:List Lev),hRun top below [x]=some (t,z)->hRun hTop [] (l.take (k+1))=some (t,z):=by
    intro t z e
    rw[List.take_add_one,hx]
    unfold hRun at h e ⊢
    rw[x5l,h]
    exact e
   by_cases h2:x.k=2
   ·rw[if_pos h2]
    cases ha:hAcc top
    ·rw[ck_noclose h2 ha]
     rfl
    ·obtain⟨hn,hf2⟩:=fc_close hf' h2
     cases below with
     | nil=>simp at hn
     | cons p q=>
       rw[ck_close h2 ha]
       simp only[if_true]
       refine ih (k+1) p q hd2 (by omega) (hrun p q ?_) ?_
       ·unfold hRun
        rw[x1f,if_pos h2]
        simp only
        rw[if_pos ha]
        rfl
       ·have:(p :: q).length - 1=q.length:=by simp
        rw[this] at hf2
        rw[hf2]
   ·rw[if_neg h2]
    cases hs:x36 x02 x07 top x
    ·rw[ck_bad h2 hs]
     rfl
    ·simp only[if_true]
     by_cases h1:x.k=1
     ·obtain⟨_,hf2⟩:=fc_open hf' h1
      rw[ck_open h1 hs]
      refine ih (k+1) _ _ hd2 (by omega) (hrun _ _ ?_) (by rw[List.length_cons,hf2])
      unfold hRun
      rw[x1f,if_neg h2,if_pos hs,if_pos h1]
      rfl
     ·have hf2:=fc_else hf' h1 h2
      rw[ck_leaf h2 h1 hs]
      refine ih (k+1) _ _ hd2 (by omega) (hrun _ _ ?_) (by rw[hf2])
      unfold hRun
      rw[x1f,if_neg h2,if_pos hs,if_neg h1]
      rfl
theorem check6_eq (l:List Tok):check6 l=x0d l:=by
 unfold check6 x0d x12
 by_cases hf:(x0a l).2=0
 ·rw[if_pos hf,if_pos hf]
  have hl:¬ l.length > 2048:=by
   intro h
   unfold x0a at hf
   rw[if_pos h] at hf
   cases hf
  have h1:x0a l=fcGo 0 0 l:=by unfold x0a;rw[if_neg hl]
  rw[h1] at hf
  exact ck6_eq l 0 hTop [] rfl (Nat.zero_le _) rfl hf
 ·rw[if_neg hf,if_neg hf]
theorem x25 {l:List Tok} {at':Int} (hr:tokR.row w F A l) (hb:l.length<=1048576 * 4) (hlc:l.length<=c) :
 Calls Tryz.prog 74 #[.slice A l.length c,.int .i64 at'] w fun e w'=>e=.returned (.int .i64 (x04 l at'))/\Pure w w':=by
 have HC:=mK (open4_calls (at':=at') hr hb hlc)
 have HE:=mK (show x04 l at'=(x1w l at').getLast?.getD (-1) from rfl)
 have hsl:=stackL_len l at'
 clear hr
 generalize x1w l at'=s at *
 generalize x04 l at'=r at *
 go_enter Tryz.func74,Tryz.ntmps74
 go_wp2_with (go_at_call 137;refine HC.o.mono ?_;rintro e w1 ⟨v,rfl,ho,hu⟩;have HO:=mK ho;have HU:=mK hu;clear ho hu;apply As.o)
 refine⟨?_⟩
 by_cases hs:s=[]
 ·subst hs
  obtain⟨A1,c1,rfl,hle,_⟩:=Rp.x0c HO.o
  go_wp2
  go_ret
  exact⟨by rw[HE.o];rfl,HU.o⟩
 ·obtain⟨a,cc,rfl⟩:=Rp.own_val HO.o hs
  obtain⟨n,hn⟩:∃ n,s.length=n+1:=⟨s.length - 1,by have:=List.length_pos_iff.2 hs;omega⟩
  obtain⟨x,hx⟩:∃ x,s[n]?=some x:=⟨_,List.getElem?_eq_getElem (by omega)⟩
  obtain⟨b,rfl,hbb,hc⟩:=int_own_at HO.o hx
  have hlast:s.getLast?.getD (-1)=x:=by rw[List.getLast?_eq_getElem?,hn];simp[hx]
  rw[hlast] at HE
  rw[hn]
  clear hs hlast hx
  go_wp2
  go_ret
  exact⟨by rw[HE.o];rfl,HU.o⟩
end Go.Proofs.YtofjodppljnlaaaGreatDoor
