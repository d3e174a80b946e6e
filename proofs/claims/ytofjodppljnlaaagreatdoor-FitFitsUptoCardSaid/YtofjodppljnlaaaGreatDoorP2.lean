/- My own texts, packed: FlatC, HeldZ, Reg, Names, Stack, RowK, Tok, AlikeE, HeldV, OpenT, OpenI. -/
import Derived.Test.YtofjodppljnlaaaGreatDoorP1
import Derived.OrdersHeld
import Derived.Deep.RegionHeld
import Derived.Maps.RangeWalk
import Derived.Maps.OwnSet
import Derived.Maps.OwnOps
import Derived.ChangeKeys
import Derived.Laws.StructEq
set_option maxRecDepth 100000
set_option maxHeartbeats 4000000
set_option linter.unusedVariables false
set_option linter.unusedSimpArgs false
variable {w w1 W:Go.World} {F G:Nat → Prop} {A B:Option Go.Addr} {cb c:Nat}
namespace Go.Proofs.YtofjodppljnlaaaGreatDoor
open Go.RowKit
theorem x63 {l:List Tok} (hr:tokR.row w F A l) (hb:l.length<=1048576 * 4) :
 Calls Tryz.prog 64 #[.slice A l.length c] w fun e w'=>e=.returned (.tuple #[.int .i64 (x0a l).1,.int .i64 (x0a l).2])/\Pure w w':=by
 by_cases hbig:l.length > 2048
 ·have he:x0a l=(0,2):=by unfold x0a;rw[if_pos hbig]
  rw[he]
  have hgt:((l.length:Int) > 2048):=by omega
  clear hbig
  go_enter Tryz.func64,Tryz.ntmps64
  go_wp2
  go_ret2
  exact⟨rfl,Upd.refl _ _⟩
 ·have he:fcGo 0 0 l=x0a l:=by unfold x0a;rw[if_neg hbig]
  have HR:=mK hr
  have HE:=mK he
  have hgt:¬ ((l.length:Int) > 2048):=by omega
  clear hr he
  go_enter Tryz.func64,Tryz.ntmps64
  go_wp2
  go_loopg [5,13] l.length (fun g op i wr=>∃ k n:Nat,k+g=l.length/\i=.int .i64 k/\op=.int .i64 n/\n<=32/\As (FcRel w wr l k n))
  case atStart=>exact⟨0,0,by omega,rfl,rfl,by omega,⟨HE.o,rU.alloc _,by simp,_,by simp,heap_alloc_new w _⟩⟩
  case round=>
   obtain⟨k,n,hk,rfl,rfl,hn,HC⟩:=hrel
   obtain⟨heq,hp,hsz,cs,hcs,hblk⟩:=HC.o
   by_cases hlt:k < l.length
   ·obtain⟨x,hx⟩:=gS hlt
    obtain⟨b,o,rfl,hF,hbl,c0,c1,c2,c3⟩:=x0j (Rp.x01 HR.o hp) hx
    obtain⟨g1,rfl⟩:=sC1 (by omega:0 < gk)
    rw[drop_cons hx] at heq
    have HE2:=mK heq
    have HP:=mK hp
    have HB:=mK hblk
    have HK:=mK hk
    clear heq hp hblk hk hx HC HE
    cases hr:x0p x
    ·have HV:=mK (show ((k:Int),(4:Int))=x0a l by rw[<- HE2.o];simp[fcGo,hr])
     clear HE2
     go_wp2_with (go_at_call 102;refine(x2a hr _).mono ?_;rintro e w1 ⟨rfl,hu1⟩;have HU1:=mK hu1;obtain⟨oc,of⟩:=hu1.olds;have hz1:=hu1.size;clear hu1)
     go_ret2
     rw[<- HV.o]
     exact⟨rfl,HP.o.trans (Upd.trans aU HU1.o (fun _ _ h=>h)) (fun _ _ h=>h)⟩
    ·by_cases h2:x.k=2
     ·have e2:(x.k == 2)=true:=by simp[h2]
      have e1:(x.k == 1)=false:=by simp[h2]
      by_cases h0:n=0
      ·have HV:=mK (show ((k:Int),(4:Int))=x0a l by rw[<- HE2.o];simp[fcGo,hr,h2,h0])
       subst h0
       clear HE2 h2
       go_wp2_with (go_at_call 102;refine(x2a hr _).mono ?_;rintro e w1 ⟨rfl,hu1⟩;have HU1:=mK hu1;obtain⟨oc,of⟩:=hu1.olds;have hz1:=hu1.size;clear hu1)
       go_ret2
       rw[<- HV.o]
       exact⟨rfl,HP.o.trans (Upd.trans aU HU1.o (fun _ _ h=>h)) (fun _ _ h=>h)⟩
      ·have e0:((n:Int) == 0)=false:=by simp;omega
       have HV:=mK (show fcGo (k+1) (n - 1) (l.drop (k+1))=x0a l by rw[<- HE2.o];simp[fcGo,hr,h2,h0])
       have hn1:1<=n:=by omega
       clear HE2 h2 h0
       go_wp2_with (go_at_call 102;refine(x2a hr _).mono ?_;rintro e w1 ⟨rfl,hu1⟩;have HU1:=mK hu1;obtain⟨oc,of⟩:=hu1.olds;have hz1:=hu1.size;clear hu1)
       go_roundg g1
       case measure=>omega
       case rel=>exact⟨k+1,n - 1,by have:=HK.o;omega,by go_num,by first | rfl | go_num | (congr 1;omega),by omega,⟨FcRel.upd HP hsz hcs HB (Upd.trans aU HU1.o (fun _ _ h=>h)) HV.o⟩⟩
     ·have e2:(x.k == 2)=false:=by simp[h2]
      by_cases h1:x.k=1
      ·have e1:(x.k == 1)=true:=by simp[h1]
       by_cases h32:n=32
       ·have HV:=mK (show ((k:Int),(8:Int))=x0a l by rw[<- HE2.o];simp[fcGo,hr,h1,h32])
        subst h32
        clear HE2 h2 h1
        go_wp2_with (go_at_call 102;refine(x2a hr _).mono ?_;rintro e w1 ⟨rfl,hu1⟩;have HU1:=mK hu1;obtain⟨oc,of⟩:=hu1.olds;have hz1:=hu1.size;clear hu1)
        go_ret2
        rw[<- HV.o]
        exact⟨rfl,HP.o.trans (Upd.trans aU HU1.o (fun _ _ h=>h)) (fun _ _ h=>h)⟩
       ·have e0:((n:Int) == 32)=false:=by simp;omega
        have HV:=mK (show fcGo (k+1) (n+1) (l.drop (k+1))=x0a l by rw[<- HE2.o];simp[fcGo,hr,h1,h32])
        have hn1:n < 32:=by omega
        obtain⟨u,hu⟩:∃ u,cs[n]?=some u:=⟨_,Array.getElem?_eq_getElem (by omega)⟩
        have q1:wr.cell? ⟨w.heap.size,n,none⟩=some u:=by simp[World.cell?,HB.o,hu]
        have q2:wr.frozen? ⟨w.heap.size,n,none⟩=false:=by simp[World.frozen?,HB.o]
        clear HE2 h2 h1 h32
        go_wp2_with (go_at_call 102;refine(x2a hr _).mono ?_;rintro e w1 ⟨rfl,hu1⟩;have HU1:=mK hu1;obtain⟨oc,of⟩:=hu1.olds;have hz1:=hu1.size;clear hu1)
        go_roundg g1
        case measure=>omega
        case rel=>exact⟨k+1,n+1,by have:=HK.o;omega,by go_num,by first | rfl | go_num | (congr 1;omega),by omega,⟨FcRel.set HP hsz hcs HB (Upd.trans aU HU1.o (fun _ _ h=>h)) HV.o⟩⟩
      ·have e1:(x.k == 1)=false:=by simp[h1]
       have HV:=mK (show fcGo (k+1) n (l.drop (k+1))=x0a l by rw[<- HE2.o];simp[fcGo,hr,h1,h2])
       clear HE2 h2 h1
       go_wp2_with (go_at_call 102;refine(x2a hr _).mono ?_;rintro e w1 ⟨rfl,hu1⟩;have HU1:=mK hu1;obtain⟨oc,of⟩:=hu1.olds;have hz1:=hu1.size;clear hu1)
       go_roundg g1
       case measure=>omega
       case rel=>exact⟨k+1,n,by have:=HK.o;omega,by go_num,rfl,by omega,⟨FcRel.upd HP hsz hcs HB (Upd.trans aU HU1.o (fun _ _ h=>h)) HV.o⟩⟩
   ·have hkl:k=l.length:=by omega
    subst hkl
    rw[List.drop_length] at heq
    have HE2:=mK heq
    have HP:=mK hp
    clear heq hp hblk HC HE
    by_cases h0:n=0
    ·have HV:=mK (show ((l.length:Int),(0:Int))=x0a l by rw[<- HE2.o];simp[fcGo,h0])
     subst h0
     go_wp2
     go_ret2
     rw[<- HV.o]
     exact⟨rfl,HP.o⟩
    ·have HV:=mK (show ((l.length:Int),(3:Int))=x0a l by rw[<- HE2.o];simp[fcGo,h0])
     have h1:((n:Int) > 0):=by omega
     go_wp2
     go_ret2
     rw[<- HV.o]
     exact⟨rfl,HP.o⟩
theorem run_append_nothing {P:Program} {w:World} {t ty e:TypeId} {size n c:Nat} {v:Value} {xs:List Value} (hown:w.ownsRow 0 e size v n xs) (i:TypeInfo) (ht:P.underlying t=some (.slice e)) (hi:P.info? e=some i) :
 (Builtin.append_ #[t,t] ty #[v,.slice none 0 c]).run P w=.ok v w:=by
 rcases hown.2 with ⟨rfl,rfl⟩ | ⟨g,cap,cur,rfl,_,hg,hle,_⟩
 ·simp[Builtin.append_,run_underlying ht,sizeOf,typeInfo,hi,Builtin.lenOf,Builtin.firstCells,loadCells,loadCellsFrom]
 ·simp[Builtin.append_,run_underlying ht,sizeOf,typeInfo,hi,Builtin.lenOf,Builtin.firstCells,loadCells,loadCellsFrom,hle]
  rfl
theorem Rp.row_news {α:Type} {d:Rp α} {w:World} {F:Nat->Prop} {b o:Nat} {ys:List α} (hc:∀ j x,ys[j]?=some x->∃ cs,d.rep w F x cs/\∀ i u,cs[i]?=some u->w.cell? ⟨b,o+j * d.sz+i,none⟩=some u) :
 ∃ news,Reps (d.rep w F) d.sz ys news/\(∀ j u,news[j]?=some u->w.cell? ⟨b,o+j,none⟩=some u)/\∀ u ∈ news,u.oneCell'=true:=by
 have H:∀ n,n<=ys.length->∃ news,Reps (d.rep w F) d.sz (ys.take n) news/\(∀ j u,news[j]?=some u->w.cell? ⟨b,o+j,none⟩=some u)/\∀ u ∈ news,u.oneCell'=true:=by
  intro n
  induction n with
  | zero=>intro _;exact⟨[],by simpa using Reps.nil _ _,by simp,by simp⟩
  | succ n ih=>
    intro hn
    obtain⟨news,h1,h2,h3⟩:=ih (by omega)
    obtain⟨x,hx⟩:∃ x,ys[n]?=some x:=⟨_,List.getElem?_eq_getElem (by omega)⟩
    obtain⟨cs,hr,hcs⟩:=hc n x hx
    have hl:news.length=n * d.sz:=by rw[h1.1,List.length_take,Nat.min_eq_left (by omega)]
    refine⟨news ++ cs,?_,fun j u hu=>?_,fun u hu=>?_⟩
    ·rw[List.take_add_one,hx]
     exact Reps.append h1 (Reps.single hr (d.len hr))
    ·rcases Nat.lt_or_ge j news.length with hj | hj
     ·rw[List.getElem?_append_left hj] at hu
      exact h2 j u hu
     ·rw[List.getElem?_append_right hj] at hu
      have:=hcs _ u hu
      rw[hl] at this
      rw[show o+j=o+n * d.sz+(j - n * d.sz) by omega]
      exact this
    ·rcases List.mem_append.1 hu with hu | hu
     ·exact h3 u hu
     ·exact d.one hr u hu
 have:=H ys.length (Nat.le_refl _)
 rwa [List.take_length] at this
theorem Rp.own_appended2 {α:Type} {d:Rp α} {e:Nat} {w w1:World} {F Fz:Nat->Prop} {v v1:Value} {xs ys:List α} {news inner:List Value}
 (hr:Reps (d.rep w (fun k=>F k/\some k ≠ v.ownBlock)) d.sz xs inner) (hy:Reps (d.rep w Fz) d.sz ys news) (hFz:∀ k,Fz k->k < w.heap.size->some k ≠ v.ownBlock)
 (hown:w1.ownsRow 0 e d.sz v1 (xs.length+ys.length) (inner ++ news)) (hg:w.grownBy w1 v.ownBlock)
 (hat:v1.ownBlock=v.ownBlock\/∃ b,v1.ownBlock=some b/\w.heap.size<=b):d.own e w1 (fun k=>(F k/\some k ≠ v.ownBlock)\/Fz k\/v1.ownBlock=some k) v1 (xs ++ ys):=by
 have hne:∀ k,some k ≠ v.ownBlock->k < w.heap.size->some k ≠ v1.ownBlock:=by
  intro k hk hl
  rcases hat with hat | ⟨b,hb,hle⟩
  ·rw[hat];exact hk
  ·rw[hb]
   intro he
   injection he with he
   omega
 refine⟨inner ++ news,by rw[List.length_append];exact hown,fun k hk=>.inr (.inr hk),Reps.append (hr.imp fun x c hc=>d.move (fun k hk hl=>?_) hc) (hy.imp fun x c hc=>d.move (fun k hk hl=>?_) hc)⟩
 ·exact⟨⟨.inl hk,hne k hk.2 hl⟩,Nat.lt_of_lt_of_le hl hg.size,hg.block k hl hk.2⟩
 ·have h2:=hFz k hk hl
  exact⟨⟨.inr (.inl hk),hne k h2 hl⟩,Nat.lt_of_lt_of_le hl hg.size,hg.block k hl h2⟩
/-- A row that is read; where its own block lies is not asked. -/
def Rp.row' {α:Type} (d:Rp α) (w:World) (F:Nat->Prop) (A:Option Addr) (xs:List α):Prop:=
 xs=[]\/∃ b o,A=some ⟨b,o,none⟩/\∀ j x,xs[j]?=some x->∃ cs,d.rep w F x cs/\∀ i u,cs[i]?=some u->w.cell? ⟨b,o+j * d.sz+i,none⟩=some u
theorem Rp.x1q {α:Type} {d:Rp α} {w:World} {F G:Nat->Prop} {A:Option Addr} {xs:List α} (h:d.row w F A xs) (hrep:∀ x cs,d.rep w F x cs->d.rep w G x cs):d.row' w G A xs:=by
 rcases h with h | ⟨b,o,hA,_,_,hc⟩
 ·exact .inl h
 ·refine .inr ⟨b,o,hA,fun j x hx=>?_⟩
  obtain⟨cs,h1,h2⟩:=hc j x hx
  exact⟨cs,hrep x cs h1,h2⟩
/-- One element, laid in a block of its own. -/
theorem Rp.x5j {α:Type} {d:Rp α} {w:World} {F:Nat->Prop} {x:α} {cs:List Value} (hr:d.rep w F x cs) {b:Nat} {e:TypeId} {fr:Nat × Nat} (hb:w.heap[b]?=some (.cells cs.toArray e fr)):d.row' w F (some ⟨b,0,none⟩) [x]:=by
 refine .inr ⟨b,0,rfl,fun j y hy=>?_⟩
 match j,hy with
 | 0,hy=>
   simp at hy
   subst hy
   refine⟨cs,hr,fun i u hu=>?_⟩
   unfold World.cell?
   simp only[hb]
   simpa using hu
 | j+1,hy=>simp at hy
/-- What 'append(v, x...)' leaves. -/
theorem Rp.run_append_row {α:Type} (d:Rp α) {P:Program} {e:Nat} {w:World} {F Fz:Nat->Prop} {v:Value} {xs ys:List α} {A:Option Addr} {c:Nat} (HO:d.own e w F v xs) (HY:d.row' w Fz A ys)
 (hFy:∀ k,Fz k->k < w.heap.size->some k ≠ v.ownBlock) (t ty:TypeId) (z:Value) (bytes:Nat)
 (ht:P.underlying t=some (.slice e)) (hinfo:(P.info? e).map (fun i=>(i.zero,i.size,i.bytes))=some (some z,d.sz,bytes)) (hz:z.cells.size=d.sz) (hs0:0 < d.sz) (hb0:0 < bytes) (hl:(xs.length+ys.length) * bytes<=140737488355328) :
 ∃ v1 w1,(Builtin.append_ #[t,t] ty #[v,.slice A ys.length c]).run P w=.ok v1 w1/\d.own e w1 (fun k=>(F k/\some k ≠ v.ownBlock)\/Fz k\/v1.ownBlock=some k) v1 (xs ++ ys)/\Upd (fun k=>v.ownBlock=some k) w w1/\(v1.ownBlock=v.ownBlock\/∃ b,v1.ownBlock=some b/\w.heap.size<=b):=by
 obtain⟨inner,hown,hF,hr⟩:=HO
 obtain⟨i0,hi,hzz⟩:=Option.map_eq_some_iff.1 hinfo
 simp only[Prod.mk.injEq] at hzz
 obtain⟨hz0,hz1,hz2⟩:=hzz
 have hlen:xs.length+ys.length<=140737488355328:=Nat.le_trans (Nat.le_mul_of_pos_right _ hb0) hl
 have main:∀ (ad:Addr) (news:List Value),Reps (d.rep w Fz) d.sz ys news->(∀ j u,news[j]?=some u->w.cell? (ad.add j)=some u)->(∀ u ∈ news,u.oneCell'=true) ->
  ∃ v1 w1,(Builtin.append_ #[t,t] ty #[v,.slice (some ad) ys.length c]).run P w=.ok v1 w1/\d.own e w1 (fun k=>(F k/\some k ≠ v.ownBlock)\/Fz k\/v1.ownBlock=some k) v1 (xs ++ ys)/\Upd (fun k=>v.ownBlock=some k) w w1/\(v1.ownBlock=v.ownBlock\/∃ b,v1.ownBlock=some b/\w.heap.size<=b):=by
  intro ad news hreps hnews h1
  obtain⟨v1,w1,hrun,hown1,hg,_,hat⟩:=run_append_own_at (P:=P) w 0 t ty e i0 z d.sz bytes ht hi hz0 hz1 hz2 hz hs0 v xs.length inner hown ad ys.length c news hreps.1 hnews h1 (by simp only[maxLen];omega) hl (by omega)
  have hat':v1.ownBlock=v.ownBlock\/∃ b,v1.ownBlock=some b/\w.heap.size<=b:=by
   rcases hat with hat | hat
   ·exact .inl hat
   ·exact .inr ⟨_,hat,Nat.le_refl _⟩
  exact⟨v1,w1,hrun,Rp.own_appended2 hr hreps hFy hown1 hg hat',Upd.x3o hg (fun k hk=>hk),hat'⟩
 rcases HY with rfl | ⟨b,o,rfl,hc⟩
 ·cases A with
  | none=>
    refine⟨v,w,run_append_nothing hown i0 ht hi,?_,Upd.refl _ _,.inl rfl⟩
    rw[List.append_nil]
    exact⟨inner,hown,fun k hk=>.inr (.inr hk),hr.imp fun x c hc=>d.move (fun k hk hl=>⟨⟨.inl hk,hk.2⟩,hl,rfl⟩) hc⟩
  | some ad=>exact main ad [] (Reps.nil _ _) (by simp) (by simp)
 ·obtain⟨news,h1,h2,h3⟩:=Rp.row_news hc
  refine main ⟨b,o,none⟩ news h1 (fun j u hu=>?_) h3
  have hadd:(⟨b,o,none⟩:Addr).add j=⟨b,o+j,none⟩:=by unfold Addr.add;split <;> simp_all
  rw[hadd]
  exact h2 j u hu
section
variable {P:Program} {ops:Array Oper} {rest:List Oper} {o:Oper} {a:Act} {Q:Exit->Act->World->Prop} {K:Act->World->Prop} {E:Prop}
theorem Rp.wp_append_row {α:Type} (d:Rp α) {e:Nat} {w:World} {F Fz:Nat->Prop} {v:Value} {xs ys:List α} {A:Option Addr} {c:Nat} (HO:d.own e w F v xs) (HY:d.row' w Fz A ys)
 (hFy:∀ k,Fz k->k < w.heap.size->some k ≠ v.ownBlock)
 (s x:Operand) (t:TypeId) (z:Value) (bytes:Nat) (ho:o.op=.call { callee:=.builtin .append,args:=#[s,x],argTypes:=#[t,t] })
 (ht:P.underlying t=some (.slice e)) (hinfo:(P.info? e).map (fun i=>(i.zero,i.size,i.bytes))=some (some z,d.sz,bytes)) (hz:z.cells.size=d.sz) (hs0:0 < d.sz) (hb0:0 < bytes)
 (hs:a.eval s=v) (hx:a.eval x=.slice A ys.length c) (hl:(xs.length+ys.length) * bytes<=140737488355328)
 (h:∀ v1 w1,d.own e w1 (fun k=>(F k/\some k ≠ v.ownBlock)\/Fz k\/v1.ownBlock=some k) v1 (xs ++ ys)->Upd (fun k=>v.ownBlock=some k) w w1->(v1.ownBlock=v.ownBlock\/∃ b,v1.ownBlock=some b/\w.heap.size<=b)->K (a.put o.dst v1) w1):o.wp P a w K Q:=by
 obtain⟨v1,w1,hr,h2,h3,h4⟩:=Rp.run_append_row d (P:=P) (c:=c) HO HY hFy t o.type z bytes ht hinfo hz hs0 hb0 hl
 unfold Oper.wp execOp
 simp only[ho,resolve,invoke,builtin,Sem.run_bind,Sem.run_pure,Result.andThen_ok,List.map_toArray,List.map_cons,List.map_nil,hs,hx,hr]
 exact h v1 w1 h2 h3 h4
theorem Rp.x1i {α:Type} (d:Rp α) {e:Nat} {w:World} {F Fz:Nat->Prop} {v:Value} {xs ys:List α} {A:Option Addr} {c:Nat} (HO:d.own e w F v xs) (HY:d.row' w Fz A ys)
 (hFy:∀ k,Fz k->k < w.heap.size->some k ≠ v.ownBlock) (hgd:o.guard=none)
 (s x:Operand) (t:TypeId) (z:Value) (bytes:Nat) (ho:o.op=.call { callee:=.builtin .append,args:=#[s,x],argTypes:=#[t,t] })
 (ht:P.underlying t=some (.slice e)) (hinfo:(P.info? e).map (fun i=>(i.zero,i.size,i.bytes))=some (some z,d.sz,bytes)) (hz:z.cells.size=d.sz) (hs0:0 < d.sz) (hb0:0 < bytes)
 (hs:a.eval s=v) (hx:a.eval x=.slice A ys.length c) (hl:(xs.length+ys.length) * bytes<=140737488355328)
 (h:∀ v1 w1,d.own e w1 (fun k=>(F k/\some k ≠ v.ownBlock)\/Fz k\/v1.ownBlock=some k) v1 (xs ++ ys)->Upd (fun k=>v.ownBlock=some k) w w1->(v1.ownBlock=v.ownBlock\/∃ b,v1.ownBlock=some b/\w.heap.size<=b)->wpList P ops Q rest (a.put o.dst v1) w1):wpList P ops Q (o :: rest) a w:=
 wpList_plain hgd fun _ hK=>Rp.wp_append_row d HO HY hFy s x t z bytes ho ht hinfo hz hs0 hb0 hs hx hl fun v1 w1 h2 h3 h4=>hK _ _ (h v1 w1 h2 h3 h4)
theorem Rp.x1g {α:Type} (d:Rp α) {e:Nat} {w:World} {F Fz:Nat->Prop} {v:Value} {xs ys:List α} {A:Option Addr} {c:Nat} (HO:d.own e w F v xs) (HY:d.row' w Fz A ys)
 (hFy:∀ k,Fz k->k < w.heap.size->some k ≠ v.ownBlock) (hgd:o.guard=none)
 (s x:Operand) (t:TypeId) (z:Value) (bytes:Nat) (ho:o.op=.call { callee:=.builtin .append,args:=#[s,x],argTypes:=#[t,t] })
 (ht:P.underlying t=some (.slice e)) (hinfo:(P.info? e).map (fun i=>(i.zero,i.size,i.bytes))=some (some z,d.sz,bytes)) (hz:z.cells.size=d.sz) (hs0:0 < d.sz) (hb0:0 < bytes)
 (hs:a.eval s=v) (hx:a.eval x=.slice A ys.length c) (hl:(xs.length+ys.length) * bytes<=140737488355328)
 (h:∀ v1 w1,d.own e w1 (fun k=>(F k/\some k ≠ v.ownBlock)\/Fz k\/v1.ownBlock=some k) v1 (xs ++ ys)->Upd (fun k=>v.ownBlock=some k) w w1->(v1.ownBlock=v.ownBlock\/∃ b,v1.ownBlock=some b/\w.heap.size<=b)->K (a.put o.dst v1) w1) :
 if Region.wanted o (yielded ops a.tmps)=true then Oper.wp P o a w K Q else E:=by
 have hw:Region.wanted o (yielded ops a.tmps)=true:=by simp[Region.wanted,hgd]
 rw[if_pos hw]
 exact Rp.wp_append_row d HO HY hFy s x t z bytes ho ht hinfo hz hs0 hb0 hs hx hl h
end
end Go.Proofs.YtofjodppljnlaaaGreatDoor
namespace Go.Proofs.YtofjodppljnlaaaGreatDoor
open Go
section
variable {P:Program} {ops:Array Oper} {Q:Exit->Act->World->Prop} {md:Region.Mode} {S:World->Prop} {L:Nat}
def x3p (P:Program) (md:Region.Mode) (ops:Array Oper) (Q:Exit->Act->World->Prop) (S:World->Prop) (L:Nat):Nat->Array Bool->Act->World->Prop
 | 0,listed,a,w=>Region.ready md ops listed=[]/\Q .normal a w
 | fuel+1,listed,a,w=>
   (Region.ready md ops listed=[]->Q .normal a w) /\
   ∀ i ∈ Region.ready md ops listed,wpOp P ops Q i (fun a' w'=>(i ≠ L->S w')/\x3p P md ops Q S L fuel (listed.setIfInBounds i true) a' w') a w
theorem wpAny_of_T:∀ (fuel:Nat) (listed:Array Bool) (a:Act) (w:World),x3p P md ops Q S L fuel listed a w->wpAny P md ops Q fuel listed a w
 | 0,_,_,_,h=>h
 | fuel+1,_,_,_,h=>⟨h.1,fun i hi=>wpOp_mono (fun a' w' h'=>wpAny_of_T fuel _ a' w' h'.2) (h.2 i hi)⟩
theorem wpAnyT_first {i:Nat} {oi:Oper} {v:Value} (hi:ops[i]?=some oi) (hsel:∀ (j:Nat) (o:Oper) cs b,ops[j]?=some o->o.op ≠ .select cs b)
 (hQ:∀ c a w,Q (.panic c) (a.put oi.dst v) w->Q (.panic c) a w) (hL:∃ oL,ops[L]?=some oL/\∃ e ∈ oL.after,Region.binds md e=true/\e.on=i) :
 ∀ (fuel:Nat) (listed:Array Bool) (a:Act) (w:World),
  (∀ j oj,ops[j]?=some oj->j ≠ i->listed.getD j true=false->(∀ e ∈ oj.after,Region.binds md e=true->e.on ≠ i)->oi.apart ops oj=true) ->
  i ∈ Region.ready md ops listed->YieldsIf P ops S oi v a->S w ->
  x3p P md ops Q S L fuel (listed.setIfInBounds i true) (a.put oi.dst v) w->x3p P md ops Q S L (fuel+1) listed a w:=by
 have notL:∀ (listed:Array Bool) (j:Nat),i ∈ Region.ready md ops listed->j ∈ Region.ready md ops listed->j ≠ L:=by
  rintro listed j hr hj rfl
  obtain⟨oL,hoL,e,he,hb,heq⟩:=hL
  obtain⟨_,oj,hoj,hall⟩:=mem_ready.1 hj
  rw[hoL] at hoj
  cases hoj
  have h1:=hall e he hb
  have h0:=(mem_ready.1 hr).1
  rw[heq] at h1
  rcases Nat.lt_or_ge i listed.size with h' | h'
  ·simp[h'] at h0 h1;rw[h0] at h1;cases h1
  ·simp[Array.getElem?_eq_none h'] at h1
 intro fuel
 induction fuel with
 | zero=>
   intro listed a w _ hr hy hS H
   refine⟨fun h=>(by rw[h] at hr;cases hr),fun j hj=>?_⟩
   by_cases hji:j=i
   ·subst hji;exact hy.wpOp hi hS ⟨fun _=>hS,H⟩
   ·have:=ready_mono hj hji
    rw[H.1] at this
    cases this
 | succ fuel ih=>
   intro listed a w hfree hr hy hS H
   refine⟨fun h=>(by rw[h] at hr;cases hr),fun j hj=>?_⟩
   by_cases hji:j=i
   ·subst hji;exact hy.wpOp hi hS ⟨fun _=>hS,H⟩
   ·have hjL:=notL listed j hr hj
    have h1:=H.2 j (ready_mono hj hji)
    obtain⟨hjun,oj,hoj,hall⟩:=mem_ready.1 hj
    have hnot:∀ e ∈ oj.after,Region.binds md e=true->e.on ≠ i:=fun e he hb heq=>by
     have h1:=hall e he hb
     have h0:=(mem_ready.1 hr).1
     rw[heq] at h1
     rcases Nat.lt_or_ge i listed.size with h' | h'
     ·simp[h'] at h0 h1;rw[h0] at h1;cases h1
     ·simp[Array.getElem?_eq_none h'] at h1
    have h2:=wpOp_putIf hoj (hfree j oj hoj hji hjun hnot) (fun cs b=>hsel i oi cs b hi) (fun cs b=>hsel j oj cs b hoj) hQ hy h1
    have hfree':∀ k ok,ops[k]?=some ok->k ≠ i->(listed.setIfInBounds j true).getD k true=false ->
     (∀ e ∈ ok.after,Region.binds md e=true->e.on ≠ i)->oi.apart ops ok=true:=fun k ok hk hki hun hno=>by
     refine hfree k ok hk hki ?_ hno
     by_cases hjk:j=k
     ·subst hjk;exact hjun
     ·rw[getD_set_ne true hjk] at hun;exact hun
    refine wpOp_mono (fun a' w' h3=>⟨h3.2.1,ih (listed.setIfInBounds j true) a' w' hfree' (ready_mono hr (Ne.symm hji)) h3.1 (h3.2.1 hjL) ?_⟩) h2
    rw[Array.setIfInBounds_comm _ _ hji]
    exact h3.2.2
def waitsOn (md:Region.Mode) (ops:Array Oper) (L i:Nat):Bool:=match ops[L]? with
 | some o=>o.after.any fun e=>Region.binds md e && e.on == i
 | none=>false
theorem waitsOn_spec {i:Nat} (h:waitsOn md ops L i=true):∃ oL,ops[L]?=some oL/\∃ e ∈ oL.after,Region.binds md e=true/\e.on=i:=by
 unfold waitsOn at h
 split at h
 ·rename_i o ho
  obtain⟨e,he,hb⟩:=Array.any_eq_true'.1 h
  simp only[Bool.and_eq_true,beq_iff_eq] at hb
  exact⟨o,ho,e,he,hb.1,hb.2⟩
 ·cases h
theorem x1e {i:Nat} {oi:Oper} {v:Value} {fuel:Nat} {listed:Array Bool} {a:Act} {w:World} (hi:ops[i]?=some oi)
 (hs:Region.noSelect ops=true) (hf:Region.free md ops listed i=true) (hr:(Region.ready md ops listed).contains i=true) (hL:waitsOn md ops L i=true)
 (hQ:∀ c a w,Q (.panic c) (a.put oi.dst v) w->Q (.panic c) a w) (hy:YieldsIf P ops S oi v a) (hS:S w)
 (h:x3p P md ops Q S L fuel (listed.setIfInBounds i true) (a.put oi.dst v) w):x3p P md ops Q S L (fuel+1) listed a w:=
 wpAnyT_first hi (Region.noSelect_spec hs) hQ (waitsOn_spec hL) fuel listed a w (Region.free_spec hi hf) (by simpa using hr) hy hS h
theorem wpAnyT_one {i:Nat} {o:Oper} {fuel:Nat} {listed:Array Bool} {a:Act} {w:World} (hr:Region.ready md ops listed=[i]) (ho:ops[i]?=some o)
 (h:∀ K':Act->World->Prop,Shut (∀ a w,(i ≠ L->S w)->((i ≠ L->S w)->x3p P md ops Q S L fuel (listed.setIfInBounds i true) a w)->K' a w)->if Region.wanted o (yielded ops a.tmps)=true then Oper.wp P o a w K' Q else K' (a.put o.dst undef) w) :
 x3p P md ops Q S L (fuel+1) listed a w:=by
 refine⟨fun h=>(by rw[hr] at h;cases h),fun j hj=>?_⟩
 rw[hr] at hj
 obtain rfl:=List.mem_singleton.1 hj
 exact wpOp_step ho (fun K' hK=>h K' (fun a w hS hW=>hK a w ⟨hS,hW hS⟩))
theorem x0l {listed:Array Bool} {a:Act} {w:World} (hr:Region.ready md ops listed=[]) (h:Q .normal a w):∀ fuel,x3p P md ops Q S L fuel listed a w
 | 0=>⟨hr,h⟩
 | _+1=>⟨fun _=>h,by rw[hr];simp⟩
theorem x0m (S:World->Prop) (L:Nat) {id:Nat} {a:Act} {w:World} (hm:P.follows .mixedOrders=true) (hS:S w.drew)
 (h:S w.drew->x3p P .any ops Q S L ops.size (Array.replicate ops.size false) a w.drew):(Code.region id ops true).wp P Q a w:=
 wp_region_any hm (wpAny_of_T _ _ _ _ (h hS))
theorem opAt {l:List Oper} {i:Nat} {o:Oper} (h:l[i]?=some o):(l.toArray)[i]?=some o:=by simpa using h
def okH (md:Region.Mode) (ops:Array Oper) (listed:Array Bool) (i:Nat):Bool:=Region.noSelect ops && (Region.free md ops listed i && (Region.ready md ops listed).contains i)
theorem x2m {listed:Array Bool} {i:Nat} (h:okH md ops listed i=true):Region.noSelect ops=true/\Region.free md ops listed i=true/\(Region.ready md ops listed).contains i=true:=by
 unfold okH at h
 rw[Bool.and_eq_true,Bool.and_eq_true] at h
 exact h
theorem takeH (i:Nat) {oi:Oper} {v:Value} {fuel:Nat} {listed:Array Bool} {a:Act} {w:World} (hi:ops[i]?=some oi) (hc:okH md ops listed i=true)
 (hQ:∀ c a w,Q (.panic c) (a.put oi.dst v) w->Q (.panic c) a w) (h1:Region.wanted oi (yielded ops a.tmps)=true) (h2:∀ w,S w->(execOp a.eval oi).run P w=.ok (.value v) w) (hS:S w)
 (h:wpAnyH P md ops Q S fuel (listed.setIfInBounds i true) (a.put oi.dst v) w):wpAnyH P md ops Q S (fuel+1) listed a w:=
 wpAnyH_take hi (x2m hc).1 (x2m hc).2.1 (x2m hc).2.2 hQ (Or.inl ⟨h1,h2⟩) hS h
theorem takeT (i:Nat) {oi:Oper} {v:Value} {fuel:Nat} {listed:Array Bool} {a:Act} {w:World} (hi:ops[i]?=some oi) (hc:(okH md ops listed i && waitsOn md ops L i)=true)
 (hQ:∀ c a w,Q (.panic c) (a.put oi.dst v) w->Q (.panic c) a w) (h1:Region.wanted oi (yielded ops a.tmps)=true) (h2:∀ w,S w->(execOp a.eval oi).run P w=.ok (.value v) w) (hS:S w)
 (h:x3p P md ops Q S L fuel (listed.setIfInBounds i true) (a.put oi.dst v) w):x3p P md ops Q S L (fuel+1) listed a w:=by
 rw[Bool.and_eq_true] at hc
 exact x1e hi (x2m hc.1).1 (x2m hc.1).2.1 (x2m hc.1).2.2 hc.2 hQ (Or.inl ⟨h1,h2⟩) hS h
end
section
variable {P:Program} {ops:Array Oper} {Q:Exit->Act->World->Prop} {md:Region.Mode} {S:World->Prop} {L:Nat}
theorem zH (i:Nat) {oi:Oper} {v:Value} {fuel:Nat} {listed:Array Bool} {a:Act} {w:World}
 (h:wpAnyH P md ops Q S fuel (listed.setIfInBounds i true) (a.put oi.dst v) w) (hi:ops[i]?=some oi:=by exact opAt rfl) (hc:okH md ops listed i=true:=by kernel_rfl)
 (hQ:∀ c a w,Q (.panic c) (a.put oi.dst v) w->Q (.panic c) a w:=by exact fun _ _ _ h=>h) (h1:Region.wanted oi (yielded ops a.tmps)=true:=by rfl)
 (h2:∀ w,S w->(execOp a.eval oi).run P w=.ok (.value v) w:=by intro w hSw;(try dsimp only at hSw);go_simp;try with_reducible rfl) (hS:S w:=by assumption):wpAnyH P md ops Q S (fuel+1) listed a w:=
 takeH i hi hc hQ h1 h2 hS h
theorem sH (i:Nat) {oi:Oper} {fuel:Nat} {listed:Array Bool} {a:Act} {w:World}
 (h:wpAnyH P md ops Q S fuel (listed.setIfInBounds i true) (a.put oi.dst undef) w) (hi:ops[i]?=some oi:=by exact opAt rfl) (hc:okH md ops listed i=true:=by kernel_rfl)
 (hQ:∀ c a w,Q (.panic c) (a.put oi.dst undef) w->Q (.panic c) a w:=by exact fun _ _ _ h=>h) (h1:Region.wanted oi (yielded ops a.tmps)=false:=by rfl)
 (hS:S w:=by assumption):wpAnyH P md ops Q S (fuel+1) listed a w:=
 wpAnyH_take hi (x2m hc).1 (x2m hc).2.1 (x2m hc).2.2 hQ (Or.inr ⟨h1,rfl⟩) hS h
theorem zT (i:Nat) {oi:Oper} {v:Value} {fuel:Nat} {listed:Array Bool} {a:Act} {w:World}
 (h:x3p P md ops Q S L fuel (listed.setIfInBounds i true) (a.put oi.dst v) w) (hi:ops[i]?=some oi:=by exact opAt rfl) (hc:(okH md ops listed i && waitsOn md ops L i)=true:=by kernel_rfl)
 (hQ:∀ c a w,Q (.panic c) (a.put oi.dst v) w->Q (.panic c) a w:=by exact fun _ _ _ h=>h) (h1:Region.wanted oi (yielded ops a.tmps)=true:=by rfl)
 (h2:∀ w,S w->(execOp a.eval oi).run P w=.ok (.value v) w:=by intro w hSw;(try dsimp only at hSw);go_simp;try with_reducible rfl) (hS:S w:=by assumption):x3p P md ops Q S L (fuel+1) listed a w:=
 takeT i hi hc hQ h1 h2 hS h
theorem oT (i:Nat) {o:Oper} {fuel:Nat} {listed:Array Bool} {a:Act} {w:World}
 (h:∀ K':Act->World->Prop,Shut (∀ a w,(i ≠ L->S w)->((i ≠ L->S w)->x3p P md ops Q S L fuel (listed.setIfInBounds i true) a w)->K' a w)->if Region.wanted o (yielded ops a.tmps)=true then Oper.wp P o a w K' Q else K' (a.put o.dst undef) w)
 (hr:Region.ready md ops listed=[i]:=by kernel_rfl) (ho:ops[i]?=some o:=by exact opAt rfl):x3p P md ops Q S L (fuel+1) listed a w:=
 wpAnyT_one hr ho h
end
end Go.Proofs.YtofjodppljnlaaaGreatDoor
namespace Go.Proofs.YtofjodppljnlaaaGreatDoor
open Go.RowKit
theorem bytes_ne {s u:ByteArray} (h:¬ s=u):(s.toList == u.toList)=false:=by
 rw[beq_eq_false_iff_ne]
 intro e
 rw[ByteArray.toList_eq,ByteArray.toList_eq] at e
 exact h (ByteArray.ext (Array.toList_inj.1 e))
/-- The types of a name. -/
def typesOf:List Grp->ByteArray->List Int
 | [],_=>[]
 | g :: r,nm=>if g.name=nm then g.types else typesOf r nm
theorem types_calls {g:List Grp} (nm:ByteArray) {w:World} (hr:grpR.row w F A g) (hb:g.length<=1048576) :
 Calls Tryz.prog 188 #[.slice A g.length c,.string nm] w fun r w'=>(∃ A1 c1,r=.returned (.slice A1 (typesOf g nm).length c1)/\(typesOf g nm).length<=c1/\intR.row w F A1 (typesOf g nm))/\Pure w w':=by
 have HR:=mK hr
 clear hr
 go_enter Tryz.func188,Tryz.ntmps188
 go_wp2
 go_loopg [9] g.length (fun gg i wr=>∃ k:Nat,k+gg=g.length/\i=.int .i64 k/\As (typesOf (g.drop k) nm=typesOf g nm)/\As (Pure w wr))
 case atStart=>exact⟨0,by omega,rfl,⟨rfl⟩,⟨Upd.refl _ _⟩⟩
 case round=>
  obtain⟨k,hk,rfl,HT,HP⟩:=hrel
  by_cases hlt:k < g.length
  ·obtain⟨x,hx⟩:=gS hlt
   obtain⟨b,o,A1,c1,rfl,hF,hbl,d0,d1,hle1,hrow1⟩:=grp_at (Rp.x01 HR.o HP.o) hx
   obtain⟨b',o',A1',c1',hA',hF',hbl',d0',d1',hle1',hrow1'⟩:=grp_at HR.o hx
   obtain⟨g1,rfl⟩:=sC1 (by omega:0 < gk)
   have hd:=x53 hx
   rw[hd] at HT
   have HR1:=mK hrow1'
   have HK:=mK hk
   obtain⟨rfl,rfl⟩:b=b'/\o=o':=by simpa using hA'
   have hsame:=(HP.o.cell (o:=o+k * 2+1) hbl' (fun h=>h)).symm.trans d1
   rw[d1'] at hsame
   simp at hsame
   obtain⟨rfl,rfl⟩:=hsame
   have HD':=mK hd
   clear hrow1 hrow1' hk hx d0' d1' hd
   by_cases hn:x.name=nm
   ·have HV:As (x.types=typesOf g nm):=⟨by rw[<- HT.o,typesOf,if_pos hn]⟩
    subst hn
    clear HT
    go_wp2
    go_ret
    exact⟨⟨A1',c1',by rw[<- HV.o];rfl,by rw[<- HV.o];exact hle1',by rw[<- HV.o];exact HR1.o⟩,HP.o.alloc _⟩
   ·have HV:As (typesOf (g.drop (k+1)) nm=typesOf g nm):=⟨by rw[<- HT.o,typesOf,if_neg hn]⟩
    have hn2:=bytes_ne hn
    clear HT
    go_wp2
    go_roundg g1
    case measure=>omega
    case rel=>exact⟨k+1,by have:=HK.o;omega,by go_num,HV,⟨HP.o.alloc _⟩⟩
  ·have hkl:k=g.length:=by omega
   subst hkl
   rw[List.drop_length] at HT
   have HT2:As (typesOf g nm=[]):=⟨by rw[<- HT.o];rfl⟩
   clear HT
   go_wp2
   go_ret
   exact⟨⟨none,0,by rw[HT2.o];rfl,by rw[HT2.o];simp,by rw[HT2.o];exact .inl rfl⟩,HP.o⟩
def idxP {α:Type} (P:α->Bool):Nat->List α->Int
 | _,[]=>-1
 | k,x :: r=>if P x=true then (k:Int) else idxP P (k+1) r
theorem idxP_any {α:Type} (P:α->Bool) (l:List α) (k:Nat):decide (idxP P k l >= 0)=l.any P:=by
 induction l generalizing k with
 | nil=>rfl
 | cons x r ih=>
   by_cases h:P x=true
   ·simp[idxP,h]
   ·simp[idxP,h,ih]
abbrev Clo (bg:Nat):Value:=.func (.func 190) #[] #[.pointer (some ⟨bg,0,none⟩)]
theorem IndexFunc_calls {l:List Ex} (bg:Nat) (P:Ex->Bool) (hr:exR.row w F A l) (hb:l.length<=1048576 * 4)
 (hc:∀ x ∈ l,∀ A1 c1 w1,Pure w w1->exR.row w1 F A1 x.l->Calls Tryz.prog 190 #[x.val A1 c1,.pointer (some ⟨bg,0,none⟩)] w1 fun r w'=>r=.returned (.bool (P x))/\Pure w1 w') :
 Calls Tryz.prog 212 #[.slice A l.length c,Clo bg] w fun r w'=>r=.returned (.int .i64 (idxP P 0 l))/\Pure w w':=by
 have HR:=mK hr
 have HC:=mK hc
 clear hr hc
 go_enter Tryz.func212,Tryz.ntmps212
 go_wp2
 go_loopg [8] l.length (fun g i wr=>∃ k:Nat,k+g=l.length/\i=.int .i64 k/\As (idxP P k (l.drop k)=idxP P 0 l)/\As (Pure w wr))
 case atStart=>exact⟨0,by omega,rfl,⟨rfl⟩,⟨Upd.refl _ _⟩⟩
 case round=>
  obtain⟨k,hk,rfl,HT,HP⟩:=hrel
  by_cases hlt:k < l.length
  ·obtain⟨x,hx⟩:=gS hlt
   obtain⟨b,o,A1,c1,rfl,hF,hbl,d0,d1,d2,hle1,hrow1⟩:=ex_at (Rp.x01 HR.o HP.o) hx
   obtain⟨g1,rfl⟩:=sC1 (by omega:0 < gk)
   rw[x53 hx] at HT
   have HX:=mK (List.mem_of_getElem? hx)
   have HR1:=mK hrow1
   have HK:=mK hk
   clear hrow1 hk hx
   cases hq:P x
   ·have HV:As (idxP P (k+1) (l.drop (k+1))=idxP P 0 l):=⟨by rw[<- HT.o];simp[idxP,hq]⟩
    clear HT
    go_wp2_with (go_at_call 190;refine(HC.o x HX.o _ c1 _ HP.o HR1.o).mono ?_;rintro e w1 ⟨rfl,hu⟩;rw[hq];have HU:=mK hu;clear hu)
    go_roundg g1
    case measure=>omega
    case rel=>exact⟨k+1,by have:=HK.o;omega,by go_num,HV,⟨HP.o.tt HU.o⟩⟩
   ·have HV:As ((k:Int)=idxP P 0 l):=⟨by rw[<- HT.o];simp[idxP,hq]⟩
    clear HT
    go_wp2_with (go_at_call 190;refine(HC.o x HX.o _ c1 _ HP.o HR1.o).mono ?_;rintro e w1 ⟨rfl,hu⟩;rw[hq];have HU:=mK hu;clear hu)
    go_ret
    exact⟨x3u HV.o,HP.o.tt HU.o⟩
  ·have hkl:k=l.length:=by omega
   subst hkl
   rw[List.drop_length] at HT
   have HV:As ((-1:Int)=idxP P 0 l):=⟨HT.o⟩
   clear HT
   go_wp2
   go_ret
   exact⟨x3u HV.o,HP.o⟩
theorem ContainsFunc_calls {l:List Ex} (bg:Nat) (P:Ex->Bool) (hr:exR.row w F A l) (hb:l.length<=1048576 * 4)
 (hc:∀ x ∈ l,∀ A1 c1 w1,Pure w w1->exR.row w1 F A1 x.l->Calls Tryz.prog 190 #[x.val A1 c1,.pointer (some ⟨bg,0,none⟩)] w1 fun r w'=>r=.returned (.bool (P x))/\Pure w1 w') :
 Calls Tryz.prog 189 #[.slice A l.length c,Clo bg] w fun r w'=>r=.returned (.bool (l.any P))/\Pure w w':=by
 have HC:=mK (IndexFunc_calls (c:=c) bg P hr hb hc)
 have HV:=mK (idxP_any P l 0)
 clear hr hc
 go_enter Tryz.func189,Tryz.ntmps189
 go_wp2_with (go_at_call 212;refine HC.o.mono ?_;rintro e w1 ⟨rfl,hu⟩;have HU:=mK hu;clear hu)
 go_ret
 exact⟨x0h HV.o,HU.o⟩
mutual
def Ex.x2p (g:List Grp):Ex->Bool
 | .mk k nm l=>if k=1 then decide (0 < (typesOf g nm).length) else Ex.x57 g l
def Ex.x57 (g:List Grp):List Ex->Bool
 | []=>true
 | x :: r=>Ex.x2p g x && Ex.x57 g r
end
theorem Ex.nameds_any (g:List Grp) (l:List Ex):Ex.x57 g l=!(l.any (fun x=>!(Ex.x2p g x))):=by
 induction l with
 | nil=>rfl
 | cons x r ih=>simp[Ex.x57,ih]
theorem clo_calls {d:Nat} {x:Ex} {g:List Grp} (bg:Nat) (hbg:w.cell? ⟨bg,0,none⟩=some (.slice B g.length d)) (hbl:bg < w.heap.size)
 (HI:∀ w1,Pure w w1->Calls Tryz.prog 162 #[x.val A c,.slice B g.length d] w1 fun r w'=>r=.returned (.bool (x.x2p g))/\Pure w1 w') :
 Calls Tryz.prog 190 #[x.val A c,.pointer (some ⟨bg,0,none⟩)] w fun r w'=>r=.returned (.bool (!(x.x2p g)))/\Pure w w':=by
 have HC:=mK HI
 clear HI
 obtain⟨k0,nm,l⟩:=x
 go_enter Tryz.func190,Tryz.ntmps190
 go_wp2_with (go_at_call 162;refine(HC.o _ aU).mono ?_;rintro e w1 ⟨rfl,hu⟩;have HU:=mK (Upd.trans aP hu (fun _ _ h=>h));clear hu)
 go_ret
 exact⟨rfl,HU.o⟩
theorem named_all (N:Nat):∀ (e:Ex),e.wt<=N->N<=1048576 * 4->∀ (F G:Nat->Prop) (A B:Option Addr) (c d:Nat) (g:List Grp) (w:World),exR.row w F A e.l->grpR.row w G B g->g.length<=1048576 ->
 Calls Tryz.prog 162 #[e.val A c,.slice B g.length d] w fun r w'=>r=.returned (.bool (e.x2p g))/\Pure w w':=by
 induction N with
 | zero=>intro e he;have:=e.wt_pos;omega
 | succ N ih=>
   intro e he hN F G A B c d g w hr hg hgl
   obtain⟨k0,nm,l⟩:=e
   have HI:=mK (fun (x:Ex) (hx:x.wt<=N)=>ih x hx (by omega))
   have HR:=mK hr
   have HG:=mK hg
   have hc0:Ex.wts l<=N:=by simp only[Ex.wt] at he;omega
   have hll:=Ex.wts_len l
   clear hr hg he ih
   by_cases h1:k0=1
   ·subst h1
    have HV:As (Ex.x2p g (.mk 1 nm l)=decide (0 < (typesOf g nm).length)):=⟨by rw[Ex.x2p,if_pos rfl]⟩
    go_enter Tryz.func162,Tryz.ntmps162
    go_wp2_with (go_at_call 188;refine(types_calls nm (Rp.x01 HG.o (aP.alloc _)) hgl).mono ?_;rintro e w1 ⟨⟨A1,c1,rfl,_,_⟩,hu⟩;have HU:=mK (Upd.trans ((Upd.alloc1 (fun _=>False) w _).alloc _) hu (fun _ _ h=>h));clear hu)
    go_ret
    exact⟨x0h HV.o.symm,HU.o⟩
   ·have e1:(k0 == 1)=false:=by simp[h1]
    have HV:As (Ex.x2p g (.mk k0 nm l)=!(l.any (fun x=>!(Ex.x2p g x)))):=⟨by rw[Ex.x2p,if_neg h1,Ex.nameds_any]⟩
    clear h1
    show Calls Tryz.prog 162 #[.agg #[.int .i64 k0,.string nm,.slice A l.length c],.slice B g.length d] w _
    have HB:=mK (show Pure w ((w.alloc (.cells #[.int .i64 k0,.string nm,.slice A l.length c] 92)).alloc (.cells #[.slice B g.length d] 86)) from aP.alloc _)
    have HC:=mK (show ((w.alloc (.cells #[.int .i64 k0,.string nm,.slice A l.length c] 92)).alloc (.cells #[.slice B g.length d] 86)).cell? ⟨w.heap.size+1,0,none⟩=some (.slice B g.length d) by
     have:=heap_alloc_new (w.alloc (.cells #[.int .i64 k0,.string nm,.slice A l.length c] 92)) (.cells #[.slice B g.length d] 86)
     rw[show (w.alloc (.cells #[.int .i64 k0,.string nm,.slice A l.length c] 92)).heap.size=w.heap.size+1 by simp] at this
     unfold World.cell?;simp only[this];rfl)
    have HS:=mK (show w.heap.size+1 < ((w.alloc (.cells #[.int .i64 k0,.string nm,.slice A l.length c] 92)).alloc (.cells #[.slice B g.length d] 86)).heap.size by simp)
    generalize hw0:(w.alloc (.cells #[.int .i64 k0,.string nm,.slice A l.length c] 92)).alloc (.cells #[.slice B g.length d] 86)=w0 at HB HC HS
    have HCF:As (Calls Tryz.prog 189 #[.slice A l.length c,Clo (w.heap.size+1)] w0 fun r w'=>r=.returned (.bool (l.any (fun x=>!(x.x2p g))))/\Pure w0 w'):=⟨by
     refine ContainsFunc_calls (F:=F) (w.heap.size+1) (fun x=>!(x.x2p g)) (Rp.x01 HR.o HB.o) (by omega) ?_
     intro x hx A1 c1 w1 hp hrow
     refine clo_calls (B:=B) (d:=d) _ ((hp.cell HS.o (fun h=>h)).trans HC.o) (Nat.lt_of_lt_of_le HS.o hp.size) ?_
     intro w2 hp2
     exact HI.o x (Nat.le_trans (Ex.wt_mem hx) hc0) F G A1 B c1 d g w2 (Rp.x01 hrow hp2) (Rp.x01 (Rp.x01 HG.o (HB.o.tt hp)) hp2) hgl⟩
    subst hw0
    go_enter Tryz.func162,Tryz.ntmps162
    go_wp2_with (go_at_call 189;refine HCF.o.mono ?_;rintro e w1 ⟨rfl,hu⟩;have HU:=mK (HB.o.tt hu);clear hu)
    go_ret
    exact⟨x0h HV.o.symm,HU.o⟩
structure Spec where
 name:ByteArray
 expr:ByteArray
 leaf:Bool
 marks:Int
 least:Int
 most:Int
 lines:Bool
abbrev Spec.val (s:Spec):Value:=.agg #[.string s.name,.string s.expr,.bool s.leaf,.int .i64 s.marks,.int .i64 s.least,.int .i64 s.most,.bool s.lines]
abbrev Spec.cs (s:Spec):List Value:=[.string s.name,.string s.expr,.bool s.leaf,.int .i64 s.marks,.int .i64 s.least,.int .i64 s.most,.bool s.lines]
def specR:Rp Spec where
 sz:=7
 rep:=fun _ _ x cs=>cs=x.cs
 len:=fun h=>by rw[h];rfl
 one:=fun h u hu=>by
  rw[h] at hu
  simp[Spec.cs] at hu
  rcases hu with rfl | rfl | rfl | rfl | rfl | rfl | rfl <;> rfl
 move:=fun _ h=>h
/-- A spec of a row that is read. -/
theorem x58 {xs:List Spec} (h:specR.row w F A xs) {j:Nat} {x:Spec} (hx:xs[j]?=some x) :
 ∃ b o,A=some ⟨b,o,none⟩/\F b/\b < w.heap.size/\w.cell? ⟨b,o+j * 7,none⟩=some (.string x.name)/\w.cell? ⟨b,o+j * 7+1,none⟩=some (.string x.expr)/\w.cell? ⟨b,o+j * 7+2,none⟩=some (.bool x.leaf)/\w.cell? ⟨b,o+j * 7+3,none⟩=some (.int .i64 x.marks)/\w.cell? ⟨b,o+j * 7+4,none⟩=some (.int .i64 x.least)/\w.cell? ⟨b,o+j * 7+5,none⟩=some (.int .i64 x.most)/\w.cell? ⟨b,o+j * 7+6,none⟩=some (.bool x.lines):=by
 obtain⟨b,o,cs,hA,hF,hb,hr,hc⟩:=Rp.x42 h hx
 have hr':cs=x.cs:=hr
 subst hr'
 exact⟨b,o,hA,hF,hb,hc 0 _ rfl,hc 1 _ rfl,hc 2 _ rfl,hc 3 _ rfl,hc 4 _ rfl,hc 5 _ rfl,hc 6 _ rfl⟩
def fitsB (s:Spec):Bool:=decide (0<=s.marks) && decide (s.marks < 8) && decide (0<=s.least) && decide (s.least<=s.most) && decide (s.most < 16) && (!s.leaf || decide (s.expr.size=0))
theorem fits_calls (s:Spec) (w:World):Calls Tryz.prog 122 #[s.val] w fun r w'=>r=.returned (.bool (fitsB s))/\Pure w w':=by
 have he:=x1h s.expr
 cases hq:decide (s.expr.size=0)
 all_goals
  rw[hq] at he
  cases hl:s.leaf
  all_goals
   have HV:=mK (show fitsB s=(decide (0<=s.marks) && decide (s.marks < 8) && decide (0<=s.least) && decide (s.least<=s.most) && decide (s.most < 16) && (!s.leaf || decide (s.expr.size=0))) from rfl)
   rw[hq,hl] at HV
   obtain⟨nm,ex,lf,mk,le,mo,ln⟩:=s
   dsimp only at hl he
   subst hl
   clear hq
   go_enter Tryz.func122,Tryz.ntmps122
   go_wp2
   all_goals go_ret
   all_goals exact⟨x0h (by rw[HV.o];rw[Bool.eq_iff_iff];simp <;> omega),rU.alloc _⟩
abbrev CloS:Value:=.func (.func 121) #[] #[]
theorem new1_calls (s:Spec) (w:World):Calls Tryz.prog 121 #[s.val] w fun r w'=>r=.returned (.bool (!fitsB s))/\Pure w w':=by
 have HC:=mK (fun W=>fits_calls s W)
 generalize fitsB s=q at *
 obtain⟨nm,ex,lf,mk,le,mo,ln⟩:=s
 go_enter Tryz.func121,Tryz.ntmps121
 go_wp2_with (go_at_call 122;refine(HC.o _).mono ?_;rintro e w1 ⟨rfl,hu⟩;have HU:=mK hu;clear hu)
 go_ret
 exact⟨rfl,aU.tt HU.o⟩
theorem IndexFuncS_calls {l:List Spec} (P:Spec->Bool) (hr:specR.row w F A l) (hb:l.length<=1048576 * 4)
 (hc:∀ x ∈ l,∀ w1,Pure w w1->Calls Tryz.prog 121 #[x.val] w1 fun r w'=>r=.returned (.bool (P x))/\Pure w1 w') :
 Calls Tryz.prog 158 #[.slice A l.length c,CloS] w fun r w'=>r=.returned (.int .i64 (idxP P 0 l))/\Pure w w':=by
 have HR:=mK hr
 have HC:=mK hc
 clear hr hc
 go_enter Tryz.func158,Tryz.ntmps158
 go_wp2
 go_loopg [8] l.length (fun g i wr=>∃ k:Nat,k+g=l.length/\i=.int .i64 k/\As (idxP P k (l.drop k)=idxP P 0 l)/\As (Pure w wr))
 case atStart=>exact⟨0,by omega,rfl,⟨rfl⟩,⟨Upd.refl _ _⟩⟩
 case round=>
  obtain⟨k,hk,rfl,HT,HP⟩:=hrel
  by_cases hlt:k < l.length
  ·obtain⟨x,hx⟩:=gS hlt
   obtain⟨b,o,rfl,hF,hbl,d0,d1,d2,d3,d4,d5,d6⟩:=x58 (Rp.x01 HR.o HP.o) hx
   obtain⟨g1,rfl⟩:=sC1 (by omega:0 < gk)
   rw[x53 hx] at HT
   have HX:=mK (List.mem_of_getElem? hx)
   have HK:=mK hk
   clear hk hx
   cases hq:P x
   ·have HV:As (idxP P (k+1) (l.drop (k+1))=idxP P 0 l):=⟨by rw[<- HT.o];simp[idxP,hq]⟩
    clear HT
    go_wp2_with (go_at_call 121;refine(HC.o x HX.o _ HP.o).mono ?_;rintro e w1 ⟨rfl,hu⟩;rw[hq];have HU:=mK hu;clear hu)
    go_roundg g1
    case measure=>omega
    case rel=>exact⟨k+1,by have:=HK.o;omega,by go_num,HV,⟨HP.o.tt HU.o⟩⟩
   ·have HV:As ((k:Int)=idxP P 0 l):=⟨by rw[<- HT.o];simp[idxP,hq]⟩
    clear HT
    go_wp2_with (go_at_call 121;refine(HC.o x HX.o _ HP.o).mono ?_;rintro e w1 ⟨rfl,hu⟩;rw[hq];have HU:=mK hu;clear hu)
    go_ret
    exact⟨x3u HV.o,HP.o.tt HU.o⟩
  ·have hkl:k=l.length:=by omega
   subst hkl
   rw[List.drop_length] at HT
   have HV:As ((-1:Int)=idxP P 0 l):=⟨HT.o⟩
   clear HT
   go_wp2
   go_ret
   exact⟨x3u HV.o,HP.o⟩
theorem ContainsFuncS_calls {l:List Spec} (P:Spec->Bool) (hr:specR.row w F A l) (hb:l.length<=1048576 * 4)
 (hc:∀ x ∈ l,∀ w1,Pure w w1->Calls Tryz.prog 121 #[x.val] w1 fun r w'=>r=.returned (.bool (P x))/\Pure w1 w') :
 Calls Tryz.prog 120 #[.slice A l.length c,CloS] w fun r w'=>r=.returned (.bool (l.any P))/\Pure w w':=by
 have HC:=mK (IndexFuncS_calls (c:=c) P hr hb hc)
 have HV:=mK (idxP_any P l 0)
 clear hr hc
 go_enter Tryz.func120,Tryz.ntmps120
 go_wp2_with (go_at_call 158;refine HC.o.mono ?_;rintro e w1 ⟨rfl,hu⟩;have HU:=mK hu;clear hu)
 go_ret
 exact⟨x0h HV.o,HU.o⟩
open Go.Maps (Keyed)
theorem keyed_str:Keyed Tryz.prog 9:=Maps.string_keyed Tryz.underlying9
theorem key_str {s:ByteArray} (hs:s.size<=maxLen):keyOf Tryz.prog 9 (.string s)=some (.string s.data.toList):=by
 rw[keyOf_string Tryz.underlying9]
 simp[mapKey,Tryz.underlying9,hs]
/-- Block b is a set of texts, of at most n. -/
def StrM (w:World) (b n:Nat) (S:ByteArray->Bool):Prop:=∃ D:DataW Unit,w.ownsMap Tryz.prog 9 (plainElem Tryz.prog 4) b n D/\∀ x:ByteArray,D.atKey (.string x.data.toList) (.lit (.bool false))=.lit (.bool (S x))
theorem StrM.kept {b n:Nat} {S:ByteArray->Bool} {R:Nat->Prop} (h:StrM w b n S) (hu:Upd R w w1) (hR:¬ R b):StrM w1 b n S:=by
 obtain⟨D,hD,hS⟩:=h
 obtain⟨es,clock,h1,h2⟩:=hD
 exact⟨D,⟨es,clock,by rw[hu.block b (lB h1) hR];exact h1,h2⟩,hS⟩
theorem StrM.lt {b n:Nat} {S:ByteArray->Bool} (h:StrM w b n S):b < w.heap.size:=by
 obtain⟨D,hD,_⟩:=h
 exact hD.lt
theorem StrM.made (w:World):StrM (w.alloc (.map #[] 0)) w.heap.size 0 (fun _=>false):=⟨.map [],World.ownsMap_made _ _ _ _,fun x=>rfl⟩
theorem StrM.put {S:ByteArray->Bool} {D:DataW Unit} (hD:Maps.IsMap D) (hS:∀ x:ByteArray,D.atKey (.string x.data.toList) (.lit (.bool false))=.lit (.bool (S x))) (s x:ByteArray) :
 (D.put (.string s.data.toList) (.lit (.bool true))).atKey (.string x.data.toList) (.lit (.bool false))=.lit (.bool (S x || decide (x=s))):=by
 by_cases h:x=s
 ·subst h
  rw[Maps.atKey_put_same hD (by trivial)]
  simp
 ·rw[Maps.atKey_put_other (by
   intro e
   apply h
   injection e with e
   cases x;cases s
   simp at e
   rw[e])]
  rw[hS x]
  simp[h]
/-- The look-up of a bool. -/
theorem wpList_lookup_own_bool {H:Type} {P:Program} (w:World) {ops:Array Oper} {rest:List Oper} {o:Oper} {a:Act} {Q:Exit->Act->World->Prop}
 (hwd:Region.wanted o (yielded ops a.tmps)=true) (m x:Operand) (t:TypeId) (hop:o.op=Op.lookup t m x false)
 (k e:TypeId) (K:Keyed P k) (ht:P.underlying t=some (.map k e)) (he:P.underlying e=some .bool) (hz:(zeroValue e).run P w=.ok (.bool false) w) (b n:Nat) (D:DataW H)
 (hm:a.eval m=.map (some b)) (hown:w.ownsMap P k (plainElem P e) b n D) (key:Value) (kl:Lit) (hx:a.eval x=key) (hkey:keyOf P k key=some kl)
 (c:Bool) (hat:D.atKey kl (.lit (.bool false))=.lit (.bool c))
 (hK:wpList P ops Q rest (a.put o.dst (.bool c)) w) :
 wpList P ops Q (o :: rest) a w:=by
 refine wpList_step fun K' hK'=>?_
 rw[if_pos hwd]
 obtain⟨v,ps,hrun,hv⟩:=hown.lookup K ht hz (plainElem_bool he false) hkey
 have hvc:v=.bool c:=by
  rw[hat] at hv
  cases v <;> simp[plainElem,he] at hv
  rw[hv.1]
 subst hvc
 unfold Oper.wp
 simp[execOp,hop,hm,hx,hrun,Result.andThen]
 exact hK' _ _ hK
/-- The element of a map's literal. -/
theorem wpList_insert_own' {H:Type} {P:Program} (w:World) {ops:Array Oper} {rest:List Oper} {o:Oper} {a:Act} {Q:Exit->Act->World->Prop}
 (hwd:Region.wanted o (yielded ops a.tmps)=true) (m x v:Operand) (t:TypeId) (hop:o.op=Op.insert t m x v)
 (k e:TypeId) (K:Keyed P k) (ht:P.underlying t=some (.map k e)) (R:Value->Option (DataW H × List MemPlace)) (b n:Nat) (D:DataW H)
 (hm:a.eval m=.map (some b)) (hown:w.ownsMap P k R b n D) (hn:n < maxLen) (key val:Value) (kl:Lit) (hx:a.eval x=key) (hv:a.eval v=val) (hkey:keyOf P k key=some kl)
 (d:DataW H) (ps:List MemPlace) (hval:R val=some (d,ps))
 (hK:∀ w',w'.ownsMap P k R b (n+1) (D.put kl d)->w.grownBy w' (some b)->wpList P ops Q rest (a.put o.dst undef) w') :
 wpList P ops Q (o :: rest) a w:=by
 refine wpList_step fun K' hK'=>?_
 rw[if_pos hwd]
 obtain⟨w',hrun,r1,r2⟩:=hown.update K ht hn hkey hval
 unfold Oper.wp
 simp[execOp,hop,hm,hx,hv,hrun,Result.andThen]
 exact hK' _ _ (hK w' r1 r2)
/-- All names are names, each once, and none was there. -/
def x3x:List ByteArray->(ByteArray->Bool)->Bool
 | [],_=>true
 | s :: r,S=>(nameB s && !S s) && x3x r (fun x=>S x || decide (x=s))
def x0u:ByteArray:=⟨#[116,101,120,116]⟩
def namesB (l:List Spec) (g:List Grp):Bool:=x3x (l.map (·.name) ++ g.map (·.name)) (fun x=>decide (x=x0u))
structure NamR (w:World) (b sb n:Nat) (S:ByteArray->Bool) (wr:World):Prop where
 set:StrM wr b n S
 c:wr.cell? ⟨sb,0,none⟩=some (.map (some b))
 up:Pure w wr
theorem NamR.step {wr w2:World} {b sb n:Nat} {S S':ByteArray->Bool} (h:NamR w b sb n S wr) (hne:sb ≠ b) (hb:w.heap.size<=b) (o:Obj) (hs:StrM w2 b (n+1) S') (hu:Upd (fun q=>q=b) (wr.alloc o) w2):NamR w b sb (n+1) S' w2:=by
 have hsb:=World.block_lt_of_cell? wr _ h.c
 refine⟨hs,?_,(h.up.trans (Upd.alloc1 (fun _=>False) wr o) (fun _ _ h=>h)).trans hu (fun q hq e=>by omega)⟩
 have hc1:(wr.alloc o).cell? ⟨sb,0,none⟩=some (.map (some b)):=((Upd.alloc1 (fun _=>False) wr o).cell hsb (fun h=>h)).trans h.c
 exact(hu.cell (World.block_lt_of_cell? (wr.alloc o) _ hc1) hne).trans hc1
end Go.Proofs.YtofjodppljnlaaaGreatDoor
namespace Go.Proofs.YtofjodppljnlaaaGreatDoor
open Go.RowKit
def x1b (i:Nat) (x:Tok) (s:List Int):List Int:=if x.k=1 then s ++ [(i:Int)] else if x.k=2 then s.dropLast else s
def stkGo:Nat->List Tok->List Int->List Int
 | _,[],s=>s
 | i,x :: r,s=>stkGo (i+1) r (x1b i x s)
/-- The places of what is open at a place. -/
def x1w (l:List Tok) (at':Int):List Int:=if at' > l.length then [] else stkGo 0 (l.take (max at' 0).toNat) []
def x04 (l:List Tok) (at':Int):Int:=(x1w l at').getLast?.getD (-1)
abbrev intRS:Rp Int:=Rp.int .i64
theorem x1n:(Tryz.prog.info? 3).map (fun i=>(i.zero,i.size,i.bytes))=some (some (.int .i64 0),1,8):=by kernel_rfl
theorem Reps.take {α:Type} {R:α->List Value->Prop} {size:Nat} {xs:List α} {cs:List Value} (h:Reps R size xs cs) (k:Nat) (hk:k<=xs.length):Reps R size (xs.take k) (cs.take (k * size)):=by
 have hle:k * size<=xs.length * size:=Nat.mul_le_mul_right _ hk
 refine⟨by rw[List.length_take,List.length_take,h.1,Nat.min_eq_left hle,Nat.min_eq_left hk],fun j x hx=>?_⟩
 rw[List.getElem?_take] at hx
 split at hx
 ·rename_i hj
  have hle2:(j+1) * size<=k * size:=Nat.mul_le_mul_right _ hj
  rw[Nat.add_mul,Nat.one_mul] at hle2
  rw[List.drop_take,List.take_take,Nat.min_eq_left (by omega)]
  exact h.2 j x hx
 ·cases hx
/-- A row of the call's own, cut. -/
theorem Rp.own_take {α:Type} {d:Rp α} {e:Nat} {a:Addr} {n cap:Nat} {xs:List α} (h:d.own e w F (.slice (some a) n cap) xs) (k:Nat) (hk:k<=xs.length):d.own e w F (.slice (some a) k cap) (xs.take k):=by
 obtain⟨inner,⟨h1,h2⟩,hF,hr⟩:=h
 have hle:k * d.sz<=xs.length * d.sz:=Nat.mul_le_mul_right _ hk
 refine⟨inner.take (k * d.sz),⟨by rw[List.length_take,List.length_take,h1,Nat.min_eq_left hle,Nat.min_eq_left hk],?_⟩,hF,hr.take k hk⟩
 rcases h2 with ⟨h2,_⟩ | ⟨g,cap',cur,hv,hb,hg,hnc,hcm,hcs,htake⟩
 ·cases h2
 ·simp at hv
  obtain⟨rfl,rfl,rfl⟩:=hv
  refine .inr ⟨g,cap,cur,by simp[Nat.min_eq_left hk],hb,hg,by rw[List.length_take,Nat.min_eq_left hk];omega,hcm,hcs,?_⟩
  rw[List.length_take,Nat.min_eq_left hk,<- htake,List.take_take,Nat.min_eq_left hle]
theorem Rp.own_val {α:Type} {d:Rp α} {e:Nat} {v:Value} {xs:List α} (h:d.own e w F v xs) (hx:xs ≠ []):∃ a c,v=.slice (some a) xs.length c:=by
 obtain⟨inner,⟨h1,h2⟩,hF,hr⟩:=h
 rcases h2 with ⟨_,h0⟩ | ⟨g,cap',cur,hv,_⟩
 ·exact absurd (List.eq_nil_of_length_eq_zero h0) hx
 ·exact⟨_,_,hv⟩
theorem Rp.own_nil_val {α:Type} {d:Rp α} {e:Nat} {v:Value} (h:d.own e w F v []):v=.slice none 0 0\/∃ a cc,v=.slice (some a) 0 cc:=by
 obtain⟨inner,⟨h1,h2⟩,hF,hr⟩:=h
 rcases h2 with ⟨h2,_⟩ | ⟨g,cap',cur,hv,_⟩
 ·exact .inl h2
 ·exact .inr ⟨_,_,hv⟩
theorem int_own_at {e:Nat} {a:Addr} {n:Nat} {xs:List Int} (h:intRS.own e w F (.slice (some a) n c) xs) {j:Nat} {x:Int} (hx:xs[j]?=some x):∃ b,a=⟨b,0,none⟩/\b < w.heap.size/\w.cell? ⟨b,j,none⟩=some (.int .i64 x):=by
 have hlt:=Rp.x03 h
 have hown:=h
 obtain⟨A,c',hv,_,hr⟩:=Rp.x0c h
 obtain⟨b,o,cs,hA,_,hb,hr',hc⟩:=Rp.x42 hr hx
 have hr2:cs=[.int .i64 x]:=hr'
 subst hr2
 have:=hc 0 _ rfl
 rw[show intRS.sz=1 from rfl,Nat.mul_one] at this
 obtain⟨inner,⟨h1,h2⟩,_⟩:=hown
 rcases h2 with ⟨h2,_⟩ | ⟨g,cap',cur,hv2,_⟩
 ·cases h2
 ·simp at hv hv2
  obtain⟨rfl,_⟩:=hv2
  rw[<- hv.1] at hA
  simp at hA
  obtain⟨rfl,rfl⟩:=hA
  exact⟨g,rfl,hb,by simpa using this⟩
theorem stkStep_len (i:Nat) (x:Tok) (s:List Int):(x1b i x s).length<=s.length+1:=by
 unfold x1b
 split
 ·simp
 ·split
  ·simp;omega
  ·omega
theorem stkGo_len:∀ (l:List Tok) (i:Nat) (s:List Int),(stkGo i l s).length<=s.length+l.length:=by
 intro l
 induction l with
 | nil=>intro i s;simp[stkGo]
 | cons x r ih=>
   intro i s
   have h1:=ih (i+1) (x1b i x s)
   have h2:=stkStep_len i x s
   simp only[stkGo,List.length_cons]
   omega
theorem stackL_len (l:List Tok) (at':Int):(x1w l at').length<=l.length:=by
 unfold x1w
 split
 ·simp
 ·have:=stkGo_len (l.take (max at' 0).toNat) 0 []
  have h2:=List.length_take_le (max at' 0).toNat l
  have h3:(l.take (max at' 0).toNat).length<=l.length:=by rw[List.length_take];omega
  simp only[List.length_nil] at this
  omega
def StkRel (w wr:World) (l:List Tok) (m k:Nat) (v:Value):Prop:=
 ∃ s:List Int,intRS.own 3 wr (fun q=>w.heap.size<=q) v s/\s.length<=k/\stkGo k ((l.take m).drop k) s=stkGo 0 (l.take m) []/\Pure w wr
theorem StkRel.step {l:List Tok} {m k:Nat} {v1:Value} {s:List Int} {x:Tok} (hx:(l.take m)[k]?=some x) (hl:s.length<=k) (he:stkGo k ((l.take m).drop k) s=stkGo 0 (l.take m) []) (ho:intRS.own 3 w1 (fun q=>w.heap.size<=q) v1 (x1b k x s)) (hp:Pure w w1):StkRel w w1 l m (k+1) v1:=by
 refine⟨_,ho,by have:=stkStep_len k x s;omega,?_,hp⟩
 rw[<- he]
 obtain⟨hk,hx2⟩:=List.getElem?_eq_some_iff.1 hx
 rw[List.drop_eq_getElem_cons hk,hx2]
 rfl
def kdGo (i:Int):Nat->Nat->List Tok->List Int
 | _,_,[]=>[]
 | k,d,x :: r=>
   if x.k=2 then (if d=0/\0<=i then [] else kdGo i (k+1) (d - 1) r)
   else (if d=0/\0<=x.k/\x.k<=3 then [(k:Int)] else []) ++ kdGo i (k+1) (if x.k=1 then d+1 else d) r
/-- The places of what stands in i. -/
def kidsL (l:List Tok) (i:Int):List Int:=kdGo i (i+1).toNat 0 (l.drop (i+1).toNat)
theorem Rp.own_empty0 {α:Type} (d:Rp α) {e:Nat} {w:World} {F:Nat->Prop} {b:Nat} (hb:w.heap[b]?=some (.cells #[] e (0,0))) (hF:F b):d.own e w F (.slice (some ⟨b,0,none⟩) 0 0) []:=
 ⟨[],⟨by simp,.inr ⟨b,0,#[],rfl,Nat.zero_le _,hb,Nat.le_refl _,Nat.zero_le _,by simp,by simp⟩⟩,fun k hk=>by simp[Value.ownBlock] at hk;subst hk;exact hF,Reps.nil _ _⟩
theorem tok_own_to {e:Nat} {v:Value} {xs:List Tok} (h:tokR.own e w F v xs) (hG:∀ k,v.ownBlock=some k->G k):tokR.own e w G v xs:=by
 obtain⟨inner,ho,hF,hr⟩:=h
 exact⟨inner,ho,hG,hr⟩
theorem hat_ge {v v1:Value} {B:Nat} (h:v1.ownBlock=v.ownBlock\/∃ b,v1.ownBlock=some b/\w.heap.size<=b) (h0:∀ q,v.ownBlock=some q->B<=q) (hB:B<=w.heap.size):∀ q,v1.ownBlock=some q->B<=q:=by
 intro q hq
 rcases h with h | ⟨b,hb,hle⟩
 ·rw[h] at hq
  exact h0 q hq
 ·rw[hb] at hq
  injection hq with hq
  omega
theorem x3c (s:Int) (w:World):Calls Tryz.prog 141 #[.int .i64 s] w fun e w'=>e=.returned (.bool (markB s))/\w=w':=by
 go_enter Tryz.func141,Tryz.ntmps141
 go_wp2
 all_goals go_ret
 all_goals exact⟨x0h (by rw[Bool.eq_iff_iff];(try simp only[markB,decide_eq_true_eq,Bool.and_eq_true,Bool.or_eq_true,Bool.not_eq_true',Bool.not_eq_eq_eq_not,Bool.not_true,Bool.not_false,beq_iff_eq,bne_iff_ne,beq_eq_false_iff_ne,bne_eq_false_iff_eq,decide_eq_false_iff_not,Bool.false_eq_true,Bool.true_eq_false,ne_eq,iff_true,true_iff,iff_false,false_iff,eq_self_iff_true,Bool.and_true,Bool.true_and,Bool.and_false,Bool.false_and,Bool.or_true,Bool.true_or,Bool.or_false,Bool.false_or] at *);all_goals (try simp only[MarkP,decide_eq_true_eq,Bool.and_eq_true,Bool.or_eq_true,Bool.not_eq_true',Bool.not_eq_eq_eq_not,Bool.not_true,Bool.not_false,beq_iff_eq,bne_iff_ne,beq_eq_false_iff_ne,bne_eq_false_iff_eq,decide_eq_false_iff_not,Bool.false_eq_true,Bool.true_eq_false,ne_eq,iff_true,true_iff,iff_false,false_iff,eq_self_iff_true,Bool.and_true,Bool.true_and,Bool.and_false,Bool.false_and,Bool.or_true,Bool.true_or,Bool.or_false,Bool.false_or] at *);all_goals omega),rfl⟩
theorem point_calls (n:Int) (w:World):Calls Tryz.prog 145 #[.int .i64 n] w fun e w'=>e=.returned (.bool (pointB n))/\w=w':=by
 go_enter Tryz.func145,Tryz.ntmps145
 go_wp2
 all_goals go_ret
 all_goals exact⟨x0h (by rw[Bool.eq_iff_iff];(try simp only[pointB,decide_eq_true_eq,Bool.and_eq_true,Bool.or_eq_true,Bool.not_eq_true',Bool.not_eq_eq_eq_not,Bool.not_true,Bool.not_false,beq_iff_eq,bne_iff_ne,beq_eq_false_iff_ne,bne_eq_false_iff_eq,decide_eq_false_iff_not,Bool.false_eq_true,Bool.true_eq_false,ne_eq,iff_true,true_iff,iff_false,false_iff,eq_self_iff_true,Bool.and_true,Bool.true_and,Bool.and_false,Bool.false_and,Bool.or_true,Bool.true_or,Bool.or_false,Bool.false_or] at *);all_goals (try simp only[PointP,decide_eq_true_eq,Bool.and_eq_true,Bool.or_eq_true,Bool.not_eq_true',Bool.not_eq_eq_eq_not,Bool.not_true,Bool.not_false,beq_iff_eq,bne_iff_ne,beq_eq_false_iff_ne,bne_eq_false_iff_eq,decide_eq_false_iff_not,Bool.false_eq_true,Bool.true_eq_false,ne_eq,iff_true,true_iff,iff_false,false_iff,eq_self_iff_true,Bool.and_true,Bool.true_and,Bool.and_false,Bool.false_and,Bool.or_true,Bool.true_or,Bool.or_false,Bool.false_or] at *);all_goals omega),rfl⟩
theorem x2s (x:Tok) (w:World):Calls Tryz.prog 97 #[x.val] w fun e w'=>e=.returned (.bool (x0p x))/\Pure w w':=by
 go_enter Tryz.func97,Tryz.ntmps97
 go_wp2_with (first | (go_at_call 141;refine(x3c _ _).mono ?_;rintro e w1 ⟨rfl,rfl⟩) | (go_at_call 145;refine(point_calls _ _).mono ?_;rintro e w1 ⟨rfl,rfl⟩))
 all_goals go_ret
 all_goals exact⟨x0h (by rw[Bool.eq_iff_iff];(try simp only[x0p,markB,pointB,decide_eq_true_eq,Bool.and_eq_true,Bool.or_eq_true,Bool.not_eq_true',Bool.not_eq_eq_eq_not,Bool.not_true,Bool.not_false,beq_iff_eq,bne_iff_ne,beq_eq_false_iff_ne,bne_eq_false_iff_eq,decide_eq_false_iff_not,Bool.false_eq_true,Bool.true_eq_false,ne_eq,iff_true,true_iff,iff_false,false_iff,eq_self_iff_true,Bool.and_true,Bool.true_and,Bool.and_false,Bool.false_and,Bool.or_true,Bool.true_or,Bool.or_false,Bool.false_or] at *);all_goals (try simp only[RightP,MarkP,PointP,decide_eq_true_eq,Bool.and_eq_true,Bool.or_eq_true,Bool.not_eq_true',Bool.not_eq_eq_eq_not,Bool.not_true,Bool.not_false,beq_iff_eq,bne_iff_ne,beq_eq_false_iff_ne,bne_eq_false_iff_eq,decide_eq_false_iff_not,Bool.false_eq_true,Bool.true_eq_false,ne_eq,iff_true,true_iff,iff_false,false_iff,eq_self_iff_true,Bool.and_true,Bool.true_and,Bool.and_false,Bool.false_and,Bool.or_true,Bool.true_or,Bool.or_false,Bool.false_or] at *);all_goals omega),rU.alloc _⟩
theorem x4q {x:Tok} {b:Bool} (h:x0p x=b) (w:World):Calls Tryz.prog 97 #[x.val] w fun e w'=>e=.returned (.bool b)/\Pure w w':=h ▸ x2s x w
theorem tok_ext {x y:Tok} (h1:x.k=y.k) (h2:x.t=y.t) (h3:x.n=y.n) (h4:x.m=y.m):x=y:=by
 cases x;cases y;simp_all
theorem tok_diff {x y:Tok} (h:x ≠ y):x.k ≠ y.k\/(x.k=y.k/\x.t ≠ y.t)\/(x.k=y.k/\x.t=y.t/\x.n ≠ y.n)\/(x.k=y.k/\x.t=y.t/\x.n=y.n/\x.m ≠ y.m):=by
 by_cases h1:x.k=y.k
 ·by_cases h2:x.t=y.t
  ·by_cases h3:x.n=y.n
   ·by_cases h4:x.m=y.m
    ·exact absurd (tok_ext h1 h2 h3 h4) h
    ·exact .inr (.inr (.inr ⟨h1,h2,h3,h4⟩))
   ·exact .inr (.inr (.inl ⟨h1,h2,h3⟩))
  ·exact .inr (.inl ⟨h1,h2⟩)
 ·exact .inl h1
theorem lists_diff {l l':List Tok} {k:Nat} {x y:Tok} (hx:l[k]?=some x) (hy:l'[k]?=some y) (h:x ≠ y):decide (l=l')=false:=by
 rw[decide_eq_false_iff_not]
 rintro rfl
 rw[hx] at hy
 exact h (Option.some.inj hy)
end Go.Proofs.YtofjodppljnlaaaGreatDoor
namespace Go.Proofs.YtofjodppljnlaaaGreatDoor
open Go
section
variable {P:Program} {ops:Array Oper} {Q:Exit->Act->World->Prop} {md:Region.Mode} {S:World->Prop} {L:Nat}
def x2c (P:Program) (md:Region.Mode) (ops:Array Oper) (Q:Exit->Act->World->Prop) (S:World->Prop) (L:Nat):Nat->Array Bool->Act->World->Prop
 | 0,listed,a,w=>Region.ready md ops listed=[]/\Q .normal a w
 | fuel+1,listed,a,w=>
   (Region.ready md ops listed=[]->Q .normal a w) /\
   ∀ i ∈ Region.ready md ops listed,wpOp P ops Q i (fun a' w'=>(i ≠ L->S w->S w')/\x2c P md ops Q S L fuel (listed.setIfInBounds i true) a' w') a w
theorem wpAny_of_V:∀ (fuel:Nat) (listed:Array Bool) (a:Act) (w:World),x2c P md ops Q S L fuel listed a w->wpAny P md ops Q fuel listed a w
 | 0,_,_,_,h=>h
 | fuel+1,_,_,_,h=>⟨h.1,fun i hi=>wpOp_mono (fun a' w' h'=>wpAny_of_V fuel _ a' w' h'.2) (h.2 i hi)⟩
theorem wpAnyV_first {i:Nat} {oi:Oper} {v:Value} (hi:ops[i]?=some oi) (hsel:∀ (j:Nat) (o:Oper) cs b,ops[j]?=some o->o.op ≠ .select cs b)
 (hQ:∀ c a w,Q (.panic c) (a.put oi.dst v) w->Q (.panic c) a w) (hL:∃ oL,ops[L]?=some oL/\∃ e ∈ oL.after,Region.binds md e=true/\e.on=i) :
 ∀ (fuel:Nat) (listed:Array Bool) (a:Act) (w:World),
  (∀ j oj,ops[j]?=some oj->j ≠ i->listed.getD j true=false->(∀ e ∈ oj.after,Region.binds md e=true->e.on ≠ i)->oi.apart ops oj=true) ->
  i ∈ Region.ready md ops listed->YieldsIf P ops S oi v a->S w ->
  x2c P md ops Q S L fuel (listed.setIfInBounds i true) (a.put oi.dst v) w->x2c P md ops Q S L (fuel+1) listed a w:=by
 have notL:∀ (listed:Array Bool) (j:Nat),i ∈ Region.ready md ops listed->j ∈ Region.ready md ops listed->j ≠ L:=by
  rintro listed j hr hj rfl
  obtain⟨oL,hoL,e,he,hb,heq⟩:=hL
  obtain⟨_,oj,hoj,hall⟩:=mem_ready.1 hj
  rw[hoL] at hoj
  cases hoj
  have h1:=hall e he hb
  have h0:=(mem_ready.1 hr).1
  rw[heq] at h1
  rcases Nat.lt_or_ge i listed.size with h' | h'
  ·simp[h'] at h0 h1;rw[h0] at h1;cases h1
  ·simp[Array.getElem?_eq_none h'] at h1
 intro fuel
 induction fuel with
 | zero=>
   intro listed a w _ hr hy hS H
   refine⟨fun h=>(by rw[h] at hr;cases hr),fun j hj=>?_⟩
   by_cases hji:j=i
   ·subst hji;exact hy.wpOp hi hS ⟨fun _ h=>h,H⟩
   ·have:=ready_mono hj hji
    rw[H.1] at this
    cases this
 | succ fuel ih=>
   intro listed a w hfree hr hy hS H
   refine⟨fun h=>(by rw[h] at hr;cases hr),fun j hj=>?_⟩
   by_cases hji:j=i
   ·subst hji;exact hy.wpOp hi hS ⟨fun _ h=>h,H⟩
   ·have hjL:=notL listed j hr hj
    have h1:=H.2 j (ready_mono hj hji)
    obtain⟨hjun,oj,hoj,hall⟩:=mem_ready.1 hj
    have hnot:∀ e ∈ oj.after,Region.binds md e=true->e.on ≠ i:=fun e he hb heq=>by
     have h1:=hall e he hb
     have h0:=(mem_ready.1 hr).1
     rw[heq] at h1
     rcases Nat.lt_or_ge i listed.size with h' | h'
     ·simp[h'] at h0 h1;rw[h0] at h1;cases h1
     ·simp[Array.getElem?_eq_none h'] at h1
    have h2:=wpOp_putIf hoj (hfree j oj hoj hji hjun hnot) (fun cs b=>hsel i oi cs b hi) (fun cs b=>hsel j oj cs b hoj) hQ hy h1
    have hfree':∀ k ok,ops[k]?=some ok->k ≠ i->(listed.setIfInBounds j true).getD k true=false ->
     (∀ e ∈ ok.after,Region.binds md e=true->e.on ≠ i)->oi.apart ops ok=true:=fun k ok hk hki hun hno=>by
     refine hfree k ok hk hki ?_ hno
     by_cases hjk:j=k
     ·subst hjk;exact hjun
     ·rw[getD_set_ne true hjk] at hun;exact hun
    refine wpOp_mono (fun a' w' h3=>⟨h3.2.1,ih (listed.setIfInBounds j true) a' w' hfree' (ready_mono hr (Ne.symm hji)) h3.1 (h3.2.1 hjL hS) ?_⟩) h2
    rw[Array.setIfInBounds_comm _ _ hji]
    exact h3.2.2
theorem wpAnyV_any {i:Nat} {oi:Oper} {v:Value} (hi:ops[i]?=some oi) (hsel:∀ (j:Nat) (o:Oper) cs b,ops[j]?=some o->o.op ≠ .select cs b)
 (hQ:∀ c a w,Q (.panic c) (a.put oi.dst v) w->Q (.panic c) a w) :
 ∀ (fuel:Nat) (listed:Array Bool) (a:Act) (w:World),
  (∀ j oj,ops[j]?=some oj->j ≠ i->listed.getD j true=false->(∀ e ∈ oj.after,Region.binds md e=true->e.on ≠ i)->oi.apart ops oj=true) ->
  i ∈ Region.ready md ops listed->YieldsIf P ops (fun _=>True) oi v a ->
  x2c P md ops Q S L fuel (listed.setIfInBounds i true) (a.put oi.dst v) w->x2c P md ops Q S L (fuel+1) listed a w:=by
 intro fuel
 induction fuel with
 | zero=>
   intro listed a w _ hr hy H
   refine⟨fun h=>(by rw[h] at hr;cases hr),fun j hj=>?_⟩
   by_cases hji:j=i
   ·subst hji;exact hy.wpOp hi trivial ⟨fun _ h=>h,H⟩
   ·have:=ready_mono hj hji
    rw[H.1] at this
    cases this
 | succ fuel ih=>
   intro listed a w hfree hr hy H
   refine⟨fun h=>(by rw[h] at hr;cases hr),fun j hj=>?_⟩
   by_cases hji:j=i
   ·subst hji;exact hy.wpOp hi trivial ⟨fun _ h=>h,H⟩
   ·have h1:=H.2 j (ready_mono hj hji)
    obtain⟨hjun,oj,hoj,hall⟩:=mem_ready.1 hj
    have hnot:∀ e ∈ oj.after,Region.binds md e=true->e.on ≠ i:=fun e he hb heq=>by
     have h1:=hall e he hb
     have h0:=(mem_ready.1 hr).1
     rw[heq] at h1
     rcases Nat.lt_or_ge i listed.size with h' | h'
     ·simp[h'] at h0 h1;rw[h0] at h1;cases h1
     ·simp[Array.getElem?_eq_none h'] at h1
    have h2:=wpOp_putIf hoj (hfree j oj hoj hji hjun hnot) (fun cs b=>hsel i oi cs b hi) (fun cs b=>hsel j oj cs b hoj) hQ hy h1
    have hfree':∀ k ok,ops[k]?=some ok->k ≠ i->(listed.setIfInBounds j true).getD k true=false ->
     (∀ e ∈ ok.after,Region.binds md e=true->e.on ≠ i)->oi.apart ops ok=true:=fun k ok hk hki hun hno=>by
     refine hfree k ok hk hki ?_ hno
     by_cases hjk:j=k
     ·subst hjk;exact hjun
     ·rw[getD_set_ne true hjk] at hun;exact hun
    refine wpOp_mono (fun a' w' h3=>⟨h3.2.1,ih (listed.setIfInBounds j true) a' w' hfree' (ready_mono hr (Ne.symm hji)) h3.1 ?_⟩) h2
    rw[Array.setIfInBounds_comm _ _ hji]
    exact h3.2.2
def waitsOnV (md:Region.Mode) (ops:Array Oper) (L i:Nat):Bool:=match ops[L]? with
 | some o=>o.after.any fun e=>Region.binds md e && e.on == i
 | none=>false
theorem waitsOnV_spec {i:Nat} (h:waitsOnV md ops L i=true):∃ oL,ops[L]?=some oL/\∃ e ∈ oL.after,Region.binds md e=true/\e.on=i:=by
 unfold waitsOnV at h
 split at h
 ·rename_i o ho
  obtain⟨e,he,hb⟩:=Array.any_eq_true'.1 h
  simp only[Bool.and_eq_true,beq_iff_eq] at hb
  exact⟨o,ho,e,he,hb.1,hb.2⟩
 ·cases h
theorem wpAnyV_take {i:Nat} {oi:Oper} {v:Value} {fuel:Nat} {listed:Array Bool} {a:Act} {w:World} (hi:ops[i]?=some oi)
 (hs:Region.noSelect ops=true) (hf:Region.free md ops listed i=true) (hr:(Region.ready md ops listed).contains i=true) (hL:waitsOnV md ops L i=true)
 (hQ:∀ c a w,Q (.panic c) (a.put oi.dst v) w->Q (.panic c) a w) (hy:YieldsIf P ops S oi v a) (hS:S w)
 (h:x2c P md ops Q S L fuel (listed.setIfInBounds i true) (a.put oi.dst v) w):x2c P md ops Q S L (fuel+1) listed a w:=
 wpAnyV_first hi (Region.noSelect_spec hs) hQ (waitsOnV_spec hL) fuel listed a w (Region.free_spec hi hf) (by simpa using hr) hy hS h
theorem wpAnyV_free {i:Nat} {oi:Oper} {v:Value} {fuel:Nat} {listed:Array Bool} {a:Act} {w:World} (hi:ops[i]?=some oi)
 (hs:Region.noSelect ops=true) (hf:Region.free md ops listed i=true) (hr:(Region.ready md ops listed).contains i=true)
 (hQ:∀ c a w,Q (.panic c) (a.put oi.dst v) w->Q (.panic c) a w) (hy:YieldsIf P ops (fun _=>True) oi v a)
 (h:x2c P md ops Q S L fuel (listed.setIfInBounds i true) (a.put oi.dst v) w):x2c P md ops Q S L (fuel+1) listed a w:=
 wpAnyV_any hi (Region.noSelect_spec hs) hQ fuel listed a w (Region.free_spec hi hf) (by simpa using hr) hy h
theorem x4b {i:Nat} {o:Oper} {fuel:Nat} {listed:Array Bool} {a:Act} {w:World} (hr:Region.ready md ops listed=[i]) (ho:ops[i]?=some o)
 (h:∀ K':Act->World->Prop,Shut (∀ a w',(i ≠ L->S w->S w')->((i ≠ L->S w->S w')->x2c P md ops Q S L fuel (listed.setIfInBounds i true) a w')->K' a w')->if Region.wanted o (yielded ops a.tmps)=true then Oper.wp P o a w K' Q else K' (a.put o.dst undef) w) :
 x2c P md ops Q S L (fuel+1) listed a w:=by
 refine⟨fun h=>(by rw[hr] at h;cases h),fun j hj=>?_⟩
 rw[hr] at hj
 obtain rfl:=List.mem_singleton.1 hj
 exact wpOp_step ho (fun K' hK=>h K' (fun a w hS hW=>hK a w ⟨hS,hW hS⟩))
theorem wpAnyV_two {i j:Nat} {o1 o2:Oper} {fuel:Nat} {listed:Array Bool} {a:Act} {w:World} (hr:Region.ready md ops listed=[i,j]) (ho1:ops[i]?=some o1) (ho2:ops[j]?=some o2)
 (h1:∀ K':Act->World->Prop,Shut (∀ a w',(i ≠ L->S w->S w')->((i ≠ L->S w->S w')->x2c P md ops Q S L fuel (listed.setIfInBounds i true) a w')->K' a w')->if Region.wanted o1 (yielded ops a.tmps)=true then Oper.wp P o1 a w K' Q else K' (a.put o1.dst undef) w)
 (h2:∀ K':Act->World->Prop,Shut (∀ a w',(j ≠ L->S w->S w')->((j ≠ L->S w->S w')->x2c P md ops Q S L fuel (listed.setIfInBounds j true) a w')->K' a w')->if Region.wanted o2 (yielded ops a.tmps)=true then Oper.wp P o2 a w K' Q else K' (a.put o2.dst undef) w) :
 x2c P md ops Q S L (fuel+1) listed a w:=by
 refine⟨fun h=>(by rw[hr] at h;cases h),fun k hk=>?_⟩
 rw[hr] at hk
 simp only[List.mem_cons,List.not_mem_nil,or_false] at hk
 rcases hk with rfl | rfl
 ·exact wpOp_step ho1 (fun K' hK=>h1 K' (fun a w hS hW=>hK a w ⟨hS,hW hS⟩))
 ·exact wpOp_step ho2 (fun K' hK=>h2 K' (fun a w hS hW=>hK a w ⟨hS,hW hS⟩))
theorem x6a {listed:Array Bool} {a:Act} {w:World} (hr:Region.ready md ops listed=[]) (h:Q .normal a w):∀ fuel,x2c P md ops Q S L fuel listed a w
 | 0=>⟨hr,h⟩
 | _+1=>⟨fun _=>h,by rw[hr];simp⟩
theorem wp_region_V (S:World->Prop) (L:Nat) {id:Nat} {a:Act} {w:World} (hm:P.follows .mixedOrders=true) (hS:S w.drew)
 (h:S w.drew->x2c P .any ops Q S L ops.size (Array.replicate ops.size false) a w.drew):(Code.region id ops true).wp P Q a w:=
 wp_region_any hm (wpAny_of_V _ _ _ _ (h hS))
theorem takeV (i:Nat) {oi:Oper} {v:Value} {fuel:Nat} {listed:Array Bool} {a:Act} {w:World} (hi:ops[i]?=some oi) (hc:(okH md ops listed i && waitsOnV md ops L i)=true)
 (hQ:∀ c a w,Q (.panic c) (a.put oi.dst v) w->Q (.panic c) a w) (h1:Region.wanted oi (yielded ops a.tmps)=true) (h2:∀ w,S w->(execOp a.eval oi).run P w=.ok (.value v) w) (hS:S w)
 (h:x2c P md ops Q S L fuel (listed.setIfInBounds i true) (a.put oi.dst v) w):x2c P md ops Q S L (fuel+1) listed a w:=by
 rw[Bool.and_eq_true] at hc
 exact wpAnyV_take hi (x2m hc.1).1 (x2m hc.1).2.1 (x2m hc.1).2.2 hc.2 hQ (Or.inl ⟨h1,h2⟩) hS h
theorem freeV (i:Nat) {oi:Oper} {v:Value} {fuel:Nat} {listed:Array Bool} {a:Act} {w:World} (hi:ops[i]?=some oi) (hc:okH md ops listed i=true)
 (hQ:∀ c a w,Q (.panic c) (a.put oi.dst v) w->Q (.panic c) a w) (h1:Region.wanted oi (yielded ops a.tmps)=true) (h2:∀ w,(execOp a.eval oi).run P w=.ok (.value v) w)
 (h:x2c P md ops Q S L fuel (listed.setIfInBounds i true) (a.put oi.dst v) w):x2c P md ops Q S L (fuel+1) listed a w:=
 wpAnyV_free hi (x2m hc).1 (x2m hc).2.1 (x2m hc).2.2 hQ (Or.inl ⟨h1,fun w _=>h2 w⟩) h
theorem zV (i:Nat) {oi:Oper} {v:Value} {fuel:Nat} {listed:Array Bool} {a:Act} {w:World}
 (h:x2c P md ops Q S L fuel (listed.setIfInBounds i true) (a.put oi.dst v) w) (hi:ops[i]?=some oi:=by exact opAt rfl) (hc:(okH md ops listed i && waitsOnV md ops L i)=true:=by kernel_rfl)
 (hQ:∀ c a w,Q (.panic c) (a.put oi.dst v) w->Q (.panic c) a w:=by exact fun _ _ _ h=>h) (h1:Region.wanted oi (yielded ops a.tmps)=true:=by rfl)
 (h2:∀ w,S w->(execOp a.eval oi).run P w=.ok (.value v) w:=by intro w hSw;(try dsimp only at hSw);go_simp;try with_reducible rfl) (hS:S w:=by assumption):x2c P md ops Q S L (fuel+1) listed a w:=
 takeV i hi hc hQ h1 h2 hS h
theorem yV (i:Nat) {oi:Oper} {v:Value} {fuel:Nat} {listed:Array Bool} {a:Act} {w:World}
 (h:x2c P md ops Q S L fuel (listed.setIfInBounds i true) (a.put oi.dst v) w) (hi:ops[i]?=some oi:=by exact opAt rfl) (hc:okH md ops listed i=true:=by kernel_rfl)
 (hQ:∀ c a w,Q (.panic c) (a.put oi.dst v) w->Q (.panic c) a w:=by exact fun _ _ _ h=>h) (h1:Region.wanted oi (yielded ops a.tmps)=true:=by rfl)
 (h2:∀ w,(execOp a.eval oi).run P w=.ok (.value v) w:=by intro w;go_simp;try with_reducible rfl):x2c P md ops Q S L (fuel+1) listed a w:=
 freeV i hi hc hQ h1 h2 h
end
end Go.Proofs.YtofjodppljnlaaaGreatDoor
namespace Go.Proofs.YtofjodppljnlaaaGreatDoor
open Go.ChangeShapes Go.WideShapes Go.ChangeAt Go.RowKit
/-- A token's numbers are ints. -/
def TokWf (x:Tok):Prop:=(Lit.int .i64 x.k).wf=true/\(Lit.int .i64 x.t).wf=true/\(Lit.int .i64 x.n).wf=true/\(Lit.int .i64 x.m).wf=true
theorem opens_tok:Opens Tryz.prog 71 tokR (fun y _=>TokWf y):=by
 intro H enc w base spare held fuel cs x h
 obtain⟨ys,n,_,rfl,hl,hyl,hf⟩:=DataW.trod_struct Tryz.underlying71 h
 have hc:Tryz.prog.cellsOf 71=4:=by kernel_rfl
 have hc1:Tryz.prog.cellsOf 3=1:=by kernel_rfl
 rw[hc] at hl
 match cs,hl with
 | [c0,c1,c2,c3],_=>
   match ys,hyl with
   | [y0,y1,y2,y3],_=>
     have f0:DataW.trod enc Tryz.prog w base spare held n 3 [c0]=some y0:=by simpa[hc1] using hf 0 _ rfl
     have f1:DataW.trod enc Tryz.prog w base spare held n 3 [c1]=some y1:=by simpa[hc1] using hf 1 _ rfl
     have f2:DataW.trod enc Tryz.prog w base spare held n 3 [c2]=some y2:=by simpa[hc1] using hf 2 _ rfl
     have f3:DataW.trod enc Tryz.prog w base spare held n 3 [c3]=some y3:=by simpa[hc1] using hf 3 _ rfl
     obtain⟨n0,e0,_,w0⟩:=DataW.trod_int Tryz.underlying3 f0
     obtain⟨n1,e1,_,w1⟩:=DataW.trod_int Tryz.underlying3 f1
     obtain⟨n2,e2,_,w2⟩:=DataW.trod_int Tryz.underlying3 f2
     obtain⟨n3,e3,_,w3⟩:=DataW.trod_int Tryz.underlying3 f3
     simp at e0 e1 e2 e3
     subst e0 e1 e2 e3
     exact⟨⟨n0,n1,n2,n3⟩,rfl,w0,w1,w2,w3⟩
theorem arg_toks {H:Type} {enc:TypeId × Value->H} {base:Nat} {spare:Nat->Bool} {held:Bool} {v:Value} {d:DataW H} {p:List MemPlace} {r:Reach} {b0:Nat}
 (hv:Value.okWide Tryz.prog W r b0 22 v) (h:DataW.Trod enc Tryz.prog W base spare held 22 v d p) :
 ∃ (A:Option Addr) (c:Nat) (l:List Tok),v=.slice A l.length c/\l.length<=c/\tokR.row W (fun k=>k < W.heap.size) A l/\l.length < Rows.uptoBulk d/\∀ x ∈ l,TokWf x:=by
 obtain⟨a,len,cap,rfl⟩:=okWide_slice Tryz.underlying22 hv
 obtain⟨fuel,hf⟩:=h
 obtain⟨l,⟨A,c,hcs,hlc,hrow⟩,hq,hw⟩:=opens_slice Tryz.underlying22 (d:=tokR) (by kernel_rfl) (by decide) opens_tok H enc W base spare held fuel _ _ hf
 simp[Value.cells] at hcs
 obtain⟨rfl,rfl,rfl⟩:=hcs
 exact⟨_,_,l,rfl,hlc,hrow,hq,fun x hx=>by obtain⟨m,_,h⟩:=hw x hx;exact h⟩
abbrev IntWf (x:Int):Prop:=(Lit.int .i64 x).wf=true
theorem x51 {H:Type} {enc:TypeId × Value->H} {base:Nat} {spare:Nat->Bool} {held:Bool} {v:Value} {d:DataW H} {p:List MemPlace} {r:Reach} {b0:Nat}
 (hv:Value.okWide Tryz.prog W r b0 3 v) (h:DataW.Trod enc Tryz.prog W base spare held 3 v d p):∃ n:Int,v=.int .i64 n/\IntWf n:=by
 obtain⟨n,rfl⟩:=okWide_int Tryz.underlying3 hv
 obtain⟨fuel,hf⟩:=h
 obtain⟨m,e,_,hw⟩:=DataW.trod_int Tryz.underlying3 hf
 simp[Value.cells] at e
 subst e
 exact⟨n,rfl,hw⟩
end Go.Proofs.YtofjodppljnlaaaGreatDoor
