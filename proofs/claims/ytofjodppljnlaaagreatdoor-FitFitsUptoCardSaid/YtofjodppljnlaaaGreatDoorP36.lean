/- My own texts, packed: Clo, Pla, Holds, Clo13, Pla13, AlikeF. -/
import Derived.Test.YtofjodppljnlaaaGreatDoorP10
import Derived.Test.YtofjodppljnlaaaGreatDoorP8
set_option maxRecDepth 100000
set_option maxHeartbeats 4000000
set_option linter.unusedVariables false
set_option linter.unusedSimpArgs false
variable {w w1 W:Go.World} {F G:Nat → Prop} {A B:Option Go.Addr} {cb c:Nat}
namespace Go.Proofs.YtofjodppljnlaaaGreatDoor
open Go.RowKit
abbrev shut:Tok:=⟨2,0,0,0⟩
def cloGo:Nat->List Tok->List Tok
 | d,[]=>List.replicate d shut
 | d,t :: r=>if t.k=1 then t :: cloGo (d+1) r else if t.k=2 then (if d=0 then cloGo d r else t :: cloGo (d - 1) r) else t :: cloGo d r
def closed (l:List Tok):List Tok:=cloGo 0 l
def CloRel (w wr:World) (l:List Tok) (k d:Nat) (v:Value):Prop:=
 ∃ acc:List Tok,tokR.own 71 wr (fun k=>w.heap.size<=k) v acc/\acc.length<=k/\d<=k/\acc ++ cloGo d (l.drop k)=closed l/\Pure w wr
/-- An element appended to a row of tokens of the call's own. -/
theorem CloRel.push {l:List Tok} {k d d':Nat} {v1:Value} {x:Tok} {acc:List Tok} (ho1:tokR.own 71 w1 (fun k=>w.heap.size<=k) v1 (acc ++ [x])) (hx:l[k]?=some x) (hl:acc.length<=k) (hd:d'<=k+1)
 (he:acc ++ cloGo d (l.drop k)=closed l) (hs:cloGo d (x :: l.drop (k+1))=x :: cloGo d' (l.drop (k+1))) (hp:Pure w w1):CloRel w w1 l (k+1) d' v1:=by
 refine⟨acc ++ [x],ho1,by simp;omega,hd,?_,hp⟩
 rw[List.append_assoc,List.singleton_append,<- hs,<- drop_cons hx]
 exact he
theorem Closed_calls {l:List Tok} (hr:tokR.row w F A l) (hb:l.length<=1048576 * 2) :
 Calls Tryz.prog 94 #[.slice A l.length c] w fun e w'=>∃ v,e=.returned v/\tokR.own 71 w' (fun k=>w.heap.size<=k) v (closed l)/\Pure w w':=by
 have HR:=mK hr
 clear hr
 go_enter Tryz.func94,Tryz.ntmps94
 go_wp2
 go_loopg [3,4,9] l.length (fun g v op i wr=>∃ k d:Nat,k+g=l.length/\i=.int .i64 k/\op=.int .i64 d/\d<=k/\As (CloRel w wr l k d v))
 case atStart=>exact⟨0,0,by omega,rfl,rfl,by omega,⟨[],Rp.x0v _ _ _ _,by simp,by simp,rfl,Upd.refl _ _⟩⟩
 case round=>
  obtain⟨k,d,hk,rfl,rfl,hd,HC⟩:=hrel
  obtain⟨acc,hown,hlen,hdk,heq,hp⟩:=HC.o
  by_cases hlt:k < l.length
  ·obtain⟨x,hx⟩:=gS hlt
   obtain⟨b,o,rfl,hF,hbl,c0,c1,c2,c3⟩:=x0j (Rp.x01 HR.o hp) hx
   obtain⟨g1,rfl⟩:=sC1 (by omega:0 < gk)
   have HO:=mK hown
   have HX:=mK hx
   have HE:=mK heq
   have HP:=mK hp
   clear hown hx heq hp HC
   have HK:=mK hk
   clear hk
   by_cases h1:x.k=1
   ·have e1:(x.k == 1)=true:=by simp[h1]
    have H1:=mK h1
    clear h1
    go_wp2_with (at_builtin;refine Rp.x0o tokR (Rp.x1s HO.o _) x x.cs rfl (Fp:=fun _=>False) (G:=fun k=>w.heap.size<=k) (fun _ h=>h.elim) (fun _ h _=>h) (fun k hk=>by have:=HP.o.size;simp at hk;omega) rfl _ _ 22 _ 32 rfl Tryz.underlying22 x0y rfl (by decide) (by decide) rfl (by simp[Act.eval]) (by omega) ?_;intro v1 w1 ho1 hu1;have HO1:=mK ho1;have HU1:=mK (Upd.trans (HP.o.alloc _) hu1 (fun k hk h=>by have:=Rp.x03 HO.o k h;omega));clear ho1 hu1)
    go_roundg g1
    case measure=>omega
    case rel=>exact⟨k+1,d+1,by have:=HK.o;omega,by go_num,by first | rfl | go_num | (congr 1;omega),by omega,⟨CloRel.push HO1.o HX.o hlen (by omega) HE.o (by simp only[cloGo,if_pos H1.o]) HU1.o⟩⟩
   ·have e1:(x.k == 1)=false:=by simp[h1]
    have H1:=mK h1
    clear h1
    by_cases h2:x.k=2
    ·have e2:(x.k == 2)=true:=by simp[h2]
     have H2:=mK h2
     clear h2
     by_cases h0:d=0
     ·subst h0
      go_wp2
      go_roundg g1
      case measure=>omega
      case rel=>
       exact⟨k+1,0,by have:=HK.o;omega,by go_num,rfl,by omega,⟨acc,Rp.x1s HO.o _,by omega,by omega,by
        rw[<- HE.o,drop_cons HX.o]
        simp only[cloGo,if_neg H1.o,if_pos H2.o,if_true],HP.o.alloc _⟩⟩
     ·have e0:((d:Int) == 0)=false:=by simp;omega
      have H0:=mK h0
      have hd1:1<=d:=by omega
      clear h0
      go_wp2_with (at_builtin;refine Rp.x0o tokR (Rp.x1s HO.o _) x x.cs rfl (Fp:=fun _=>False) (G:=fun k=>w.heap.size<=k) (fun _ h=>h.elim) (fun _ h _=>h) (fun k hk=>by have:=HP.o.size;simp at hk;omega) rfl _ _ 22 _ 32 rfl Tryz.underlying22 x0y rfl (by decide) (by decide) rfl (by simp[Act.eval]) (by omega) ?_;intro v1 w1 ho1 hu1;have HO1:=mK ho1;have HU1:=mK (Upd.trans (HP.o.alloc _) hu1 (fun k hk h=>by have:=Rp.x03 HO.o k h;omega));clear ho1 hu1)
      go_roundg g1
      case measure=>omega
      case rel=>exact⟨k+1,d - 1,by have:=HK.o;omega,by go_num,by first | rfl | go_num | (congr 1;omega),by omega,⟨CloRel.push HO1.o HX.o hlen (by omega) HE.o (by simp only[cloGo,if_neg H1.o,if_pos H2.o,if_neg H0.o]) HU1.o⟩⟩
    ·have e2:(x.k == 2)=false:=by simp[h2]
     have H2:=mK h2
     clear h2
     go_wp2_with (at_builtin;refine Rp.x0o tokR (Rp.x1s HO.o _) x x.cs rfl (Fp:=fun _=>False) (G:=fun k=>w.heap.size<=k) (fun _ h=>h.elim) (fun _ h _=>h) (fun k hk=>by have:=HP.o.size;simp at hk;omega) rfl _ _ 22 _ 32 rfl Tryz.underlying22 x0y rfl (by decide) (by decide) rfl (by simp[Act.eval]) (by omega) ?_;intro v1 w1 ho1 hu1;have HO1:=mK ho1;have HU1:=mK (Upd.trans (HP.o.alloc _) hu1 (fun k hk h=>by have:=Rp.x03 HO.o k h;omega));clear ho1 hu1)
     go_roundg g1
     case measure=>omega
     case rel=>exact⟨k+1,d,by have:=HK.o;omega,by go_num,by first | rfl | go_num | (congr 1;omega),by omega,⟨CloRel.push HO1.o HX.o hlen (by omega) HE.o (by simp only[cloGo,if_neg H1.o,if_neg H2.o]) HU1.o⟩⟩
  ·have hkl:k=l.length:=by omega
   subst hkl
   have heq2:acc ++ List.replicate d shut=closed l:=by rw[<- heq,List.drop_length];rfl
   have HO:=mK hown
   have HE:=mK heq2
   have HP:=mK hp
   have HL:=mK hlen
   clear hown heq2 heq hp HC
   go_wp2
   go_loopg [3,31] d (fun g v i wx=>∃ (k:Nat) (ac2:List Tok),k+g=d/\i=.int .i64 k/\As (tokR.own 71 wx (fun k=>w.heap.size<=k) v ac2)/\As (ac2.length=acc.length+k)/\As (ac2 ++ List.replicate g shut=closed l)/\As (Pure w wx))
   case atStart=>exact⟨0,acc,by omega,rfl,HO,⟨rfl⟩,HE,HP⟩
   case round=>
    clear HO HE HP
    obtain⟨k,ac2,hk,rfl,HO,HL2,HE,HP⟩:=hrel
    cases gk with
    | zero=>
      have hge:¬ ((k:Int) < (d:Int)):=by omega
      go_wp2
      go_ret
      exact⟨_,rfl,by have:=HE.o;simp at this;rw[<- this];exact HO.o,HP.o⟩
    | succ g1=>
      have hlt2:((k:Int) < (d:Int)):=by omega
      have hl2:ac2.length<=1048576 * 4:=by have:=HL2.o;omega
      have HK:=mK hk
      clear hk
      go_wp2_with (at_builtin;refine Rp.x0o tokR HO.o shut shut.cs rfl (Fp:=fun _=>False) (G:=fun k=>w.heap.size<=k) (fun _ h=>h.elim) (fun _ h _=>h) (fun k hk=>by have:=HP.o.size;omega) rfl _ _ 22 _ 32 rfl Tryz.underlying22 x0y rfl (by decide) (by decide) rfl (by simp[Act.eval]) (by omega) ?_;intro v1 w1 ho1 hu1;have HO1:=mK ho1;have HU1:=mK (Upd.trans HP.o hu1 (fun k hk h=>by have:=Rp.x03 HO.o k h;omega));clear ho1 hu1)
      go_roundg g1
      case measure=>omega
      case rel=>exact⟨k+1,ac2 ++ [shut],by have:=HK.o;omega,by go_num,HO1,⟨by have:=HL2.o;simp;omega⟩,⟨by rw[<- HE.o,List.replicate_succ];simp⟩,HU1⟩
/-- Those marks of a set that others have. -/
def within (s m:Int):Int:=if markB s=true then bits .and .i64 s m else 0
theorem Within_calls (s m:Int) (w:World):Calls Tryz.prog 245 #[.int .i64 s,.int .i64 m] w fun e w'=>e=.returned (.int .i64 (within s m))/\w=w':=by
 unfold within
 by_cases h:markB s=true
 ·rw[if_pos h]
  go_enter Tryz.func245,Tryz.ntmps245
  go_wp2_with (go_at_call 148;refine(x4a _ _).mono ?_;rintro e w1 ⟨rfl,rfl⟩)
  go_ret
  exact⟨rfl,rfl⟩
 ·rw[if_neg h]
  have h':markB s=false:=by simpa using h
  clear h
  go_enter Tryz.func245,Tryz.ntmps245
  go_wp2_with (go_at_call 148;refine(x4a _ _).mono ?_;rintro e w1 ⟨rfl,rfl⟩)
  go_ret
  exact⟨rfl,rfl⟩
def x1t (s:Spec) (x:Tok):Bool:=decide (x.k=0) && x0p x && (decide (x.n ≠ 10) || s.lines)
def x3d (s:Spec) (x:Tok):Tok:={ x with m:=within x.m s.marks }
def plain (l:List Tok) (s:Spec):List Tok:=(l.filter (x1t s)).map (x3d s)
theorem plain_take {l:List Tok} {s:Spec} {k:Nat} {x:Tok} (hx:l[k]?=some x):plain (l.take (k+1)) s=plain (l.take k) s ++ if x1t s x then [x3d s x] else []:=by
 unfold plain
 rw[List.take_add_one,hx,List.filter_append,List.map_append]
 congr 1
 by_cases h:x1t s x=true <;> simp[List.filter,h]
theorem plain_len (l:List Tok) (s:Spec):(plain l s).length<=l.length:=by
 unfold plain
 rw[List.length_map]
 exact List.length_filter_le _ _
def x1z (w wr:World) (l:List Tok) (s:Spec) (k:Nat) (v:Value):Prop:=
 tokR.own 71 wr (fun k=>w.heap.size < k) v (plain (l.take k) s)/\Pure w wr/\w.heap.size < wr.heap.size /\
  wr.heap[w.heap.size]?=some (.cells #[.string s.name,.string s.expr,.bool s.leaf,.int .i64 s.marks,.int .i64 s.least,.int .i64 s.most,.bool s.lines] 34)
/-- A token that is passed over. -/
theorem x1z.skip {wr:World} {l:List Tok} {s:Spec} {k:Nat} {v:Value} {x:Tok} (ht:plain (l.take (k+1)) s=plain (l.take k) s ++ if x1t s x then [x3d s x] else []) (hn:x1t s x=false)
 (ho:tokR.own 71 wr (fun k=>w.heap.size < k) v (plain (l.take k) s)) (hp:Pure w wr) (hz:w.heap.size < wr.heap.size) (hs:wr.heap[w.heap.size]?=some (.cells #[.string s.name,.string s.expr,.bool s.leaf,.int .i64 s.marks,.int .i64 s.least,.int .i64 s.most,.bool s.lines] 34)) (hu:Pure wr w1):x1z w w1 l s (k+1) v:=by
 rw[hn,if_neg (by simp),List.append_nil] at ht
 refine⟨by rw[ht];exact Rp.x0w ho hu (fun _ _ _ h=>h),hp.tt hu,Nat.lt_of_lt_of_le hz hu.size,?_⟩
 rw[hu.block _ hz (fun h=>h)]
 exact hs
theorem x1z.set {wr:World} {v:Value} {xs:List Tok} {os:Obj} (ho:tokR.own 71 wr (fun k=>w.heap.size < k) v xs) (hp:Pure w wr) (hu:Pure (wr.alloc os) w1) (u:Value) :
 tokR.own 71 (w1.setCell ⟨wr.heap.size,3,none⟩ u) (fun k=>w.heap.size < k) v xs:=by
 have hu':Upd (fun k=>k=wr.heap.size) wr (w1.setCell ⟨wr.heap.size,3,none⟩ u):=
  (Upd.trans (S:=fun k=>k=wr.heap.size) aU hu (fun _ _ h=>h.elim)).setCell (p:=⟨wr.heap.size,3,none⟩) (fun _=>rfl) u
 exact Rp.x0w ho hu' (fun k hk _=>by omega)
/-- A token that is taken. -/
theorem x1z.push {wr w2:World} {l:List Tok} {s:Spec} {k:Nat} {v v1 u:Value} {x:Tok} {os:Obj} (ht:plain (l.take (k+1)) s=plain (l.take k) s ++ if x1t s x then [x3d s x] else []) (hn:x1t s x=true)
 (ho:tokR.own 71 wr (fun k=>w.heap.size < k) v (plain (l.take k) s)) (hp:Pure w wr) (hz:w.heap.size < wr.heap.size) (hs:wr.heap[w.heap.size]?=some (.cells #[.string s.name,.string s.expr,.bool s.leaf,.int .i64 s.marks,.int .i64 s.least,.int .i64 s.most,.bool s.lines] 34)) (hu:Pure (wr.alloc os) w1)
 (ho1:tokR.own 71 w2 (fun k=>w.heap.size < k) v1 (plain (l.take k) s ++ [x3d s x])) (hu2:Upd (fun k=>v.ownBlock=some k) (w1.setCell ⟨wr.heap.size,3,none⟩ u) w2):x1z w w2 l s (k+1) v1:=by
 rw[hn,if_pos rfl] at ht
 have hu':Upd (fun k=>k=wr.heap.size) wr (w1.setCell ⟨wr.heap.size,3,none⟩ u):=
  (Upd.trans (S:=fun k=>k=wr.heap.size) aU hu (fun _ _ h=>h.elim)).setCell (p:=⟨wr.heap.size,3,none⟩) (fun _=>rfl) u
 have hb:=Rp.x03 ho
 have hall:Upd (fun k=>w.heap.size < k) wr w2:=Upd.trans (hu'.mono (fun k hk h=>by omega)) hu2 (fun k hk h=>(hb k h).1)
 refine⟨by rw[ht];exact ho1,Upd.trans hp hall (fun k hk h=>by omega),Nat.lt_of_lt_of_le hz hall.size,?_⟩
 rw[hall.block _ hz (fun h=>by omega)]
 exact hs
theorem Plain_calls {l:List Tok} {s:Spec} (hr:tokR.row w F A l) (hb:l.length<=1048576) :
 Calls Tryz.prog 244 #[.slice A l.length c,s.val] w fun e w'=>∃ v,e=.returned v/\tokR.own 71 w' (fun k=>w.heap.size<=k) v (plain l s)/\Pure w w':=by
 have HR:=mK hr
 clear hr
 go_enter Tryz.func244,Tryz.ntmps244
 go_wp2
 go_loopg [5,10] l.length (fun g v i wr=>∃ k:Nat,k+g=l.length/\i=.int .i64 k/\As (x1z w wr l s k v))
 case atStart=>exact⟨0,by omega,rfl,⟨Rp.x0v _ _ _ _,rU.alloc _,by simp,heap_alloc_new w _⟩⟩
 case round=>
  obtain⟨k,hk,rfl,HC⟩:=hrel
  obtain⟨hown,hp,hsz,hblk⟩:=HC.o
  by_cases hlt:k < l.length
  ·obtain⟨x,hx⟩:=gS hlt
   obtain⟨b,o,rfl,hF,hbl,c0,c1,c2,c3⟩:=x0j (Rp.x01 HR.o hp) hx
   obtain⟨g1,rfl⟩:=sC1 (by omega:0 < gk)
   have s3:wr.cell? ⟨w.heap.size,3,none⟩=some (.int .i64 s.marks):=by simp[World.cell?,hblk]
   have s6:wr.cell? ⟨w.heap.size,6,none⟩=some (.bool s.lines):=by simp[World.cell?,hblk]
   have HO:=mK hown
   have HX:=mK hx
   have HP:=mK hp
   have HS:=mK hblk
   have HT:=mK (plain_take (s:=s) hx)
   have HK:=mK hk
   have hlen:(plain (l.take k) s).length<=1048576:=by have:=plain_len (l.take k) s;rw[List.length_take] at this;omega
   clear hown hx hp hblk hk HC
   by_cases h0:x.k=0
   ·have e0:(x.k != 0)=false:=by simp[h0]
    have H0:=mK h0
    clear h0
    cases hr:x0p x
    ·have HN:=mK (show x1t s x=false by simp[x1t,hr])
     go_wp2_with (go_at_call 102;refine(x46 x _).mono ?_;rintro e w1 ⟨rfl,hu1⟩;obtain⟨oc,of⟩:=hu1.olds;have hz1:=hu1.size;have HU1:=mK hu1;clear hu1)
     go_roundg g1
     case measure=>omega
     case rel=>exact⟨k+1,by have:=HK.o;omega,by go_num,⟨x1z.skip HT.o HN.o HO.o HP.o hsz HS.o (Upd.trans aU HU1.o (fun _ _ h=>h))⟩⟩
    ·by_cases h10:x.n=10
     ·have e10:(x.n == 10)=true:=by simp[h10]
      cases hl:s.lines
      ·have HN:=mK (show x1t s x=false by simp[x1t,h10,hl])
       clear h10
       go_wp2_with (go_at_call 102;refine(x46 x _).mono ?_;rintro e w1 ⟨rfl,hu1⟩;obtain⟨oc,of⟩:=hu1.olds;have hz1:=hu1.size;have HU1:=mK hu1;clear hu1)
       go_roundg g1
       case measure=>omega
       case rel=>exact⟨k+1,by have:=HK.o;omega,by go_num,⟨x1z.skip HT.o HN.o HO.o HP.o hsz HS.o (Upd.trans aU HU1.o (fun _ _ h=>h))⟩⟩
      ·have HN:=mK (show x1t s x=true by simp[x1t,hr,hl,H0.o])
       clear h10
       go_wp2_with (first | (go_at_call 102;refine(x46 x _).mono ?_;rintro e w1 ⟨rfl,hu1⟩;obtain⟨oc,of⟩:=hu1.olds;have hz1:=hu1.size;have HU1:=mK hu1;clear hu1) | (go_at_call 245;refine(Within_calls _ _ _).mono ?_;rintro e w2 ⟨rfl,rfl⟩) | (at_builtin;refine Rp.x0o tokR (W:=w1.setCell ⟨wr.heap.size,3,none⟩ (.int .i64 (within x.m s.marks))) (x1z.set HO.o HP.o HU1.o _) (x3d s x) (x3d s x).cs rfl (Fp:=fun _=>False) (G:=fun k=>w.heap.size < k) (fun _ h=>h.elim) (fun _ h _=>h) (fun k hk=>by simp[World.setCell] at hk;simp at hz1;omega) rfl _ _ 22 _ 32 rfl Tryz.underlying22 x0y rfl (by decide) (by decide) rfl (by simp[Act.eval,World.setCell]) (by omega) ?_;intro v1 w2 ho1 hu2;have HO1:=mK ho1;have HU2:=mK hu2;clear ho1 hu2))
       go_roundg g1
       case measure=>omega
       case rel=>exact⟨k+1,by have:=HK.o;omega,by go_num,⟨x1z.push HT.o HN.o HO.o HP.o hsz HS.o HU1.o HO1.o HU2.o⟩⟩
     ·have e10:(x.n == 10)=false:=by simp[h10]
      have HN:=mK (show x1t s x=true by simp[x1t,hr,h10,H0.o])
      clear h10
      go_wp2_with (first | (go_at_call 102;refine(x46 x _).mono ?_;rintro e w1 ⟨rfl,hu1⟩;obtain⟨oc,of⟩:=hu1.olds;have hz1:=hu1.size;have HU1:=mK hu1;clear hu1) | (go_at_call 245;refine(Within_calls _ _ _).mono ?_;rintro e w2 ⟨rfl,rfl⟩) | (at_builtin;refine Rp.x0o tokR (W:=w1.setCell ⟨wr.heap.size,3,none⟩ (.int .i64 (within x.m s.marks))) (x1z.set HO.o HP.o HU1.o _) (x3d s x) (x3d s x).cs rfl (Fp:=fun _=>False) (G:=fun k=>w.heap.size < k) (fun _ h=>h.elim) (fun _ h _=>h) (fun k hk=>by simp[World.setCell] at hk;simp at hz1;omega) rfl _ _ 22 _ 32 rfl Tryz.underlying22 x0y rfl (by decide) (by decide) rfl (by simp[Act.eval,World.setCell]) (by omega) ?_;intro v1 w2 ho1 hu2;have HO1:=mK ho1;have HU2:=mK hu2;clear ho1 hu2))
      go_roundg g1
      case measure=>omega
      case rel=>exact⟨k+1,by have:=HK.o;omega,by go_num,⟨x1z.push HT.o HN.o HO.o HP.o hsz HS.o HU1.o HO1.o HU2.o⟩⟩
   ·have e0:(x.k != 0)=true:=by simp[h0]
    have HN:=mK (show x1t s x=false by simp[x1t,h0])
    clear h0
    go_wp2
    go_roundg g1
    case measure=>omega
    case rel=>exact⟨k+1,by have:=HK.o;omega,by go_num,⟨x1z.skip HT.o HN.o HO.o HP.o hsz HS.o aU⟩⟩
  ·have hkl:k=l.length:=by omega
   subst hkl
   have HO:=mK hown
   have HP:=mK hp
   clear hown hp hblk HC
   go_wp2
   go_ret
   refine⟨_,rfl,?_,HP.o⟩
   have:=HO.o
   rw[List.take_length] at this
   exact Rp.x3a this (fun k hk=>by omega)
theorem results_cell_tmp {P:Program} {fn:Func} {p q:Tmp} {ty:TypeId} (h:fn.results=#[.cell p ty,.tmp q]) (tmps:Array Value) (w:World) (g:Nat) (t:TypeId) (cs:Array Value) (fr:Nat × Nat) (d:TypeDesc)
 (hp:tmps.getD p undef=.pointer (some ⟨g,0,none⟩)) (hg:w.heap[g]?=some (.cells cs t fr))
 (hu:P.underlying ty=some d) (hd:(match d with | .struct _ | .array _ _=>true | _=>false)=true) (hi:(P.info? ty).map (·.size)=some cs.size) :
 (results fn tmps).run P w=.ok (.tuple #[.agg cs,tmps.getD q undef]) w:=by
 have hp':tmps[p]?.getD undef=.pointer (some ⟨g,0,none⟩):=by simpa using hp
 simp[results,h,hp',asAddr,run_loadVar_row w g t ty cs fr d hg hu hd hi]
theorem set7 {rb:Nat} {x0 x1 x2 x3 x4 x5 x6:Value} {t:TypeId} {fr:Nat × Nat} (h:w.heap[rb]?=some (.cells #[x0,x1,x2,x3,x4,x5,x6] t fr)) (y0 y1 y2 y3 y4 y5 y6:Value) :
 (((((((w.setCell ⟨rb,0,none⟩ y0).setCell ⟨rb,1,none⟩ y1).setCell ⟨rb,2,none⟩ y2).setCell ⟨rb,3,none⟩ y3).setCell ⟨rb,4,none⟩ y4).setCell ⟨rb,5,none⟩ y5).setCell ⟨rb,6,none⟩ y6).heap[rb]?=some (.cells #[y0,y1,y2,y3,y4,y5,y6] t fr):=by simp[World.setCell,Array.getElem?_modify,h]
theorem set7_upd (w:World) (rb:Nat) (y0 y1 y2 y3 y4 y5 y6:Value):Upd (fun k=>k=rb) w (((((((w.setCell ⟨rb,0,none⟩ y0).setCell ⟨rb,1,none⟩ y1).setCell ⟨rb,2,none⟩ y2).setCell ⟨rb,3,none⟩ y3).setCell ⟨rb,4,none⟩ y4).setCell ⟨rb,5,none⟩ y5).setCell ⟨rb,6,none⟩ y6):=
 (Upd.refl (fun k=>k=rb) w)|>.setCell (p:=⟨rb,0,none⟩) (fun _=>rfl) _ |>.setCell (p:=⟨rb,1,none⟩) (fun _=>rfl) _ |>.setCell (p:=⟨rb,2,none⟩) (fun _=>rfl) _ |>.setCell (p:=⟨rb,3,none⟩) (fun _=>rfl) _ |>.setCell (p:=⟨rb,4,none⟩) (fun _=>rfl) _ |>.setCell (p:=⟨rb,5,none⟩) (fun _=>rfl) _ |>.setCell (p:=⟨rb,6,none⟩) (fun _=>rfl) _ 
theorem Closed13_calls {l:List Tok} (hr:tokR.row w F A l) (hb:l.length<=1048576 * 2) :
 Calls Tryz.prog 99 #[.slice A l.length c] w fun e w'=>∃ v,e=.returned v/\tokR.own 71 w' (fun k=>w.heap.size<=k) v (closed l)/\Pure w w':=by
 have HR:=mK hr
 clear hr
 go_enter Tryz.func99,Tryz.ntmps99
 go_wp2
 go_loopg [3,4,5] l.length (fun g v op i wr=>∃ k d:Nat,k+g=l.length/\i=.int .i64 k/\op=.int .i64 d/\d<=k/\As (CloRel w wr l k d v))
 case atStart=>exact⟨0,0,by omega,rfl,rfl,by omega,⟨[],Rp.x0v _ _ _ _,by simp,by simp,rfl,Upd.refl _ _⟩⟩
 case round=>
  obtain⟨k,d,hk,rfl,rfl,hd,HC⟩:=hrel
  obtain⟨acc,hown,hlen,hdk,heq,hp⟩:=HC.o
  by_cases hlt:k < l.length
  ·obtain⟨x,hx⟩:=gS hlt
   obtain⟨b,o,rfl,hF,hbl,c0,c1,c2,c3⟩:=x0j (Rp.x01 HR.o hp) hx
   obtain⟨g1,rfl⟩:=sC1 (by omega:0 < gk)
   have HO:=mK hown
   have HX:=mK hx
   have HE:=mK heq
   have HP:=mK hp
   clear hown hx heq hp HC
   have HK:=mK hk
   clear hk
   by_cases h1:x.k=1
   ·have e1:(x.k == 1)=true:=by simp[h1]
    have e2:(x.k == 2)=false:=by simp[h1]
    have H1:=mK h1
    clear h1
    go_wp2_with (at_builtin;refine Rp.x0o tokR HO.o x x.cs rfl (Fp:=fun _=>False) (G:=fun k=>w.heap.size<=k) (fun _ h=>h.elim) (fun _ h _=>h) (fun k hk=>by have:=HP.o.size;omega) rfl _ _ 22 _ 32 rfl Tryz.underlying22 x0y rfl (by decide) (by decide) rfl (by simp[Act.eval]) (by omega) ?_;intro v1 w1 ho1 hu1;have HO1:=mK ho1;have HU1:=mK (Upd.trans HP.o hu1 (fun k hk h=>by have:=Rp.x03 HO.o k h;omega));clear ho1 hu1)
    go_roundg g1
    case measure=>omega
    case rel=>exact⟨k+1,d+1,by have:=HK.o;omega,by go_num,by first | rfl | go_num | (congr 1;omega),by omega,⟨CloRel.push HO1.o HX.o hlen (by omega) HE.o (by simp only[cloGo,if_pos H1.o]) HU1.o⟩⟩
   ·have e1:(x.k == 1)=false:=by simp[h1]
    have H1:=mK h1
    clear h1
    by_cases h2:x.k=2
    ·have e2:(x.k == 2)=true:=by simp[h2]
     have H2:=mK h2
     clear h2
     by_cases h0:d=0
     ·subst h0
      go_wp2
      go_roundg g1
      case measure=>omega
      case rel=>
       exact⟨k+1,0,by have:=HK.o;omega,by go_num,rfl,by omega,⟨acc,HO.o,by omega,by omega,by
        rw[<- HE.o,drop_cons HX.o]
        simp only[cloGo,if_neg H1.o,if_pos H2.o,if_true],HP.o⟩⟩
     ·have e0:((d:Int) == 0)=false:=by simp;omega
      have H0:=mK h0
      have hd1:1<=d:=by omega
      clear h0
      go_wp2_with (at_builtin;refine Rp.x0o tokR HO.o x x.cs rfl (Fp:=fun _=>False) (G:=fun k=>w.heap.size<=k) (fun _ h=>h.elim) (fun _ h _=>h) (fun k hk=>by have:=HP.o.size;omega) rfl _ _ 22 _ 32 rfl Tryz.underlying22 x0y rfl (by decide) (by decide) rfl (by simp[Act.eval]) (by omega) ?_;intro v1 w1 ho1 hu1;have HO1:=mK ho1;have HU1:=mK (Upd.trans HP.o hu1 (fun k hk h=>by have:=Rp.x03 HO.o k h;omega));clear ho1 hu1)
      go_roundg g1
      case measure=>omega
      case rel=>exact⟨k+1,d - 1,by have:=HK.o;omega,by go_num,by first | rfl | go_num | (congr 1;omega),by omega,⟨CloRel.push HO1.o HX.o hlen (by omega) HE.o (by simp only[cloGo,if_neg H1.o,if_pos H2.o,if_neg H0.o]) HU1.o⟩⟩
    ·have e2:(x.k == 2)=false:=by simp[h2]
     have H2:=mK h2
     clear h2
     go_wp2_with (at_builtin;refine Rp.x0o tokR HO.o x x.cs rfl (Fp:=fun _=>False) (G:=fun k=>w.heap.size<=k) (fun _ h=>h.elim) (fun _ h _=>h) (fun k hk=>by have:=HP.o.size;omega) rfl _ _ 22 _ 32 rfl Tryz.underlying22 x0y rfl (by decide) (by decide) rfl (by simp[Act.eval]) (by omega) ?_;intro v1 w1 ho1 hu1;have HO1:=mK ho1;have HU1:=mK (Upd.trans HP.o hu1 (fun k hk h=>by have:=Rp.x03 HO.o k h;omega));clear ho1 hu1)
     go_roundg g1
     case measure=>omega
     case rel=>exact⟨k+1,d,by have:=HK.o;omega,by go_num,by first | rfl | go_num | (congr 1;omega),by omega,⟨CloRel.push HO1.o HX.o hlen (by omega) HE.o (by simp only[cloGo,if_neg H1.o,if_neg H2.o]) HU1.o⟩⟩
  ·have hkl:k=l.length:=by omega
   subst hkl
   have heq2:acc ++ List.replicate d shut=closed l:=by rw[<- heq,List.drop_length];rfl
   have HO:=mK hown
   have HE:=mK heq2
   have HP:=mK hp
   have HL:=mK hlen
   clear hown heq2 heq hp HC
   go_wp2
   go_loopg [3,4] d (fun g v i wx=>∃ (ac2:List Tok),i=.int .i64 g/\As (tokR.own 71 wx (fun k=>w.heap.size<=k) v ac2)/\As (ac2.length+g=acc.length+d)/\As (ac2 ++ List.replicate g shut=closed l)/\As (Pure w wx))
   case atStart=>exact⟨acc,rfl,HO,⟨rfl⟩,HE,HP⟩
   case round=>
    clear HO HE HP
    obtain⟨ac2,rfl,HO,HL2,HE,HP⟩:=hrel
    cases gk with
    | zero=>
      go_wp2
      go_ret
      exact⟨_,rfl,by have:=HE.o;simp at this;rw[<- this];exact HO.o,HP.o⟩
    | succ g1=>
      have hlt2:((0:Int) < ((g1+1:Nat):Int)):=by omega
      have hg1:g1<=4194304:=by have:=HL2.o;omega
      have hl2:ac2.length<=1048576 * 4:=by have:=HL2.o;omega
      go_wp2_with (at_builtin;refine Rp.x0o tokR HO.o shut shut.cs rfl (Fp:=fun _=>False) (G:=fun k=>w.heap.size<=k) (fun _ h=>h.elim) (fun _ h _=>h) (fun k hk=>by have:=HP.o.size;omega) rfl _ _ 22 _ 32 rfl Tryz.underlying22 x0y rfl (by decide) (by decide) rfl (by simp[Act.eval]) (by omega) ?_;intro v1 w1 ho1 hu1;have HO1:=mK ho1;have HU1:=mK (Upd.trans HP.o hu1 (fun k hk h=>by have:=Rp.x03 HO.o k h;omega));clear ho1 hu1)
      go_roundg g1
      case measure=>omega
      case rel=>exact⟨ac2 ++ [shut],by go_num,HO1,⟨by have:=HL2.o;simp;omega⟩,⟨by rw[<- HE.o,List.replicate_succ];simp⟩,HU1⟩
theorem Within3_calls (s m:Int) (w:World):Calls Tryz.prog 146 #[.int .i64 s,.int .i64 m] w fun e w'=>e=.returned (.int .i64 (within s m))/\w=w':=by
 unfold within
 by_cases h:markB s=true
 ·rw[if_pos h]
  go_enter Tryz.func146,Tryz.ntmps146
  go_wp2_with (go_at_call 141;refine(x3c _ _).mono ?_;rintro e w1 ⟨rfl,rfl⟩)
  go_ret
  exact⟨rfl,rfl⟩
 ·rw[if_neg h]
  have h':markB s=false:=by simpa using h
  clear h
  go_enter Tryz.func146,Tryz.ntmps146
  go_wp2_with (go_at_call 141;refine(x3c _ _).mono ?_;rintro e w1 ⟨rfl,rfl⟩)
  go_ret
  exact⟨rfl,rfl⟩
theorem Plain13_calls {l:List Tok} {s:Spec} (hr:tokR.row w F A l) (hb:l.length<=1048576) :
 Calls Tryz.prog 98 #[.slice A l.length c,s.val] w fun e w'=>∃ v,e=.returned v/\tokR.own 71 w' (fun k=>w.heap.size<=k) v (plain l s)/\Pure w w':=by
 have HR:=mK hr
 clear hr
 go_enter Tryz.func98,Tryz.ntmps98
 go_wp2
 go_loopg [5,6] l.length (fun g v i wr=>∃ k:Nat,k+g=l.length/\i=.int .i64 k/\As (x1z w wr l s k v))
 case atStart=>exact⟨0,by omega,rfl,⟨Rp.x0v _ _ _ _,rU.alloc _,by simp,heap_alloc_new w _⟩⟩
 case round=>
  obtain⟨k,hk,rfl,HC⟩:=hrel
  obtain⟨hown,hp,hsz,hblk⟩:=HC.o
  by_cases hlt:k < l.length
  ·obtain⟨x,hx⟩:=gS hlt
   obtain⟨b,o,rfl,hF,hbl,c0,c1,c2,c3⟩:=x0j (Rp.x01 HR.o hp) hx
   obtain⟨g1,rfl⟩:=sC1 (by omega:0 < gk)
   have s3:wr.cell? ⟨w.heap.size,3,none⟩=some (.int .i64 s.marks):=by simp[World.cell?,hblk]
   have s6:wr.cell? ⟨w.heap.size,6,none⟩=some (.bool s.lines):=by simp[World.cell?,hblk]
   have HO:=mK hown
   have HX:=mK hx
   have HP:=mK hp
   have HS:=mK hblk
   have HT:=mK (plain_take (s:=s) hx)
   have HK:=mK hk
   have hlen:(plain (l.take k) s).length<=1048576:=by have:=plain_len (l.take k) s;rw[List.length_take] at this;omega
   clear hown hx hp hblk hk HC
   by_cases h0:x.k=0
   ·have e0:(x.k == 0)=true:=by simp[h0]
    have H0:=mK h0
    clear h0
    cases hr:x0p x
    ·have HN:=mK (show x1t s x=false by simp[x1t,hr])
     go_wp2_with (go_at_call 97;refine(x2s x _).mono ?_;rintro e w1 ⟨rfl,hu1⟩;obtain⟨oc,of⟩:=hu1.olds;have hz1:=hu1.size;have HU1:=mK hu1;clear hu1)
     go_roundg g1
     case measure=>omega
     case rel=>exact⟨k+1,by have:=HK.o;omega,by go_num,⟨x1z.skip HT.o HN.o HO.o HP.o hsz HS.o (Upd.trans aU HU1.o (fun _ _ h=>h))⟩⟩
    ·by_cases h10:x.n=10
     ·have e10:(x.n != 10)=false:=by simp[h10]
      cases hl:s.lines
      ·have HN:=mK (show x1t s x=false by simp[x1t,h10,hl])
       clear h10
       go_wp2_with (go_at_call 97;refine(x2s x _).mono ?_;rintro e w1 ⟨rfl,hu1⟩;obtain⟨oc,of⟩:=hu1.olds;have hz1:=hu1.size;have HU1:=mK hu1;clear hu1)
       go_roundg g1
       case measure=>omega
       case rel=>exact⟨k+1,by have:=HK.o;omega,by go_num,⟨x1z.skip HT.o HN.o HO.o HP.o hsz HS.o (Upd.trans aU HU1.o (fun _ _ h=>h))⟩⟩
      ·have HN:=mK (show x1t s x=true by simp[x1t,hr,hl,H0.o])
       clear h10
       go_wp2_with (first | (go_at_call 97;refine(x2s x _).mono ?_;rintro e w1 ⟨rfl,hu1⟩;obtain⟨oc,of⟩:=hu1.olds;have hz1:=hu1.size;have HU1:=mK hu1;clear hu1) | (go_at_call 146;refine(Within3_calls _ _ _).mono ?_;rintro e w2 ⟨rfl,rfl⟩) | (at_builtin;refine Rp.x0o tokR (W:=w1.setCell ⟨wr.heap.size,3,none⟩ (.int .i64 (within x.m s.marks))) (x1z.set HO.o HP.o HU1.o _) (x3d s x) (x3d s x).cs rfl (Fp:=fun _=>False) (G:=fun k=>w.heap.size < k) (fun _ h=>h.elim) (fun _ h _=>h) (fun k hk=>by simp[World.setCell] at hk;simp at hz1;omega) rfl _ _ 22 _ 32 rfl Tryz.underlying22 x0y rfl (by decide) (by decide) rfl (by simp[Act.eval,World.setCell]) (by omega) ?_;intro v1 w2 ho1 hu2;have HO1:=mK ho1;have HU2:=mK hu2;clear ho1 hu2))
       go_roundg g1
       case measure=>omega
       case rel=>exact⟨k+1,by have:=HK.o;omega,by go_num,⟨x1z.push HT.o HN.o HO.o HP.o hsz HS.o HU1.o HO1.o HU2.o⟩⟩
     ·have e10:(x.n != 10)=true:=by simp[h10]
      have HN:=mK (show x1t s x=true by simp[x1t,hr,h10,H0.o])
      clear h10
      go_wp2_with (first | (go_at_call 97;refine(x2s x _).mono ?_;rintro e w1 ⟨rfl,hu1⟩;obtain⟨oc,of⟩:=hu1.olds;have hz1:=hu1.size;have HU1:=mK hu1;clear hu1) | (go_at_call 146;refine(Within3_calls _ _ _).mono ?_;rintro e w2 ⟨rfl,rfl⟩) | (at_builtin;refine Rp.x0o tokR (W:=w1.setCell ⟨wr.heap.size,3,none⟩ (.int .i64 (within x.m s.marks))) (x1z.set HO.o HP.o HU1.o _) (x3d s x) (x3d s x).cs rfl (Fp:=fun _=>False) (G:=fun k=>w.heap.size < k) (fun _ h=>h.elim) (fun _ h _=>h) (fun k hk=>by simp[World.setCell] at hk;simp at hz1;omega) rfl _ _ 22 _ 32 rfl Tryz.underlying22 x0y rfl (by decide) (by decide) rfl (by simp[Act.eval,World.setCell]) (by omega) ?_;intro v1 w2 ho1 hu2;have HO1:=mK ho1;have HU2:=mK hu2;clear ho1 hu2))
      go_roundg g1
      case measure=>omega
      case rel=>exact⟨k+1,by have:=HK.o;omega,by go_num,⟨x1z.push HT.o HN.o HO.o HP.o hsz HS.o HU1.o HO1.o HU2.o⟩⟩
   ·have e0:(x.k == 0)=false:=by simp[h0]
    have HN:=mK (show x1t s x=false by simp[x1t,h0])
    clear h0
    go_wp2
    go_roundg g1
    case measure=>omega
    case rel=>exact⟨k+1,by have:=HK.o;omega,by go_num,⟨x1z.skip HT.o HN.o HO.o HP.o hsz HS.o aU⟩⟩
  ·have hkl:k=l.length:=by omega
   subst hkl
   have HO:=mK hown
   have HP:=mK hp
   clear hown hp hblk HC
   go_wp2
   go_ret
   refine⟨_,rfl,?_,HP.o⟩
   have:=HO.o
   rw[List.take_length] at this
   exact Rp.x3a this (fun k hk=>by omega)
theorem Alike13_calls {c':Nat} {l l':List Tok} (hr:tokR.row w F A l) (hr':tokR.row w G B l') (hb:l.length<=1048576 * 4) (hb':l'.length<=1048576 * 4) :
 Calls Tryz.prog 101 #[.slice A l.length c,.slice B l'.length c'] w fun e w'=>e=.returned (.bool (decide (l=l')))/\Pure w w':=by
 by_cases hll:l.length=l'.length
 ·have HR:=mK hr
  have HR':=mK hr'
  have HL:=mK hll
  rw[hll]
  clear hr hr' hll
  go_enter Tryz.func101,Tryz.ntmps101
  go_wp2
  go_loopg [5] l'.length (fun g i wr=>∃ k:Nat,k+g=l'.length/\i=.int .i64 k/\As (l.take k=l'.take k)/\As (Pure w wr))
  case atStart=>exact⟨0,by omega,rfl,⟨by simp⟩,⟨Upd.refl _ _⟩⟩
  case round=>
   obtain⟨k,hk,rfl,HT,HP⟩:=hrel
   by_cases hlt:k < l'.length
   ·obtain⟨g1,rfl⟩:=sC1 (by omega:0 < gk)
    obtain⟨x,hx⟩:∃ x,l[k]?=some x:=⟨_,List.getElem?_eq_getElem (by have:=HL.o;omega)⟩
    obtain⟨y,hy⟩:∃ y,l'[k]?=some y:=⟨_,List.getElem?_eq_getElem hlt⟩
    obtain⟨b,o,rfl,hF,hbl,c0,c1,c2,c3⟩:=x0j (Rp.x01 HR.o HP.o) hx
    obtain⟨b',o',rfl,hG,hbl',d0,d1,d2,d3⟩:=x0j (Rp.x01 HR'.o HP.o) hy
    have HX:=mK hx
    have HY:=mK hy
    have HK:=mK hk
    clear hx hy hk
    by_cases hxy:x=y
    ·subst hxy
     go_wp2
     go_region
     all_goals go_wp2
     all_goals go_roundg g1
     all_goals first
      | (case measure=>omega)
      | (case rel=>exact⟨k+1,by have:=HK.o;omega,by go_num,⟨by rw[List.take_add_one,List.take_add_one,HT.o,HX.o,HY.o]⟩,⟨HP.o.drew⟩⟩)
    ·have HN:=mK hxy
     rcases tok_diff hxy with h | ⟨h1,h⟩ | ⟨h1,h2,h⟩ | ⟨h1,h2,h3,h⟩
     all_goals
      clear hxy
      go_wp2
      go_region
      all_goals go_wp2
      all_goals go_ret
      all_goals exact⟨x0h (lists_diff HX.o HY.o HN.o).symm,HP.o.drew⟩
   ·have hkl:k=l'.length:=by omega
    subst hkl
    go_wp2
    go_ret
    refine⟨x0h ?_,HP.o⟩
    have h1:=HT.o
    rw[List.take_length,<- HL.o,List.take_length] at h1
    simp[h1]
 ·have h1:¬ ((l.length:Int)=(l'.length:Int)):=by omega
  have HN:=mK hll
  go_enter Tryz.func101,Tryz.ntmps101
  go_wp2
  go_ret
  exact⟨x0h (by symm;rw[decide_eq_false_iff_not];rintro rfl;exact HN.o rfl),Upd.refl _ _⟩
/-- Two slices of the same tokens. -/
theorem Alike13_same {c':Nat} {l:List Tok} (hr:tokR.row w F A l) (hr':tokR.row w G B l) (hb:l.length<=1048576 * 4) :
 Calls Tryz.prog 101 #[.slice A l.length c,.slice B l.length c'] w fun e w'=>e=.returned (.bool true)/\Pure w w':=by
 refine(Alike13_calls hr hr' hb hb).mono ?_
 rintro e w' ⟨rfl,hu⟩
 exact⟨x0h (by simp),hu⟩
end Go.Proofs.YtofjodppljnlaaaGreatDoor
