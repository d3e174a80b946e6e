/- My own texts, packed: NestA, Nest6c, NestItems. -/
import Derived.Test.YtofjodppljnlaaaGreatDoorP40
import Derived.Test.YtofjodppljnlaaaGreatDoorP41
set_option maxRecDepth 100000
set_option maxHeartbeats 4000000
set_option linter.unusedVariables false
set_option linter.unusedSimpArgs false
variable {w w1 W:Go.World} {F G:Nat → Prop} {A B:Option Go.Addr} {cb c:Nat}
namespace Go.Proofs.YtofjodppljnlaaaGreatDoor
open Go.RowKit
theorem Alike27_calls {c':Nat} {l l':List Tok} (hr:tokR.row w F A l) (hr':tokR.row w G B l') (hb:l.length<=1048576 * 4) (hb':l'.length<=1048576 * 4) :
 Calls Tryz.prog 113 #[.slice A l.length c,.slice B l'.length c'] w fun e w'=>e=.returned (.bool (decide (l=l')))/\Pure w w':=by
 by_cases hll:l.length=l'.length
 ·have HR:=mK hr
  have HR':=mK hr'
  have HL:=mK hll
  rw[hll]
  clear hr hr' hll
  go_enter Tryz.func113,Tryz.ntmps113
  go_wp2
  go_loopg [5] l'.length (fun g i wr=>∃ k:Nat,k+g=l'.length/\i=.int .i64 k/\As (l.take k=l'.take k)/\As (Pure w wr))
  case atStart=>exact⟨0,by omega,rfl,⟨by simp⟩,⟨Upd.refl _ _⟩⟩
  case round=>
   obtain⟨k,hk,rfl,HT,HP⟩:=hrel
   by_cases hlt:k < l'.length
   ·obtain⟨g1,rfl⟩:=sC1 (by omega:0 < gk)
    obtain⟨x,hx⟩:∃ x,l[k]?=some x:=⟨_,List.getElem?_eq_getElem (by have:=HL.o;omega)⟩
    obtain⟨y,hy⟩:∃ y,l'[k]?=some y:=⟨_,List.getElem?_eq_getElem hlt⟩
    obtain⟨b,o,rfl,hF,hbl,c0,c1,c2,c3⟩:=x0j (Rp.x01 HR.o HP.o) hx
    obtain⟨b',o',rfl,hG,hbl',d0,d1,d2,d3⟩:=x0j (Rp.x01 HR'.o HP.o) hy
    have HX:=mK hx
    have HY:=mK hy
    have HK:=mK hk
    clear hx hy hk
    by_cases hxy:x=y
    ·subst hxy
     go_wp2
     go_region
     all_goals go_wp2
     all_goals go_roundg g1
     all_goals first
      | (case measure=>omega)
      | (case rel=>exact⟨k+1,by have:=HK.o;omega,by go_num,⟨by rw[List.take_add_one,List.take_add_one,HT.o,HX.o,HY.o]⟩,⟨HP.o.drew⟩⟩)
    ·have HN:=mK hxy
     rcases tok_diff hxy with h | ⟨h1,h⟩ | ⟨h1,h2,h⟩ | ⟨h1,h2,h3,h⟩
     all_goals
      clear hxy
      go_wp2
      go_region
      all_goals go_wp2
      all_goals go_ret
      all_goals exact⟨x0h (lists_diff HX.o HY.o HN.o).symm,HP.o.drew⟩
   ·have hkl:k=l'.length:=by omega
    subst hkl
    go_wp2
    go_ret
    refine⟨x0h ?_,HP.o⟩
    have h1:=HT.o
    rw[List.take_length,<- HL.o,List.take_length] at h1
    simp[h1]
 ·have h1:¬ ((l.length:Int)=(l'.length:Int)):=by omega
  have HN:=mK hll
  go_enter Tryz.func113,Tryz.ntmps113
  go_wp2
  go_ret
  exact⟨x0h (by symm;rw[decide_eq_false_iff_not];rintro rfl;exact HN.o rfl),Upd.refl _ _⟩
/-- Two slices of the same tokens. -/
theorem Alike27_same {c':Nat} {l:List Tok} (hr:tokR.row w F A l) (hr':tokR.row w G B l) (hb:l.length<=1048576 * 4) :
 Calls Tryz.prog 113 #[.slice A l.length c,.slice B l.length c'] w fun e w'=>e=.returned (.bool true)/\Pure w w':=by
 refine(Alike27_calls hr hr' hb hb).mono ?_
 rintro e w' ⟨rfl,hu⟩
 exact⟨x0h (by simp),hu⟩
theorem ntell_doc {T:Option Addr} {ct:Nat} {l sl:List Tok} {a b g h ins:Int} (hS:SchR w cb x02 x07) (hne:l ≠ []) (hr:tokR.row w F A l) (hlc:l.length<=c) (hb:l.length<=1048576 * 4) (hsl:sl ≠ []) (hs:tokR.row w G T sl) (hsb:sl.length<=2048) :
 Calls Tryz.prog 108 #[deskV cb A l.length c,(arnd a b g h ins sl).bare,.slice T sl.length ct] w (NTold (arnd a b g h ins sl) (x08 l (arnd a b g h ins sl)) w):=
 ntell_calls (s:=arnd a b g h ins sl) (x:=x0t l (arnd a b g h ins sl)) hsl hs (by show sl.length<=_;omega) (fun W B cs hW hrow hcs=>Do_calls (hS.pure hW) (fun V hV=>Apply_calls (s:=arnd a b g h ins sl) (Rp.x01 (Rp.x01 hr hW) hV) (Rp.x01 hrow hV) hb (by show sl.length<=_;omega) (fun h0 h1 h2=>doc_arnd hne (Rp.x01 (Rp.x01 hr hW) hV) hlc (Rp.x01 hrow hV) hcs (fun e=>absurd e hsl) h0 h1 h2)))
instance (l:List Tok) (x:Nat):Decidable (outOk l x):=by unfold outOk;infer_instance
def outSt (l:List Tok) (p:Int):StepD:=match x28 l p with
 | []=>repl 0 0 []
 | x :: _=>nOut l x.toNat (x04 l x).toNat
def x33 (l:List Tok) (p:Int):Int:=if x0e l p p ≠ 0 then x0e l p p else match x28 l p with
 | []=>6
 | x :: _=>if outOk l x.toNat then x08 l (nOut l x.toNat (x04 l x).toNat) else 6
def indSt (l:List Tok) (p:Int):StepD:=match x28 l p with
 | []=>repl 0 0 []
 | x :: _=>nInd l x.toNat (x04 l x).toNat
def x30 (l:List Tok) (p:Int):Int:=if x0e l p p ≠ 0 then x0e l p p else match x28 l p with
 | []=>6
 | x :: _=>if l[x.toNat - 1]?=some shutT then x08 l (nInd l x.toNat (x04 l x).toNat) else 6
theorem right_shut {x:Tok} (h:x0p x=true) (h2:x.k=2):x=shutT:=by
 have h3:RightP x:=of_decide_eq_true h
 unfold RightP at h3
 obtain⟨k,t,n,m⟩:=x
 simp only at h2 h3 ⊢
 subst h2
 have h4:t=0/\n=0/\m=0:=by omega
 obtain⟨rfl,rfl,rfl⟩:=h4
 rfl
theorem awake_place:∃ R,AtP x2y 0 R/\x0n R.2 x07 (mayGo x2y 0 7 (kidsL x2y (x04 x2y 0)) false)=true:=by
 have ok:(x0d x2y).2=0:=by kernel_rfl
 obtain⟨R,hR⟩:=at_place ok (by decide) (n:=0) (by decide)
 refine⟨R,hR,?_⟩
 rcases hR.whole with ⟨_,h2⟩ | ⟨j,yt,y,h2,_⟩
 ·have e2:R=x0r x02 ((0:Nat):Int):=by
   unfold x0r
   rw[Int.toNat_natCast,h2]
   rfl
  rw[e2]
  show x0n (x0r x02 ((0:Nat):Int)).2 x07 (mayGo x2y 0 7 (kidsL x2y (x04 x2y 0)) false)=true
  kernel_rfl
 ·have:x04 x2y ((0:Nat):Int)=-1:=by kernel_rfl
  omega
theorem Chain_may {n:Nat} {at' t e:Int} (ht:t ≠ 0)
 (hc:∀ W,Pure w W->Calls Tryz.prog 15 #[.pointer (some ⟨cb,0,none⟩),.slice A n c] W fun r w'=>r=.returned (.tuple #[.int .i64 e,.int .i64 0])/\Pure W w')
 (hm:∀ W,Pure w W->Calls Tryz.prog 19 #[.pointer (some ⟨cb,0,none⟩),.slice A n c,.int .i64 at',.int .i64 t] W fun r w'=>r=.returned (.bool true)/\Pure W w') :
 Calls Tryz.prog 104 #[.pointer (some ⟨cb,0,none⟩),.slice A n c,.int .i64 at',.int .i64 t] w fun r w'=>r=.returned (.tuple #[.slice none 0 0,.bool true])/\Pure w w':=by
 have HC:=mK hc
 have HM:=mK hm
 have f0:(t == 0)=false:=by simpa using ht
 clear hc hm ht
 go_enter Tryz.func104,Tryz.ntmps104
 go_wp2_with (first | (go_at_call 19;refine(HM.o _ HU1.o).mono ?_;rintro r w2 ⟨rfl,hu⟩;have HU2:=mK (HU1.o.tt hu);clear hu) | (go_at_call 15;refine(HC.o _ rU).mono ?_;rintro r w1 ⟨rfl,hu⟩;have HU1:=mK hu;clear hu))
 go_simp
 refine bodyPost_ret (results_tmp2 rfl _ _ _) rfl ?_
 exact⟨rfl,HU2.o⟩
theorem awake27_calls (w:World):Calls Tryz.prog 50 #[] w fun r w'=>r=.returned (.bool true)/\Pure w w':=by
 have HH:=mK (fun W=>x4r W)
 have HC:=mK (fun (W V:World) (cb:Nat) (hV:V=W.alloc (.cells #[.int .i64 1,.int .i64 1,.int .i64 0,.int .i64 0,.int .i64 2,.int .i64 0,.int .i64 0,.int .i64 0] 71)) (hs:SchR W cb x02 x07)=>(by
  have hp:Pure W V:=hV ▸ Upd.alloc1 _ _ _
  have r1:tokR.row V (fun _=>True) (some ⟨W.heap.size,0,none⟩) x2y:=hV ▸ x1a (F:=fun _=>True) (heap_alloc_new W _) trivial
  have ok:(x0d x2y).2=0:=by kernel_rfl
  obtain⟨R,hR,hacc⟩:=awake_place
  exact(Chain_may (n:=2) (e:=(x0d x2y).1) (t:=7) (by decide) (fun X hX=>(by
   have h9:=x3g (c:=2) ((hs.pure hp).pure hX) (Rp.x01 r1 hX) (by decide)
   rw[ok] at h9
   exact h9)) (fun X hX=>(by
   have h9:=May_ok (t:=7) ((hs.pure hp).pure hX) (Rp.x01 r1 hX) (by decide) (c:=2) (by decide) ok (by decide) hR
   rw[show (((0:Nat):Int))=0 from rfl,hacc] at h9
   exact h9))).mono (fun r w' h=>⟨h.1,hp.tt h.2⟩) :
  Calls Tryz.prog 104 #[.pointer (some ⟨cb,0,none⟩),.slice (some ⟨W.heap.size,0,none⟩) 2 2,.int .i64 0,.int .i64 7] V fun r w'=>r=.returned (.tuple #[.slice none 0 0,.bool true])/\Pure W w'))
 go_enter Tryz.func50,Tryz.ntmps50
 go_wp2_with (first | (go_at_call 104;refine(HC.o _ _ _ rfl HS1.o).mono ?_;rintro r w2 ⟨rfl,hu⟩;have HU2:=mK (HU1.o.tt hu);clear hu) | (go_at_call 13;refine(HH.o w).mono ?_;rintro r w1 ⟨cb1,rfl,hs,hu⟩;have HS1:=mK hs;have HU1:=mK hu;clear hu hs))
 go_ret
 exact⟨rfl,HU2.o⟩
theorem Outdent_calls {l:List Tok} {p:Int} (h:SchR w cb x02 x07) (hr:tokR.row w F A l) (hlc:l.length<=c) (hb:l.length<=2048) :
 Calls Tryz.prog 53 #[.pointer (some ⟨cb,0,none⟩),.slice A l.length c,.int .i64 p] w (NTold (outSt l p) (x33 l p) w):=by
 have hP:=fun W (hu:Pure w W)=>nat_calls (c:=c) (p:=p) (h.pure hu) (Rp.x01 hr hu) (by omega)
 have hI:=fun W (hu:Pure w W)=>item_calls (cb:=cb) (c:=c) (p:=p) (Rp.x01 hr hu) hb hlc
 have hA:=fun (q:Int) W (hu:Pure w W)=>x2g (c:=c) (at':=q) (Rp.x01 hr hu) (by omega) hlc
 have hO:=fun (q:Nat) (y:Tok) (hy:l[q]?=some y) (h1:y.k=1) W (hu:Pure w W)=>x5s (c:=c) (Rp.x01 hr hu) (by omega) hlc hy h1
 by_cases hp:x0e l p p=0
 ·have hl:=(x16.1 hp).1
  have hne:=x3b hl
  rw[hp] at hP
  cases hs:x28 l p with
  | nil=>
    have he:x33 l p=6:=by unfold x33;rw[if_neg (by omega),hs]
    rw[he]
    have hv:itemV l p=(0,0,0,false):=by unfold itemV;rw[hs]
    rw[hv] at hI
    simp only at hI
    exact x5r (out:=0) (pl:=0) (po:=0) hr hb ⟨by omega,by omega⟩ hP hI (by simp) (by simp) (by simp) (.inr (.inl ⟨rfl,rfl,rfl⟩))
  | cons x r=>
    obtain⟨i,o,rfl,hi,ho1,ho6,_⟩:=items_open (l:=l) (l.length+1) p x (by
     have:x28 l p=x2f l (l.length+1) (x04 l p):=rfl
     rw[<- this,hs];simp)
    have hil:=(List.getElem?_eq_some_iff.1 hi).1
    have hv:itemV l p=((i:Int),partL l i+1,x04 l i,decide (0<=x04 l i)):=by unfold itemV;rw[hs];rfl
    rw[hv] at hI
    simp only at hI
    have hbd:=x3i (i:=i) hb
    have hS:outSt l p=nOut l i (x04 l i).toNat:=by unfold outSt;rw[hs];rfl
    have hE:x33 l p=if outOk l i then x08 l (nOut l i (x04 l i).toNat) else 6:=by unfold x33;rw[if_neg (by omega),hs];rfl
    rw[hS,hE]
    by_cases ha:0<=x04 l i
    ·obtain⟨j,y,hj,hy,hy1,hji⟩:=x20 (l:=l) (p:=(i:Int)) (by omega)
     rw[hj] at hI
     have hd:decide (0<=(j:Int))=true:=by simp
     rw[hd] at hI
     rw[hj]
     by_cases hq:0<=x04 l (j:Int)
     ·obtain⟨q,z,hqe,hz,hz1,hqj⟩:=x20 (l:=l) (p:=(j:Int)) (by omega)
      have hA2:=hA (j:Int)
      rw[hqe] at hA2
      have hz6:tyAt l (q:Int)=z.t:=by simp[tyAt,hz]
      by_cases hok:outOk l i
      ·obtain⟨_,_,a2,a3,a4⟩:=hok
       have hok:outOk l i:=⟨ha,by rw[hj];exact hq,a2,a3,a4⟩
       rw[hj,hqe] at a2 a4
       rw[hj,Int.toNat_natCast] at a3
       rw[Int.toNat_natCast] at a4
       rw[if_pos hok,Int.toNat_natCast]
       have hen:0<=partL l i+1/\partL l i+1<=3000:=by omega
       have g1:=hO j y hy hy1
       rw[a3] at g1
       have g2:=hO q z hz hz1
       rw[a4,show partL l i+2=partL l i+1+1 by omega] at g2
       have jl:=(List.getElem?_eq_some_iff.1 hy).1
       by_cases hx:i=j+1
       ·have hn:nOut l i j=arnd j (partL l i+1+2) i (partL l i+1) 1 [shutT]:=by
         unfold nOut;rw[if_pos hx,show partL l i+3=partL l i+1+2 by omega]
        rw[hn]
        exact Outdent_a (pl:=0) (po:=0) hr hb hen hil hP hI hA2 g1 g2 jl hz (by omega) hx (fun W T ct hW hrow=>ntell_doc (h.pure hW) hne (Rp.x01 hr hW) hlc (by omega) (by simp) hrow (by simp))
       ·have hn:nOut l i j=arnd i (partL l i+1+2) i (partL l i+1) 2 [shutT,shutT]:=by
         unfold nOut;rw[if_neg hx,show partL l i+3=partL l i+1+2 by omega]
        rw[hn]
        exact Outdent_b (pl:=0) (po:=0) hr hb hen hil hP hI hA2 g1 g2 jl hz (by omega) hx (fun W T ct hW hrow=>ntell_doc (h.pure hW) hne (Rp.x01 hr hW) hlc (by omega) (by simp) hrow (by simp))
      ·rw[if_neg hok]
       refine x5r hr hb ⟨by omega,by omega⟩ hP hI (fun _ _=>hA2) (fun _ _ _=>hO j y hy hy1) (fun _ _ _=>hO q z hz hz1) (.inr (.inr (.inr ⟨rfl,rfl,rfl,q,z,rfl,hz,?_⟩)))
       unfold outOk at hok
       rw[hj,hqe,hz6,Int.toNat_natCast,Int.toNat_natCast] at hok
       omega
     ·have hok:¬ outOk l i:=by
       intro hok
       have:=hok.2.1
       rw[hj] at this
       exact hq this
      rw[if_neg hok]
      exact x5r (pl:=0) (po:=0) hr hb ⟨by omega,by omega⟩ hP hI (fun _ _=>hA j) (fun _ _ h=>absurd h hq) (fun _ _ h=>absurd h hq) (.inr (.inr (.inl ⟨rfl,rfl,rfl,by omega⟩)))
    ·have hok:¬ outOk l i:=fun hok=>ha hok.1
     have hd:decide (0<=x04 l (i:Int))=false:=by simpa using ha
     rw[hd] at hI
     rw[if_neg hok]
     exact x5r (out:=0) (pl:=0) (po:=0) hr hb ⟨by omega,by omega⟩ hP hI (by simp) (by simp) (by simp) (.inr (.inl ⟨rfl,rfl,rfl⟩))
 ·have he:x33 l p=x0e l p p:=by unfold x33;rw[if_pos hp]
  rw[he]
  exact x5r (out:=0) (pl:=0) (po:=0) (en:=(itemV l p).2.1) hr hb (by
   unfold itemV
   cases x28 l p with
   | nil=>simp
   | cons x r=>have:=x3i (l:=l) (i:=x.toNat) hb;simp only;omega) hP hI (fun h=>absurd h hp) (fun h=>absurd h hp) (fun h=>absurd h hp) (.inl ⟨hp,rfl⟩)
theorem Indent_calls {l:List Tok} {p:Int} (h:SchR w cb x02 x07) (hr:tokR.row w F A l) (hlc:l.length<=c) (hb:l.length<=2048) :
 Calls Tryz.prog 51 #[.pointer (some ⟨cb,0,none⟩),.slice A l.length c,.int .i64 p] w (NTold (indSt l p) (x30 l p) w):=by
 have hP:=fun W (hu:Pure w W)=>nat_calls (c:=c) (p:=p) (h.pure hu) (Rp.x01 hr hu) (by omega)
 have hI:=fun W (hu:Pure w W)=>item_calls (cb:=cb) (c:=c) (p:=p) (Rp.x01 hr hu) hb hlc
 by_cases hp:x0e l p p=0
 ·obtain⟨hl,p0,_,p1⟩:=x16.1 hp
  have hne:=x3b hl
  rw[hp] at hP
  cases hs:x28 l p with
  | nil=>
    have he:x30 l p=6:=by unfold x30;rw[if_neg (by omega),hs]
    rw[he]
    have hv:itemV l p=(0,0,0,false):=by unfold itemV;rw[hs]
    rw[hv] at hI
    simp only at hI
    exact Indent_no (x:=0) (x1:=0) hr hb hP hI (.inr (.inl ⟨rfl,rfl,rfl⟩))
  | cons x r=>
    obtain⟨n,rfl⟩:=Int.eq_ofNat_of_zero_le p0
    obtain⟨i,j,o,y,s,M,m,rfl,hxn,hi,ho1,ho6,htk,hM,hnm,e1,e2,e3,e4,e5⟩:=item_lay hl (by omega) hs
    have hil:=(List.getElem?_eq_some_iff.1 hi).1
    have hjl:=(List.getElem?_eq_some_iff.1 e3).1
    have hv:itemV l n=((i:Int),partL l i+1,(j:Int),true):=by unfold itemV;rw[hs];simp only;rw[e2];simp
    rw[hv] at hI
    simp only at hI
    have hbd:=x3i (i:=i) hb
    have hS:indSt l n=nInd l i j:=by unfold indSt;rw[hs];simp only;rw[e2];rfl
    have hE:x30 l n=if l[i - 1]?=some shutT then x08 l (nInd l i j) else 6:=by unfold x30;rw[if_neg (by omega),hs];simp only;rw[e2];rfl
    rw[hS,hE]
    obtain⟨i1,rfl⟩:∃ i1,i=i1+1:=⟨i - 1,by
     rcases Nat.eq_zero_or_pos i with h0 | h0
     ·subst h0;simp[stkGo] at e1
     ·omega⟩
    rw[show i1+1 - 1=i1 by omega]
    obtain⟨y1,hy1⟩:∃ y1,l[i1]?=some y1:=⟨_,List.getElem?_eq_getElem (by omega)⟩
    have hrt:=house_rights hl
    by_cases hsh:l[i1]?=some shutT
    ·rw[if_pos hsh]
     by_cases hA:indA l (i1+1) j
     ·obtain⟨i2,rfl⟩:∃ i2,i1=i2+1:=⟨i1 - 1,by have:=hA.1;omega⟩
      have hA':=hA
      obtain⟨ha1,ha2,ha3⟩:=hA'
      rw[show i2+1+1 - 2=i2 by omega] at ha2 ha3
      obtain⟨q,z,hq,hz,hz1,hqi⟩:=x20 (l:=l) (p:=(i2:Int)) (by
       intro e
       -- something is open there: two more ends follow
       have hd:=house_dpt hl
       rw[x45 (by omega)] at e
       have hst:=x4o ha2
       have hst2:=x4o hsh
       unfold x1b at hst hst2
       rw[if_neg (by decide),if_pos rfl] at hst hst2
       rw[e1,hst] at hst2
       cases hc:(stkGo 0 (l.take i2) []) with
       | nil=>rw[hc] at hst2;simp at hst2
       | cons a b=>
         rw[hc] at e
         have hne:a :: b ≠ []:=by simp
         rw[List.getLast?_eq_some_getLast hne] at e
         simp only[Option.getD_some] at e
         have hm:=List.getLast_mem hne
         generalize (a :: b).getLast hne=g at hm e
         rw[<- hc] at hm
         rcases stkGo_mem (l.take i2) 0 [] _ hm with h9 | ⟨j9,x9,h9,_⟩
         ·cases h9
         ·omega)
      rw[hq,Int.toNat_natCast,hz,e3] at ha3
      simp only[Option.some.injEq] at ha3
      subst ha3
      have hn:nInd l (i2+1+1) j=arnd ((i2:Int)) (partL l (i2+1+1)+1) ((i2+2:Nat):Int) (partL l (i2+1+1)+1) 0 [shutT,shutT]:=by
       unfold nInd
       rw[if_pos hA,show (((i2+1+1:Nat):Int) - 2)=(i2:Int) by omega]
      rw[hn]
      have hPt:=fun W (hu:Pure w W)=>Partner_shut (c:=c) (Rp.x01 hr hu) (by omega) hlc ha2 rfl
      rw[hq] at hPt
      exact Indent_a hr hb hP hI hPt e3 e4 hsh ha2 hz (fun W T ct hW hrow=>ntell_doc (h.pure hW) hne (Rp.x01 hr hW) hlc (by omega) (by simp) hrow (by simp))
     ·have hn:nInd l (i1+1) j=arnd ((i1:Nat):Int) (partL l (i1+1)+1) ((i1+1:Nat):Int) (partL l (i1+1)+1) 1 [y,shutT,shutT]:=by
       unfold nInd
       rw[if_neg hA,e3,show (((i1+1:Nat):Int) - 1)=(i1:Int) by omega]
       rfl
      rw[hn]
      refine Indent_b hr hb hP hI e3 e4 hsh ?_ (fun W T ct hW hrow=>ntell_doc (h.pure hW) hne (Rp.x01 hr hW) hlc (by omega) (by simp) hrow (by simp))
      rcases Nat.eq_zero_or_pos i1 with h0 | h0
      ·exact .inl h0
      ·obtain⟨i2,rfl⟩:∃ i2,i1=i2+1:=⟨i1 - 1,by omega⟩
       obtain⟨y2,hy2⟩:∃ y2,l[i2]?=some y2:=⟨_,List.getElem?_eq_getElem (by omega)⟩
       refine .inr ⟨i2,y2,rfl,hy2,?_⟩
       by_cases hk2:y2.k=2
       ·right
        have hsh2:=right_shut (hrt y2 (List.mem_of_getElem? hy2)) hk2
        subst hsh2
        have hst:=x4o hy2
        have hst2:=x4o hsh
        unfold x1b at hst hst2
        rw[if_neg (by decide),if_pos rfl] at hst hst2
        rw[e1,hst] at hst2
        obtain⟨u,a,hua⟩:∃ u a,stkGo 0 (l.take i2) []=u ++ [a]:=by
         have hn0:stkGo 0 (l.take i2) [] ≠ []:=by intro e;rw[e] at hst2;simp at hst2
         exact⟨_,_,(List.dropLast_concat_getLast hn0).symm⟩
        obtain⟨q,z,B,rfl,hqi,hz,hz1,_,_,_⟩:=x5t (house_dpt hl) i2 (by omega) u a hua
        have hq:x04 l (i2:Int)=(q:Int):=by rw[x45 (by omega),hua];simp
        have hPt:=fun W (hu:Pure w W)=>Partner_shut (c:=c) (Rp.x01 hr hu) (by omega) hlc hy2 rfl
        rw[hq] at hPt
        refine⟨rfl,q,z,hz,hz1,hPt,?_⟩
        have hzy:z ≠ y:=by
         intro e
         refine hA ⟨by omega,?_,?_⟩
         ·rw[show i2+1+1 - 2=i2 by omega];exact hy2
         ·rw[show i2+1+1 - 2=i2 by omega,hq,Int.toNat_natCast,hz,e3,e]
        have r1:=right_open (hrt z (List.mem_of_getElem? hz)) hz1
        have r2:=right_open (hrt y (List.mem_of_getElem? e3)) e4
        by_cases ht:z.t=y.t
        ·right
         refine⟨ht,fun hn=>hzy ?_⟩
         rw[r1,r2,ht,hn]
        ·exact .inl ht
       ·exact .inl hk2
    ·rw[if_neg hsh]
     refine Indent_no (x1:=i1) hr hb hP hI (.inr (.inr ⟨rfl,rfl,rfl,rfl,y1,hy1,fun hk=>hsh ?_⟩))
     rw[hy1,right_shut (hrt y1 (List.mem_of_getElem? hy1)) hk]
 ·have he:x30 l p=x0e l p p:=by unfold x30;rw[if_pos hp]
  rw[he]
  by_cases hv:0<=(itemV l p).1
  ·obtain⟨n,hn⟩:=Int.eq_ofNat_of_zero_le hv
   rw[hn] at hI
   exact Indent_no (x1:=0) hr hb hP hI (.inl ⟨hp,rfl⟩)
  ·exfalso
   apply hv
   unfold itemV
   cases hs:x28 l p with
   | nil=>simp
   | cons x r=>
     obtain⟨i,o,rfl,_⟩:=items_open (l:=l) (l.length+1) p x (by
      have:x28 l p=x2f l (l.length+1) (x04 l p):=rfl
      rw[<- this,hs];simp)
     simp only
     omega
theorem x68 {l sl:List Tok} {a b g h' ins:Int} (h:H6 w cb) (hne:l ≠ []) (hr:tokR.row w F A l) (hlc:l.length<=c) (hb:l.length<=2048) (hsl:sl ≠ []) (hs4:sl.length<=4) :
 ∀ W T,Pure w W->tokR.row W (fun _=>True) T sl->Calls Tryz.prog 112 #[.pointer (some ⟨cb,0,none⟩),.slice A l.length c,(arnd a b g h' ins sl).val T sl.length] W (Told (toldS (arnd a b g h' ins sl) (x08 l (arnd a b g h' ins sl))) (toldB T (x08 l (arnd a b g h' ins sl))) (toldC sl.length (x08 l (arnd a b g h' ins sl))) (x08 l (arnd a b g h' ins sl)) W):=
 fun W T hW hrow=>told27_doc (h.pure hW) (Rp.x01 hr hW) (by omega) (dn_arnd hne (Rp.x01 hr hW) hlc hrow (Nat.le_refl _) (by omega) (fun h=>absurd h hsl))
theorem tolds_zero {s:StepD} {sl:List Tok} {e:Int} (hs:s.sl=sl):(e=0->(toldS s e).sl=sl)/\(e ≠ 0->(toldS s e).sl=[]):=
 ⟨fun h=>by rw[h,toldS_zero,hs],fun h=>by rw[x0g h];rfl⟩
theorem Outdent27_calls {l:List Tok} {p:Int} (h:H6 w cb) (hr:tokR.row w F A l) (hlc:l.length<=c) (hb:l.length<=2048) (hne:l ≠ []) :
 Calls Tryz.prog 54 #[.pointer (some ⟨cb,0,none⟩),.slice A l.length c,.int .i64 p] w (x3w (outSt l p) (x33 l p) w):=by
 obtain⟨bA,oA,rfl⟩:=x35 hr hne
 have hP:=fun W (hu:Pure w W)=>x67 (c:=c) (p:=p) (h.pure hu) (Rp.x01 hr hu) (by omega) hlc
 have hI:=fun W (hu:Pure w W)=>item27_calls (c:=c) (p:=p) (Rp.x01 hr hu) (by omega) hlc
 have hA:=fun (q:Int) W (hu:Pure w W)=>x25 (c:=c) (at':=q) (Rp.x01 hr hu) (by omega) hlc
 have hO:=fun (q:Nat) (y:Tok) (hy:l[q]?=some y) (h1:y.k=1) W (hu:Pure w W)=>x5c (c:=c) (Rp.x01 hr hu) (by omega) hlc hy h1
 by_cases hp:x0e l p p=0
 ·obtain⟨hl,p0,_,p1⟩:=x16.1 hp
  rw[hp] at hP
  cases hs:x28 l p with
  | nil=>
    have he:x33 l p=6:=by unfold x33;rw[if_neg (by omega),hs]
    rw[he]
    rw[hd6_nil hs] at hI
    exact(x5q hr hb hP hI hA (.inr ⟨rfl,rfl,.inl rfl⟩)).mono (fun r w' h=>x3w.no (by decide) h)
  | cons x r=>
    obtain⟨n,rfl⟩:=Int.eq_ofNat_of_zero_le p0
    obtain⟨i,j,o,y,s,M,m,rfl,hxn,hi,ho1,ho6,htk,hM,hnm,e1,e2,e3,e4,e5⟩:=item_lay hl (by omega) hs
    have hil:=(List.getElem?_eq_some_iff.1 hi).1
    have hjl:=(List.getElem?_eq_some_iff.1 e3).1
    rw[hd6_cons hs] at hI
    have hbd:=x3i (i:=i) hb
    have hS:outSt l n=nOut l i j:=by unfold outSt;rw[hs];simp only;rw[e2];rfl
    have hE:x33 l n=if outOk l i then x08 l (nOut l i j) else 6:=by unfold x33;rw[if_neg (by omega),hs];simp only;rw[e2];rfl
    rw[hS,hE]
    have hA1:=hA (i:Int)
    rw[e2] at hA1
    by_cases hq:0<=x04 l (j:Int)
    ·obtain⟨q,z,hqe,hz,hz1,hqj⟩:=x20 (l:=l) (p:=(j:Int)) (by omega)
     have hA2:=hA (j:Int)
     rw[hqe] at hA2
     have hz6:tyAt l (q:Int)=z.t:=by simp[tyAt,hz]
     by_cases hok:outOk l i
     ·rw[if_pos hok]
      obtain⟨_,_,a2,a3,a4⟩:=hok
      rw[e2,hqe] at a2 a4
      rw[e2,Int.toNat_natCast] at a3
      rw[Int.toNat_natCast] at a4
      have g0:=hO i o hi ho1
      have g1:=hO j y e3 e4
      rw[a3] at g1
      have g2:=hO q z hz hz1
      rw[a4,show partL l i+2=partL l i+1+1 by omega] at g2
      by_cases hx:i=j+1
      ·have hn:nOut l i j=arnd j (partL l i+3) i (partL l i+1) 1 [shutT]:=by
        unfold nOut;rw[if_pos hx]
       rw[hn]
       obtain⟨t1,t2⟩:=tolds_zero (s:=arnd j (partL l i+3) i (partL l i+1) 1 [shutT]) (e:=x08 l (arnd j (partL l i+3) i (partL l i+1) 1 [shutT])) rfl
       exact Outdent27_a hr hb hP hI hA1 hA2 g0 g1 g2 hbd hil hjl hz (by omega) hx (x68 h hne hr hlc hb (by simp) (by simp)) t1 t2
      ·have hn:nOut l i j=arnd i (partL l i+3) i (partL l i+1) 2 [shutT,shutT]:=by
        unfold nOut;rw[if_neg hx]
       rw[hn]
       obtain⟨t1,t2⟩:=tolds_zero (s:=arnd i (partL l i+3) i (partL l i+1) 2 [shutT,shutT]) (e:=x08 l (arnd i (partL l i+3) i (partL l i+1) 2 [shutT,shutT])) rfl
       exact Outdent27_b hr hb hP hI hA1 hA2 g0 g1 g2 hbd hil hjl hz (by omega) hx (x68 h hne hr hlc hb (by simp) (by simp)) t1 t2
     ·rw[if_neg hok]
      refine(x5q hr hb hP hI hA (.inr ⟨rfl,rfl,.inr ⟨i,j,rfl,e2,.inr ⟨q,z,hqe,hz,?_⟩⟩⟩)).mono (fun r w' h=>x3w.no (by decide) h)
      by_cases hz9:z.t=6
      ·refine .inr ⟨hz9,partL l i,partL l j,partL l q,hbd.1,hbd.2,hO i o hi ho1,hO j y e3 e4,hO q z hz hz1,?_⟩
       unfold outOk at hok
       rw[e2,hqe,hz6,Int.toNat_natCast,Int.toNat_natCast] at hok
       omega
      ·exact .inl hz9
    ·have hok:¬ outOk l i:=by
      intro hok
      have:=hok.2.1
      rw[e2] at this
      exact hq this
     rw[if_neg hok]
     exact(x5q hr hb hP hI hA (.inr ⟨rfl,rfl,.inr ⟨i,j,rfl,e2,.inl (by omega)⟩⟩)).mono (fun r w' h=>x3w.no (by decide) h)
 ·have he:x33 l p=x0e l p p:=by unfold x33;rw[if_pos hp]
  rw[he]
  exact(x5q hr hb hP hI hA (.inl ⟨hp,rfl⟩)).mono (fun r w' h=>x3w.no hp h)
theorem Indent27_calls {l:List Tok} {p:Int} (h:H6 w cb) (hr:tokR.row w F A l) (hlc:l.length<=c) (hb:l.length<=2048) (hne:l ≠ []) :
 Calls Tryz.prog 52 #[.pointer (some ⟨cb,0,none⟩),.slice A l.length c,.int .i64 p] w (x3w (indSt l p) (x30 l p) w):=by
 obtain⟨bA,oA,rfl⟩:=x35 hr hne
 have hP:=fun W (hu:Pure w W)=>x67 (c:=c) (p:=p) (h.pure hu) (Rp.x01 hr hu) (by omega) hlc
 have hI:=fun W (hu:Pure w W)=>item27_calls (c:=c) (p:=p) (Rp.x01 hr hu) (by omega) hlc
 have hA:=fun (q:Int) W (hu:Pure w W)=>x25 (c:=c) (at':=q) (Rp.x01 hr hu) (by omega) hlc
 have hO:=fun (q:Nat) (y:Tok) (hy:l[q]?=some y) (h1:y.k=1) W (hu:Pure w W)=>x5c (c:=c) (Rp.x01 hr hu) (by omega) hlc hy h1
 by_cases hp:x0e l p p=0
 ·obtain⟨hl,p0,_,p1⟩:=x16.1 hp
  rw[hp] at hP
  cases hs:x28 l p with
  | nil=>
    have he:x30 l p=6:=by unfold x30;rw[if_neg (by omega),hs]
    rw[he]
    rw[hd6_nil hs] at hI
    exact(Indent27_no (x1:=0) hr hb hP hI (.inr (.inl ⟨rfl,rfl,rfl⟩))).mono (fun r w' h=>x3w.no (by decide) h)
  | cons x r=>
    obtain⟨n,rfl⟩:=Int.eq_ofNat_of_zero_le p0
    obtain⟨i,j,o,y,s,M,m,rfl,hxn,hi,ho1,ho6,htk,hM,hnm,e1,e2,e3,e4,e5⟩:=item_lay hl (by omega) hs
    have hil:=(List.getElem?_eq_some_iff.1 hi).1
    have hjl:=(List.getElem?_eq_some_iff.1 e3).1
    rw[hd6_cons hs] at hI
    have hbd:=x3i (i:=i) hb
    have hS:indSt l n=nInd l i j:=by unfold indSt;rw[hs];simp only;rw[e2];rfl
    have hE:x30 l n=if l[i - 1]?=some shutT then x08 l (nInd l i j) else 6:=by unfold x30;rw[if_neg (by omega),hs];simp only;rw[e2];rfl
    rw[hS,hE]
    have hA1:=hA (i:Int)
    rw[e2] at hA1
    have g0:=hO i o hi ho1
    obtain⟨i1,rfl⟩:∃ i1,i=i1+1:=⟨i - 1,by
     rcases Nat.eq_zero_or_pos i with h0 | h0
     ·subst h0;simp[stkGo] at e1
     ·omega⟩
    rw[show i1+1 - 1=i1 by omega]
    obtain⟨y1,hy1⟩:∃ y1,l[i1]?=some y1:=⟨_,List.getElem?_eq_getElem (by omega)⟩
    have hrt:=house_rights hl
    by_cases hsh:l[i1]?=some shutT
    ·rw[if_pos hsh]
     by_cases hA':indA l (i1+1) j
     ·obtain⟨i2,rfl⟩:∃ i2,i1=i2+1:=⟨i1 - 1,by have:=hA'.1;omega⟩
      have hA9:=hA'
      obtain⟨ha1,ha2,ha3⟩:=hA9
      rw[show i2+1+1 - 2=i2 by omega] at ha2 ha3
      obtain⟨q,z,hq,hz,hz1,hqi⟩:=x20 (l:=l) (p:=(i2:Int)) (by
       intro e
       rw[x45 (by omega)] at e
       have hst:=x4o ha2
       have hst2:=x4o hsh
       unfold x1b at hst hst2
       rw[if_neg (by decide),if_pos rfl] at hst hst2
       rw[e1,hst] at hst2
       cases hc:(stkGo 0 (l.take i2) []) with
       | nil=>rw[hc] at hst2;simp at hst2
       | cons a b=>
         rw[hc] at e
         have hne:a :: b ≠ []:=by simp
         rw[List.getLast?_eq_some_getLast hne] at e
         simp only[Option.getD_some] at e
         have hm:=List.getLast_mem hne
         generalize (a :: b).getLast hne=g at hm e
         rw[<- hc] at hm
         rcases stkGo_mem (l.take i2) 0 [] _ hm with h9 | ⟨j9,x9,h9,_⟩
         ·cases h9
         ·omega)
      rw[hq,Int.toNat_natCast,hz,e3] at ha3
      simp only[Option.some.injEq] at ha3
      subst ha3
      have hn:nInd l (i2+1+1) j=arnd ((i2:Int)) (partL l (i2+1+1)+1) ((i2+2:Nat):Int) (partL l (i2+1+1)+1) 0 [shutT,shutT]:=by
       unfold nInd
       rw[if_pos hA',show (((i2+1+1:Nat):Int) - 2)=(i2:Int) by omega]
      rw[hn]
      have hPt:=fun W (hu:Pure w W)=>Partner4_shut (c:=c) (Rp.x01 hr hu) (by omega) hlc ha2 rfl
      rw[hq] at hPt
      obtain⟨t1,t2⟩:=tolds_zero (s:=arnd ((i2:Int)) (partL l (i2+1+1)+1) ((i2+2:Nat):Int) (partL l (i2+1+1)+1) 0 [shutT,shutT]) (e:=x08 l (arnd ((i2:Int)) (partL l (i2+1+1)+1) ((i2+2:Nat):Int) (partL l (i2+1+1)+1) 0 [shutT,shutT])) rfl
      exact Indent27_a hr hb hP hI hA1 g0 hPt hbd e3 hsh ha2 hz (x68 h hne hr hlc hb (by simp) (by simp)) t1 t2
     ·have hn:nInd l (i1+1) j=arnd ((i1:Nat):Int) (partL l (i1+1)+1) ((i1+1:Nat):Int) (partL l (i1+1)+1) 1 [y,shutT,shutT]:=by
       unfold nInd
       rw[if_neg hA',e3,show (((i1+1:Nat):Int) - 1)=(i1:Int) by omega]
       rfl
      rw[hn]
      obtain⟨t1,t2⟩:=tolds_zero (s:=arnd ((i1:Nat):Int) (partL l (i1+1)+1) ((i1+1:Nat):Int) (partL l (i1+1)+1) 1 [y,shutT,shutT]) (e:=x08 l (arnd ((i1:Nat):Int) (partL l (i1+1)+1) ((i1+1:Nat):Int) (partL l (i1+1)+1) 1 [y,shutT,shutT])) rfl
      refine Indent27_b hr hb hP hI hA1 g0 hbd e3 e4 hsh ?_ (x68 h hne hr hlc hb (by simp) (by simp)) t1 t2
      rcases Nat.eq_zero_or_pos i1 with h0 | h0
      ·exact .inl h0
      ·obtain⟨i2,rfl⟩:∃ i2,i1=i2+1:=⟨i1 - 1,by omega⟩
       obtain⟨y2,hy2⟩:∃ y2,l[i2]?=some y2:=⟨_,List.getElem?_eq_getElem (by omega)⟩
       refine .inr ⟨i2,y2,rfl,hy2,?_⟩
       by_cases hk2:y2.k=2
       ·right
        have hst:=x4o hy2
        have hst2:=x4o hsh
        unfold x1b at hst hst2
        rw[if_neg (by omega),if_pos hk2] at hst
        rw[if_neg (by decide),if_pos rfl] at hst2
        rw[e1,hst] at hst2
        obtain⟨u,a,hua⟩:∃ u a,stkGo 0 (l.take i2) []=u ++ [a]:=by
         have hn0:stkGo 0 (l.take i2) [] ≠ []:=by intro e;rw[e] at hst2;simp at hst2
         exact⟨_,_,(List.dropLast_concat_getLast hn0).symm⟩
        obtain⟨q,z,B,rfl,hqi,hz,hz1,_,_,_⟩:=x5t (house_dpt hl) i2 (by omega) u a hua
        have hq:x04 l (i2:Int)=(q:Int):=by rw[x45 (by omega),hua];simp
        have hPt:=fun W (hu:Pure w W)=>Partner4_shut (c:=c) (Rp.x01 hr hu) (by omega) hlc hy2 hk2
        rw[hq] at hPt
        refine⟨hk2,q,z,hz,hz1,hPt,?_⟩
        have hzy:z ≠ y:=by
         intro e
         refine hA' ⟨by omega,?_,?_⟩
         ·rw[show i2+1+1 - 2=i2 by omega,hy2,right_shut (hrt y2 (List.mem_of_getElem? hy2)) hk2]
         ·rw[show i2+1+1 - 2=i2 by omega,hq,Int.toNat_natCast,hz,e3,e]
        have r1:=right_open (hrt z (List.mem_of_getElem? hz)) hz1
        have r2:=right_open (hrt y (List.mem_of_getElem? e3)) e4
        by_cases ht:z.t=y.t
        ·right
         refine⟨ht,fun hn=>hzy ?_⟩
         rw[r1,r2,ht,hn]
        ·exact .inl ht
       ·exact .inl hk2
    ·rw[if_neg hsh]
     refine(Indent27_no (x1:=i1) hr hb hP hI (.inr (.inr ⟨rfl,rfl,rfl,y1,hy1,fun hk=>hsh ?_⟩))).mono (fun r w' h=>x3w.no (by decide) h)
     rw[hy1,right_shut (hrt y1 (List.mem_of_getElem? hy1)) hk]
 ·have he:x30 l p=x0e l p p:=by unfold x30;rw[if_pos hp]
  rw[he]
  exact(Indent27_no (x1:=0) hr hb hP hI (.inl ⟨hp,rfl⟩)).mono (fun r w' h=>x3w.no hp h)
theorem twin27_same {c':Nat} {s:StepD} (ha:tokR.row w F A s.sl) (hb:tokR.row w G B s.sl) (hl:s.sl.length<=1048576 * 4) :
 Calls Tryz.prog 55 #[s.val A c,s.val B c'] w fun r w'=>r=.returned (.bool true)/\Pure w w':=by
 have HAL:=mK (fun W (hu:Pure w W)=>Alike27_same (c:=c) (c':=c') (Rp.x01 ha hu) (Rp.x01 hb hu) hl)
 clear ha hb
 unfold StepD.val at *
 go_enter Tryz.func55,Tryz.ntmps55
 go_wp2_with (go_at_call 113;refine(HAL.o _ (aU.alloc _)).mono ?_;rintro r w1 ⟨rfl,hu⟩;have HU1:=mK ((aP.alloc _).tt hu);clear hu)
 go_ret
 exact⟨rfl,HU1.o⟩
theorem Indent27_pe {n:Nat} {p e:Int} (hp:∀ W,Pure w W->Calls Tryz.prog 110 #[.pointer (some ⟨cb,0,none⟩),.slice A n c,.int .i64 p] W (fun r w'=>r=.returned (.int .i64 e)/\Pure W w')) (he:e ≠ 0) :
 Calls Tryz.prog 52 #[.pointer (some ⟨cb,0,none⟩),.slice A n c,.int .i64 p] w (fun r w'=>r=.returned (.tuple #[step0,.int .i64 e])/\Pure w w'):=by
 have HP:=mK hp
 have f0:(e != 0)=true:=by simpa using he
 clear hp he
 go_enter Tryz.func52,Tryz.ntmps52
 go_wp2_with (go_at_call 110;refine(HP.o _ aU).mono ?_;rintro r w1 ⟨rfl,hu⟩;obtain⟨hb1,hu1⟩:=x0i hu;have HB1:=mK hb1;have HU1:=mK hu1;clear hu hb1 hu1;apply As.o)
 refine⟨?_⟩
 have hbl:w.heap.size < w1.heap.size:=lt_of_block HB1.o
 have hcf:=fZ HB1.o
 obtain⟨k0,k1,k2,k3,k4,k5,k6,k7⟩:=x06 HB1.o
 go_wp2
 exact bodyPost_ret (step_end (rb:=w.heap.size) rfl _ rfl (set8 (rb:=w.heap.size) HB1.o _ _ _ _ _ _ _ _)) rfl ⟨rfl,x05 HU1.o (Nat.le_refl _) _ _ _ _ _ _ _ _⟩
theorem Indent27_any {l:List Tok} {p:Int} (h:H6 w cb) (hr:tokR.row w F A l) (hlc:l.length<=c) (hb:l.length<=2048) :
 Calls Tryz.prog 52 #[.pointer (some ⟨cb,0,none⟩),.slice A l.length c,.int .i64 p] w (x3w (indSt l p) (x30 l p) w):=by
 by_cases hp:x0e l p p=0
 ·exact Indent27_calls h hr hlc hb (x3b (x16.1 hp).1)
 ·have he:x30 l p=x0e l p p:=by unfold x30;rw[if_pos hp]
  rw[he]
  exact(Indent27_pe (fun W hW=>x67 (h.pure hW) (Rp.x01 hr hW) (by omega) hlc) hp).mono (fun r w' h=>x3w.no hp h)
theorem Outdent27_pe {n:Nat} {p e:Int} (hp:∀ W,Pure w W->Calls Tryz.prog 110 #[.pointer (some ⟨cb,0,none⟩),.slice A n c,.int .i64 p] W (fun r w'=>r=.returned (.int .i64 e)/\Pure W w')) (he:e ≠ 0) :
 Calls Tryz.prog 54 #[.pointer (some ⟨cb,0,none⟩),.slice A n c,.int .i64 p] w (fun r w'=>r=.returned (.tuple #[step0,.int .i64 e])/\Pure w w'):=by
 have HP:=mK hp
 have f0:(e != 0)=true:=by simpa using he
 clear hp he
 go_enter Tryz.func54,Tryz.ntmps54
 go_wp2_with (go_at_call 110;refine(HP.o _ aU).mono ?_;rintro r w1 ⟨rfl,hu⟩;obtain⟨hb1,hu1⟩:=x0i hu;have HB1:=mK hb1;have HU1:=mK hu1;clear hu hb1 hu1;apply As.o)
 refine⟨?_⟩
 have hbl:w.heap.size < w1.heap.size:=lt_of_block HB1.o
 have hcf:=fZ HB1.o
 obtain⟨k0,k1,k2,k3,k4,k5,k6,k7⟩:=x06 HB1.o
 go_wp2
 exact bodyPost_ret (step_end (rb:=w.heap.size) rfl _ rfl (set8 (rb:=w.heap.size) HB1.o _ _ _ _ _ _ _ _)) rfl ⟨rfl,x05 HU1.o (Nat.le_refl _) _ _ _ _ _ _ _ _⟩
theorem Outdent27_any {l:List Tok} {p:Int} (h:H6 w cb) (hr:tokR.row w F A l) (hlc:l.length<=c) (hb:l.length<=2048) :
 Calls Tryz.prog 54 #[.pointer (some ⟨cb,0,none⟩),.slice A l.length c,.int .i64 p] w (x3w (outSt l p) (x33 l p) w):=by
 by_cases hp:x0e l p p=0
 ·exact Outdent27_calls h hr hlc hb (x3b (x16.1 hp).1)
 ·have he:x33 l p=x0e l p p:=by unfold x33;rw[if_pos hp]
  rw[he]
  exact(Outdent27_pe (fun W hW=>x67 (h.pure hW) (Rp.x01 hr hW) (by omega) hlc) hp).mono (fun r w' h=>x3w.no hp h)
theorem ind_len (l:List Tok) (p:Int):(indSt l p).sl.length<=3:=by
 unfold indSt
 split
 ·simp[repl]
 ·unfold nInd
  split <;> simp[arnd]
theorem out_len (l:List Tok) (p:Int):(outSt l p).sl.length<=3:=by
 unfold outSt
 split
 ·simp[repl]
 ·unfold nOut
  split <;> simp[arnd]
theorem told_len3 {s:StepD} {e:Int} (h:s.sl.length<=3):(toldS s e).sl.length<=3:=by
 unfold toldS
 split
 ·exact h
 ·simp[repl]
theorem NItems_long {m:Nat} {p:Int} (h1:200 < m):Calls Tryz.prog 9 #[.slice A m c,.int .i64 p] w fun r w'=>r=.returned (.bool true)/\Pure w w':=by
 have b1:decide ((200:Int) < (m:Int))=true:=decide_eq_true (by omega)
 have b2:decide (200 < m)=true:=decide_eq_true h1
 clear h1
 go_enter Tryz.func9,Tryz.ntmps9
 go_wp2_with (go_at_call 50;refine(awake27_calls _).mono ?_;rintro r w9 ⟨rfl,hu9⟩;have HU9:=mK hu9;clear hu9)
 go_ret
 exact⟨rfl,HU9.o⟩
theorem NItems_main {m:Nat} {p:Int} {s1 s2:StepD} {e1 e2:Int} (hl:m<=200) (hs1:s1.sl.length<=3) (hs2:s2.sl.length<=3)
 (hi:∀ W,Pure w W->∀ q,SchR W q x02 x07->Calls Tryz.prog 51 #[.pointer (some ⟨q,0,none⟩),.slice A m c,.int .i64 p] W (fun r w'=>∃ B c',r=.returned (.tuple #[s1.val B c',.int .i64 e1])/\Pure W w'/\tokR.row w' (fun _=>True) B s1.sl))
 (hi6:∀ W,Pure w W->∀ q,H6 W q->Calls Tryz.prog 52 #[.pointer (some ⟨q,0,none⟩),.slice A m c,.int .i64 p] W (fun r w'=>∃ B c',r=.returned (.tuple #[s1.val B c',.int .i64 e1])/\Pure W w'/\tokR.row w' (fun _=>True) B s1.sl))
 (ho:∀ W,Pure w W->∀ q,SchR W q x02 x07->Calls Tryz.prog 53 #[.pointer (some ⟨q,0,none⟩),.slice A m c,.int .i64 p] W (fun r w'=>∃ B c',r=.returned (.tuple #[s2.val B c',.int .i64 e2])/\Pure W w'/\tokR.row w' (fun _=>True) B s2.sl))
 (ho6:∀ W,Pure w W->∀ q,H6 W q->Calls Tryz.prog 54 #[.pointer (some ⟨q,0,none⟩),.slice A m c,.int .i64 p] W (fun r w'=>∃ B c',r=.returned (.tuple #[s2.val B c',.int .i64 e2])/\Pure W w'/\tokR.row w' (fun _=>True) B s2.sl)) :
 Calls Tryz.prog 9 #[.slice A m c,.int .i64 p] w fun r w'=>r=.returned (.bool true)/\Pure w w':=by
 have HI:=mK hi
 have HI6:=mK hi6
 have HO:=mK ho
 have HO6:=mK ho6
 have HS1L:=mK hs1
 have HS2L:=mK hs2
 have t2:decide ((200:Int) < (m:Int))=false:=decide_eq_false (by omega)
 have t3:decide (200 < m)=false:=decide_eq_false (by omega)
 clear hi hi6 ho ho6 hs1 hs2 hl
 unfold StepD.val at *
 go_enter Tryz.func9,Tryz.ntmps9
 go_wp2_with (first | (go_at_call 14;refine(x5n w1).mono ?_;rintro r w2 ⟨cb6,rfl,hs,hu⟩;have HK2:=mK hs;have HS2:=mK (HS.o.pure hu);have HU2:=mK (HU1.o.tt hu);clear hu hs;apply As.o) | (go_at_call 13;refine(x4r w).mono ?_;rintro r w1 ⟨cb,rfl,hs,hu⟩;have HS:=mK hs;have HU1:=mK hu;clear hu hs))
 refine⟨?_⟩
 go_wp2_with (go_at_call 51;refine(HI.o _ HU2.o _ HS2.o).mono ?_;rintro r w3 ⟨Ba,cBa,rfl,hu,hrow⟩;have HP3:=mK hu;have HRBa:=mK hrow;clear hu hrow;apply As.o)
 refine⟨?_⟩
 have HU3:=mK (HU2.o.tt HP3.o)
 have HS3:=mK (HS2.o.pure HP3.o)
 have HK3:=mK (HK2.o.pure HP3.o)
 go_wp2_with (go_at_call 52;refine(HI6.o _ (HU3.o.alloc _) _ (HK3.o.pure aU)).mono ?_;rintro r w4 ⟨Bb,cBb,rfl,hu,hrow⟩;have HP4:=mK hu;have HRBb:=mK hrow;clear hu hrow;apply As.o)
 refine⟨?_⟩
 obtain⟨hb3,hp4⟩:=x0i HP4.o
 have HB3:=mK hb3
 have HU4:=mK (HU3.o.tt hp4)
 have HS4:=mK (HS3.o.pure hp4)
 have HK4:=mK (HK3.o.pure hp4)
 have HRa4:=mK (Rp.x01 HRBa.o hp4)
 clear hb3 hp4
 go_wp2_with (go_at_call 53;refine(HO.o _ (HU4.o.alloc _) _ (HS4.o.pure aU)).mono ?_;rintro r w5 ⟨Bc,cBc,rfl,hu,hrow⟩;have HP5:=mK hu;have HRBc:=mK hrow;clear hu hrow;apply As.o)
 refine⟨?_⟩
 obtain⟨hb4,hp5⟩:=x0i HP5.o
 have HB4:=mK hb4
 have HB35:=mK (kP hp5 HB3.o)
 have HU5:=mK (HU4.o.tt hp5)
 have HK5:=mK (HK4.o.pure hp5)
 have HRa5:=mK (Rp.x01 HRa4.o hp5)
 have HRb5:=mK (Rp.x01 HRBb.o hp5)
 clear hb4 hp5
 go_wp2_with (go_at_call 54;refine(HO6.o _ (HU5.o.alloc _) _ (HK5.o.pure aU)).mono ?_;rintro r w6 ⟨Bd,cBd,rfl,hu,hrow⟩;have HP6:=mK hu;have HRBd:=mK hrow;clear hu hrow;apply As.o)
 refine⟨?_⟩
 obtain⟨hb5,hp6⟩:=x0i HP6.o
 have HB5:=mK hb5
 have HB36:=mK (kP hp6 HB35.o)
 have HB46:=mK (kP hp6 HB4.o)
 have HU6:=mK (HU5.o.tt hp6)
 have HRa6:=mK (Rp.x01 HRa5.o hp6)
 have HRb6:=mK (Rp.x01 HRb5.o hp6)
 have HRc6:=mK (Rp.x01 HRBc.o hp6)
 clear hb5 hp6
 obtain⟨a0,a1,a2,a3,a4,a5,a6,a7⟩:=x06 HB36.o
 obtain⟨d0,d1,d2,d3,d4,d5,d6,d7⟩:=x06 HB46.o
 obtain⟨g0,g1,g2,g3,g4,g5,g6,g7⟩:=x06 HB5.o
 have l3:=lt_of_block HB36.o
 have l4:=lt_of_block HB46.o
 have l5:=lt_of_block HB5.o
 have HT1:=mK (fun W (h1:tokR.row W (fun _=>True) Ba s1.sl) (h2:tokR.row W (fun _=>True) Bb s1.sl)=>twin27_same (c:=cBa) (c':=cBb) h1 h2 (by have:=HS1L.o;omega))
 have HT2:=mK (fun W (h1:tokR.row W (fun _=>True) Bc s2.sl) (h2:tokR.row W (fun _=>True) Bd s2.sl)=>twin27_same (c:=cBc) (c':=cBd) h1 h2 (by have:=HS2L.o;omega))
 unfold StepD.val at HT1 HT2
 go_wp2_with (go_at_call 55;refine(HT1.o _ (Rp.x01 HRa6.o aU) (Rp.x01 HRb6.o aU)).mono ?_;rintro r w7 ⟨rfl,hu⟩;have HP7:=mK hu;clear hu;apply As.o)
 refine⟨?_⟩
 obtain⟨hb6,hp7⟩:=x0i HP7.o
 have HB67:=mK hb6
 have HB57:=mK (kP hp7 HB5.o)
 have HU7:=mK (HU6.o.tt hp7)
 have HRc7:=mK (Rp.x01 HRc6.o hp7)
 have HRd7:=mK (Rp.x01 HRBd.o hp7)
 clear hb6 hp7 a0 a1 a2 a3 a4 a5 a6 a7 d0 d1 d2 d3 d4 d5 d6 d7 g0 g1 g2 g3 g4 g5 g6 g7
 obtain⟨g0,g1,g2,g3,g4,g5,g6,g7⟩:=x06 HB57.o
 obtain⟨d0,d1,d2,d3,d4,d5,d6,d7⟩:=x06 HB67.o
 have l7:=lt_of_block HB57.o
 have l8:=lt_of_block HB67.o
 go_wp2_with (first | (go_at_call 50;refine(awake27_calls _).mono ?_;rintro r wb ⟨rfl,hu9⟩;have HUB:=mK (HUA.o.tt hu9);clear hu9) | (go_at_call 55;refine(HT2.o _ HRc7.o HRd7.o).mono ?_;rintro r wa ⟨rfl,hu⟩;have HUA:=mK (HU7.o.tt hu);clear hu))
 go_ret
 exact⟨rfl,HUB.o⟩
theorem NestItems_walk {l:List Tok} {p:Int} (hr:tokR.row w F A l) (hlc:l.length<=c):Calls Tryz.prog 9 #[.slice A l.length c,.int .i64 p] w fun r w'=>r=.returned (.bool true)/\Pure w w':=by
 by_cases h:200 < l.length
 ·exact NItems_long h
 ·refine NItems_main (s1:=toldS (indSt l p) (x30 l p)) (e1:=x30 l p) (s2:=toldS (outSt l p) (x33 l p)) (e2:=x33 l p) (by omega) (told_len3 (ind_len l p)) (told_len3 (out_len l p)) (fun W hW q hq=>?_) (fun W hW q hq=>?_) (fun W hW q hq=>?_) (fun W hW q hq=>?_)
  ·exact(Indent_calls hq (Rp.x01 hr hW) hlc (by omega)).mono (fun r w' ⟨B',c',h1,h2,_⟩=>⟨B',c',h1.1,h1.2,Rp.x09 h2.1 (fun _ _=>trivial)⟩)
  ·exact(Indent27_any hq (Rp.x01 hr hW) hlc (by omega)).mono (fun r w' ⟨B',c',h1,h2⟩=>⟨B',c',h1.1,h1.2,h2⟩)
  ·exact(Outdent_calls hq (Rp.x01 hr hW) hlc (by omega)).mono (fun r w' ⟨B',c',h1,h2,_⟩=>⟨B',c',h1.1,h1.2,Rp.x09 h2.1 (fun _ _=>trivial)⟩)
  ·exact(Outdent27_any hq (Rp.x01 hr hW) hlc (by omega)).mono (fun r w' ⟨B',c',h1,h2⟩=>⟨B',c',h1.1,h1.2,h2⟩)
end Go.Proofs.YtofjodppljnlaaaGreatDoor
