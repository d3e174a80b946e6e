/- My own texts, packed: MarkL, MayP, Piece, Ref4, MayW, NestP. -/
import Derived.Test.YtofjodppljnlaaaGreatDoorP28
import Derived.Test.YtofjodppljnlaaaGreatDoorP17
set_option maxRecDepth 100000
set_option maxHeartbeats 4000000
set_option linter.unusedVariables false
set_option linter.unusedSimpArgs false
variable {w w1 W:Go.World} {F G:Nat → Prop} {A B:Option Go.Addr} {cb c:Nat}
namespace Go.Proofs.YtofjodppljnlaaaGreatDoor
open Go.RowKit
theorem house_rights {l:List Tok} (h:(x0d l).2=0):∀ x ∈ l,x0p x=true:=fc_rights l 0 0 ((x4w l).1 h).2.1
theorem right_open {x:Tok} (h:x0p x=true) (h1:x.k=1):x=openT x.t x.n:=by
 have h2:RightP x:=of_decide_eq_true h
 unfold RightP at h2
 obtain⟨k,t,n,m⟩:=x
 simp only at h1 h2 ⊢
 subst h1
 have:m=0:=by omega
 subst this
 rfl
/-- What stands in a level is of its types. -/
theorem kids_ty (i:Int) (R:Spec × Ex):∀ (l:List Tok) (k d:Nat) (top:Lev) (below:List Lev) (S:Lev × List Lev),(∀ a ∈ top :: below,Wd a)->(0<=i\/d=below.length)->((top :: below)[d]?).map (·.1)=some R->hRun top below l=some S->∀ p ∈ kdGo i k d l,∃ (j:Nat) (x:Tok),p=((k+j:Nat):Int)/\l[j]?=some x/\x.t ∈ tyR R:=by
 intro l
 induction l with
 | nil=>
   intro k d top below S _ _ _ _ p hp
   cases hp
 | cons x r ih=>
   intro k d top below S hW hd hR h p hp
   unfold hRun at h
   rw[x1f] at h
   rw[kdGo] at hp
   have wrap:∀ (k' d':Nat) (top2:Lev) (below2:List Lev),k'=k+1->(∀ a ∈ top2 :: below2,Wd a)->(0<=i\/d'=below2.length)->((top2 :: below2)[d']?).map (·.1)=some R->hRun top2 below2 r=some S->p ∈ kdGo i k' d' r->∃ (j:Nat) (y:Tok),p=((k+j:Nat):Int)/\(x :: r)[j]?=some y/\y.t ∈ tyR R:=by
    intro k' d' top2 below2 hk' g1 g2 g3 g4 g5
    obtain⟨j,y,h3,h4,h5⟩:=ih k' d' top2 below2 S g1 g2 g3 g4 p g5
    exact⟨j+1,y,by rw[h3,hk'];congr 1;omega,by simpa using h4,h5⟩
   by_cases h2:x.k=2
   ·rw[if_pos h2] at h hp
    cases below with
    | nil=>cases h
    | cons q qs=>
      simp only at h
      split at h
      ·by_cases hd0:d=0
       ·subst hd0
        rcases hd with hd | hd
        ·rw[if_pos ⟨rfl,hd⟩] at hp
         cases hp
        ·simp at hd
       ·rw[if_neg (fun e=>hd0 e.1)] at hp
        obtain⟨d',rfl⟩:∃ d',d=d'+1:=⟨d - 1,by omega⟩
        refine wrap _ _ q qs rfl (fun a ha=>hW a (List.mem_cons_of_mem _ ha)) ?_ ?_ h hp
        ·rcases hd with hd | hd
         ·exact .inl hd
         ·exact .inr (by simpa using hd)
        ·simpa using hR
      ·cases h
   ·rw[if_neg h2] at h hp
    split at h
    ·rename_i hs
     have hwt:=hW top List.mem_cons_self
     have hx:=(x61 hwt x).1 hs
     have hp0:=hp
     clear hp
     rcases List.mem_append.1 hp0 with hp | hp
     ·clear hp0
      split at hp
      ·rename_i hc
       obtain⟨rfl,_⟩:=hc
       have e:top.1=R:=by simpa using hR
       exact⟨0,x,by simpa using hp,rfl,by rw[<- e];exact hx.2⟩
      ·cases hp
     ·have hsn:∀ a ∈ ((top.1,top.2 ++ [x.t]):Lev) :: below,Wd a:=fun a ha=>by
       rcases List.mem_cons.1 ha with rfl | ha
       ·exact hwt.snoc hx.2
       ·exact hW a (List.mem_cons_of_mem _ ha)
      have hR2:((((top.1,top.2 ++ [x.t]):Lev) :: below)[d]?).map (·.1)=some R:=by
       cases d with
       | zero=>simpa using hR
       | succ d=>simpa using hR
      by_cases h1:x.k=1
      ·rw[if_pos h1] at h hp
       refine wrap _ _ _ _ rfl (fun a ha=>?_) ?_ ?_ h hp
       ·rcases List.mem_cons.1 ha with rfl | ha
        ·exact wd_new _
        ·exact hsn a ha
       ·rcases hd with hd | hd
        ·exact .inl hd
        ·exact .inr (by simp[hd])
       ·simpa using hR2
      ·rw[if_neg h1] at h hp
       exact wrap _ _ _ _ rfl hsn hd hR2 h hp
    ·cases h
def botOf:Lev->List Lev->Lev
 | t,[]=>t
 | _,p :: q=>botOf p q
theorem run_bot:∀ (l:List Tok) (top t:Lev) (below z:List Lev),hRun top below l=some (t,z)->(botOf t z).1=(botOf top below).1/\∃ v,(botOf t z).2=(botOf top below).2 ++ v:=by
 intro l
 induction l with
 | nil=>
   intro top t below z h
   simp only[hRun,ckRun,Option.some.injEq,Prod.mk.injEq] at h
   obtain⟨rfl,rfl⟩:=h
   exact⟨rfl,[],by simp⟩
 | cons x r ih=>
   intro top t below z h
   unfold hRun at h
   rw[x1f] at h
   have hsn:∀ u:Int,(botOf (top.1,top.2 ++ [u]) below).1=(botOf top below).1/\∃ v,(botOf (top.1,top.2 ++ [u]) below).2=(botOf top below).2 ++ v:=by
    intro u
    cases below with
    | nil=>exact⟨rfl,[u],rfl⟩
    | cons p q=>exact⟨rfl,[],by simp[botOf]⟩
   split at h
   ·cases below with
    | nil=>cases h
    | cons p q=>
      simp only at h
      split at h
      ·have h9:=ih _ _ _ _ h
       exact h9
      ·cases h
   ·split at h
    ·have key:∃ top2 below2,hRun top2 below2 r=some (t,z)/\botOf top2 below2=botOf (top.1,top.2 ++ [x.t]) below:=by
      split at h
      ·exact⟨_,_,h,rfl⟩
      ·exact⟨_,_,h,rfl⟩
     obtain⟨top2,below2,h2,hb⟩:=key
     obtain⟨e1,v1,e2⟩:=ih _ _ _ _ h2
     obtain⟨e3,v2,e4⟩:=hsn x.t
     rw[hb] at e1 e2
     exact⟨e1.trans e3,v2 ++ v1,by rw[e2,e4,List.append_assoc]⟩
    ·cases h
theorem run_mt (l:List Tok):∀ (r:List Tok) (k:Nat) (s:List Int) (top t:Lev) (below z:List Lev),(∀ j x,r[j]?=some x->l[k+j]?=some x)->Mt l s top below->hRun top below r=some (t,z)->Mt l (stkGo k r s) t z:=by
 intro r
 induction r with
 | nil=>
   intro k s top t below z _ h hr
   simp only[hRun,ckRun,Option.some.injEq,Prod.mk.injEq] at hr
   obtain⟨rfl,rfl⟩:=hr
   exact h
 | cons x r ih=>
   intro k s top t below z hl h hr
   unfold hRun at hr
   rw[x1f] at hr
   rw[stkGo]
   have hl2:∀ j y,r[j]?=some y->l[k+1+j]?=some y:=fun j y hy=>by
    have:=hl (j+1) y (by simpa using hy)
    rw[show k+1+j=k+(j+1) by omega]
    exact this
   by_cases h2:x.k=2
   ·rw[if_pos h2] at hr
    cases h with
    | nil=>cases hr
    | snoc h3 h4 h5 h6 h7 h8=>
      simp only at hr
      split at hr
      ·refine ih _ _ _ _ _ _ hl2 ?_ hr
       unfold x1b
       rw[if_neg (by omega),if_pos h2,List.dropLast_concat]
       exact h8
      ·cases hr
   ·rw[if_neg h2] at hr
    split at hr
    ·rename_i hs
     have hm:mayT x02 top.1.1 x=true:=by
      unfold x36 at hs
      rw[Bool.and_eq_true] at hs
      exact hs.1
     split at hr
     ·rename_i h1
      refine ih _ _ _ _ _ _ hl2 ?_ hr
      unfold x1b
      rw[if_pos h1]
      obtain⟨j,hj,hj1,hrj⟩:=mayT_open1 h1 hm
      exact .snoc (by have:=hl 0 x rfl;simpa using this) h1 hj hj1 hrj (h.word _)
     ·rename_i h1
      refine ih _ _ _ _ _ _ hl2 ?_ hr
      unfold x1b
      rw[if_neg h1,if_neg h2]
      exact h.word _
    ·cases hr
/-- The level at a place of a document. -/
theorem at_level {l:List Tok} (ok:(x0d l).2=0) {n:Nat} (hn:n<=l.length):∃ top below,hRun hTop [] (l.take n)=some (top,below)/\(∃ t,hRun top below (l.drop n)=some (t,[])/\hAcc t=true)/\Rl top below top below/\Mt l (x1w l n) top below:=by
 rw[x4w] at ok
 obtain⟨hl,fa,t,ra,aa⟩:=ok
 have h:=ra
 rw[<- List.take_append_drop n l] at h
 unfold hRun at h
 rw[x5l] at h
 obtain⟨s,h1,h2⟩:=Option.bind_eq_some_iff.1 h
 obtain⟨top,below⟩:=s
 obtain⟨t',z',h3,h4⟩:=run_rl (l.take n) (.bot rfl hTop_wd hTop_wd) h1
 have e:some (t',z')=some (top,below):=h3.symm.trans h1
 simp only[Option.some.injEq,Prod.mk.injEq] at e
 obtain⟨rfl,rfl⟩:=e
 refine⟨_,_,h1,⟨t,h2,aa⟩,h4,?_⟩
 unfold x1w
 rw[if_neg (by omega),show (max (n:Int) 0).toNat=n by omega]
 refine run_mt l _ 0 [] hTop _ [] _ (fun j x hx=>?_) (.nil rfl) h1
 rw[List.getElem?_take] at hx
 split at hx
 ·rw[Nat.zero_add];exact hx
 ·cases hx
theorem run_ne {x:Tok} {s:List Tok} {u:Lev} (h:hRun hTop [] (x :: s)=some (u,[])):u.2 ≠ []:=by
 unfold hRun at h
 rw[x1f] at h
 split at h
 ·cases h
 ·split at h
  ·have key:∃ top2 below2,hRun top2 below2 s=some (u,[])/\botOf top2 below2=(hTop.1,hTop.2 ++ [x.t]):=by
    split at h
    ·exact⟨_,_,h,rfl⟩
    ·exact⟨_,_,h,rfl⟩
   obtain⟨top2,below2,h3,hb⟩:=key
   obtain⟨_,v,hv⟩:=run_bot s _ _ _ _ h3
   rw[hb] at hv
   have hv2:u.2=[x.t] ++ v:=hv
   rw[hv2]
   simp
  ·cases h
theorem text_nn:∀ i:Nat,i < 9->(0:Int) ∈ tyR (x0r x02 (i:Int))->nnOf x07 (x0r x02 (i:Int)).2=true/\(x0r x02 (i:Int)).1.expr=x4p/\tyR (x0r x02 (i:Int))=[0]:=by
 intro i hi h0
 have h:i=0\/i=1\/i=2\/i=3\/i=4\/i=5\/i=6\/i=7\/i=8:=by omega
 have e0:tyR (x0r x02 ((0:Nat):Int))=[1,2,3,4,5,7]:=by kernel_rfl
 have e3:tyR (x0r x02 ((3:Nat):Int))=[1,2,3,4,5,7]:=by kernel_rfl
 have e5:tyR (x0r x02 ((5:Nat):Int))=[6]:=by kernel_rfl
 have e6:tyR (x0r x02 ((6:Nat):Int))=[1,2,3,4,5,7]:=by kernel_rfl
 have e7:tyR (x0r x02 ((7:Nat):Int))=[]:=by kernel_rfl
 have e8:tyR (x0r x02 ((8:Nat):Int))=[]:=by kernel_rfl
 rcases h with rfl | rfl | rfl | rfl | rfl | rfl | rfl | rfl | rfl
 ·rw[e0] at h0;exact absurd h0 (by decide)
 ·exact⟨by kernel_rfl,by kernel_rfl,by kernel_rfl⟩
 ·exact⟨by kernel_rfl,by kernel_rfl,by kernel_rfl⟩
 ·rw[e3] at h0;exact absurd h0 (by decide)
 ·exact⟨by kernel_rfl,by kernel_rfl,by kernel_rfl⟩
 ·rw[e5] at h0;exact absurd h0 (by decide)
 ·rw[e6] at h0;exact absurd h0 (by decide)
 ·rw[e7] at h0;exact absurd h0 (by decide)
 ·rw[e8] at h0;exact absurd h0 (by decide)
theorem text_rule {a:Lev} (h:Wd a) (h0:(0:Int) ∈ tyR a.1):nnOf x07 a.1.2=true/\a.1.1.expr=x4p/\tyR a.1=[0]:=by
 obtain⟨t,ht⟩:=h.1
 obtain⟨i,hi,hr⟩:=x56 t
 rw[ht,hr] at h0 ⊢
 exact text_nn i hi h0
theorem letter_may (s:Spec) (hm:s.marks=0\/s.marks=7):mayT x02 s letter=true:=by
 unfold mayT runeB x4t
 rw[if_pos rfl]
 rcases hm with h | h <;> rw[h] <;> rfl
theorem wd_marks {a:Lev} (h:Wd a):a.1.1.marks=0\/a.1.1.marks=7:=by
 obtain⟨t,ht⟩:=h.1
 obtain⟨i,hi,hr⟩:=x56 t
 rw[ht,hr]
 simpa using List.all_eq_true.1 house_marks i (List.mem_range.2 hi)
/-- A letter may be put where the level's types have text. -/
theorem put_iff {l:List Tok} (ok:(x0d l).2=0) (hl:l.length<=2047) {n:Nat} {top:Lev} {below:List Lev} (h1:hRun hTop [] (l.take n)=some (top,below)) (h2:∃ t,hRun top below (l.drop n)=some (t,[])/\hAcc t=true) (hR:Rl top below top below) :
 (x0d (l.take n ++ letter :: l.drop n)).2=0 ↔ (0:Int) ∈ tyR top.1:=by
 have hw:=hR.wd.2.1
 have hstep:=x61 hw letter
 rw[x4w]
 have hrun:hRun hTop [] (l.take n ++ letter :: l.drop n)=if x36 x02 x07 top letter=true then hRun (top.1,top.2 ++ [0]) below (l.drop n) else none:=by
  unfold hRun
  rw[x5l,show ckRun x02 x07 hTop [] (l.take n)=some (top,below) from h1]
  show ckRun x02 x07 top below (letter :: l.drop n)=_
  rw[x1f,if_neg (by decide)]
  split
  ·rw[if_neg (by decide)]
  ·rfl
 constructor
 ·rintro ⟨_,_,t,hr,_⟩
  rw[hrun] at hr
  split at hr
  ·rename_i hs
   exact(hstep.1 hs).2
  ·cases hr
 ·intro h0
  have hs:=hstep.2 ⟨letter_may _ (wd_marks hw),h0⟩
  rw[if_pos hs] at hrun
  obtain⟨hnn,_,_⟩:=text_rule hw h0
  obtain⟨t,hr,ha⟩:=h2
  have hR2:Rl top below (top.1,top.2 ++ [0]) below:=by
   cases hR with
   | bot e1 e2 e3=>exact .bot rfl e2 (e2.snoc h0)
   | up e1 e2 e3 e4 e5=>exact .up rfl e2 (e2.snoc h0) (by rw[show hAcc top=true from(e2.sig.acc top.2).2 ⟨fun _=>hnn,e2.2⟩,acc_snoc (e2.snoc h0) (by simp)]) e5
  obtain⟨t',z',hr',hrl⟩:=run_rl _ hR2 hr
  cases hrl with
  | bot e1 e2 e3=>
    have hfin:hRun hTop [] (l.take n ++ letter :: l.drop n)=some (t',[]):=hrun.trans hr'
    rw[x4w] at ok
    obtain⟨_,fa,_⟩:=ok
    refine⟨by simp;omega,?_,t',hfin,acc_snoc e3 ?_⟩
    ·rw[<- List.take_append_drop n l,fcRun_app] at fa
     obtain⟨m,f1,f2⟩:=Option.bind_eq_some_iff.1 fa
     rw[fcRun_app,f1]
     show fcRun m (letter :: l.drop n)=_
     rw[fcRun,if_neg (by rw[show x0p letter=true by decide];decide),if_neg (by decide),if_neg (by decide)]
     exact f2
    ·cases hd:l.take n ++ letter :: l.drop n with
     | nil=>simp at hd
     | cons x s=>
       rw[hd] at hfin
       exact run_ne hfin
theorem rl_all {a b:Lev} {q q':List Lev} (h:Rl a q b q'):∀ x ∈ a :: q,Wd x:=by
 induction h with
 | bot h1 h2 h3=>
   intro x hx
   rw[List.mem_singleton.1 hx]
   exact h2
 | up h1 h2 h3 h4 h5 ih=>
   intro x hx
   rcases List.mem_cons.1 hx with rfl | hx
   ·exact h2
   ·exact ih x hx
theorem at_place2 {l:List Tok} (ok:(x0d l).2=0) (hl:l.length<=2047) {n:Nat} (hn:n<=l.length):∃ R,AtP l n R:=by
 obtain⟨top,below,h1,h2,hR,hM⟩:=at_level ok hn
 have hw:=hR.wd.2.1
 have hput:=put_iff ok hl h1 h2 hR
 have hwd:Wd (top.1,[]):=⟨hw.1,fun t ht=>by cases ht⟩
 generalize hs:x1w l n=s at hM
 cases hM with
 | nil ht=>
   have ha:x04 l n=-1:=by unfold x04;rw[hs];rfl
   have h0:x02[0]?=some top.1:=by
    rw[ht]
    unfold x0r
    obtain⟨y,hy⟩:∃ y,x02[0]?=some y:=⟨_,List.getElem?_eq_getElem (by rw[x2w];decide)⟩
    rw[show (0:Int).toNat=0 from rfl,hy]
    rfl
   refine⟨top.1,.inl ⟨ha,h0⟩,?_,hwd,hput⟩
   rw[ha]
   intro p hp
   rw[x4w] at ok
   obtain⟨_,_,t,ra,_⟩:=ok
   obtain⟨j,x,e,hx,hxt⟩:=kids_ty (-1) top.1 l 0 0 hTop [] _ (fun a ha=>by rw[List.mem_singleton.1 ha];exact hTop_wd) (.inr rfl) (by rw[ht];rfl) ra p hp
   exact⟨j,x,by rw[e,Nat.zero_add],hx,hxt⟩
 | @snoc s' j yt y _ p q hy hy1 hyt hyt1 hRr hM'=>
   have ha:x04 l n=j:=by unfold x04;rw[hs];simp
   refine⟨top.1,.inr ⟨j,yt,y,ha,hy,hy1,hyt,hyt1,hRr⟩,?_,hwd,hput⟩
   rw[ha]
   intro p' hp'
   obtain⟨top3,below3,g1,⟨t3,g2,_⟩,gR,_⟩:=at_level ok (n:=j+1) (by have:=(List.getElem?_eq_some_iff.1 hy).1;omega)
   have g3:hRun hTop [] (l.take j ++ [y])=some (top3,below3):=by
    have e:l.take (j+1)=l.take j ++ [y]:=by rw[List.take_add_one,hy];rfl
    rw[<- e];exact g1
   have htop:top3.1=top.1:=by
    unfold hRun at g3
    rw[x5l] at g3
    obtain⟨S,_,g5⟩:=Option.bind_eq_some_iff.1 g3
    rw[x1f,if_neg (by omega)] at g5
    split at g5
    ·try rw[if_pos hy1] at g5
     simp only[ckRun,Option.some.injEq,Prod.mk.injEq] at g5
     rw[<- g5.1]
     show x0r x02 y.t=top.1
     unfold x0r
     rw[hyt,Int.toNat_natCast,hRr]
     rfl
    ·cases g5
   unfold kidsL at hp'
   rw[show ((j:Int)+1).toNat=j+1 by omega] at hp'
   obtain⟨j2,x,e,hx,hxt⟩:=kids_ty (j:Int) top.1 (l.drop (j+1)) (j+1) 0 top3 below3 _ (rl_all gR) (.inl (by omega)) (by rw[<- htop];rfl) g2 p' hp'
   rw[List.getElem?_drop] at hx
   exact⟨j+1+j2,x,e,hx,hxt⟩
theorem at_place {l:List Tok} (ok:(x0d l).2=0) (hl:l.length<=200) {n:Nat} (hn:n<=l.length):∃ R,AtP l n R:=at_place2 ok (by omega) hn
/-- The word of a level with one more put in. -/
def mayGo (l:List Tok) (at' t:Int):List Int->Bool->List Int
 | [],put=>if put=true then [] else [t]
 | p :: r,put=>if at'<=p/\put=false then t :: tyAt l p :: mayGo l at' t r true else tyAt l p :: mayGo l at' t r put
theorem dpt_fc:∀ (l:List Tok) (n m:Nat),fcRun n l=some m->dpt n l=some m:=by
 intro l
 induction l with
 | nil=>intro n m h;exact h
 | cons x r ih=>
   intro n m h
   unfold fcRun at h
   unfold dpt
   split at h
   ·cases h
   ·by_cases h2:x.k=2
    ·rw[if_pos h2] at h
     rw[if_neg (by omega),if_pos h2]
     split at h
     ·cases h
     ·rename_i h0
      rw[if_neg h0]
      exact ih _ _ h
    ·rw[if_neg h2] at h
     by_cases h1:x.k=1
     ·rw[if_pos h1] at h ⊢
      split at h
      ·cases h
      ·exact ih _ _ h
     ·rw[if_neg h1] at h
      rw[if_neg h1,if_neg h2]
      exact ih _ _ h
theorem dpt_up:∀ (B:List Tok) (a b n:Nat),dpt a B=some b->dpt (a+n) B=some (b+n):=by
 intro B
 induction B with
 | nil=>
   intro a b n h
   simp only[dpt,Option.some.injEq] at h ⊢
   omega
 | cons x r ih=>
   intro a b n h
   unfold dpt at h ⊢
   by_cases h1:x.k=1
   ·rw[if_pos h1] at h ⊢
    have:=ih _ _ n h
    rwa [show a+1+n=a+n+1 by omega] at this
   ·rw[if_neg h1] at h ⊢
    by_cases h2:x.k=2
    ·rw[if_pos h2] at h ⊢
     split at h
     ·cases h
     ·rename_i h0
      rw[if_neg (by omega)]
      have:=ih _ _ n h
      rwa [show a - 1+n=a+n - 1 by omega] at this
    ·rw[if_neg h2] at h ⊢
     exact ih _ _ n h
theorem stk_shift:∀ (B:List Tok) (k d:Nat) (u:List Int),stkGo (k+d) B (u.map (·+(d:Int)))=(stkGo k B u).map (·+(d:Int)):=by
 intro B
 induction B with
 | nil=>intro k d u;rfl
 | cons x r ih=>
   intro k d u
   simp only[stkGo,x1b]
   by_cases h1:x.k=1
   ·simp only[if_pos h1]
    have:=ih (k+1) d (u ++ [(k:Int)])
    rw[List.map_append,show k+1+d=k+d+1 by omega] at this
    rw[<- this]
    simp
   ·simp only[if_neg h1]
    by_cases h2:x.k=2
    ·simp only[if_pos h2]
     have:=ih (k+1) d u.dropLast
     rw[show k+1+d=k+d+1 by omega,List.map_dropLast] at this
     exact this
    ·simp only[if_neg h2]
     have:=ih (k+1) d u
     rw[show k+1+d=k+d+1 by omega] at this
     exact this
/-- The partner of what is open: behind a piece that is shut. -/
theorem pt_piece:∀ (B:List Tok) (n j:Nat) (c:Tok) (R:List Tok),dpt n B=some 0->c.k=2->ptGo j ((n:Int)+1) (B ++ c :: R)=some (j+B.length):=by
 intro B
 induction B with
 | nil=>
   intro n j c R h hc
   simp only[dpt,Option.some.injEq] at h
   subst h
   simp only[List.nil_append,ptGo]
   rw[if_neg (by omega),if_pos hc,if_pos (by omega)]
   rfl
 | cons x r ih=>
   intro n j c R h hc
   unfold dpt at h
   rw[List.cons_append,ptGo]
   by_cases h1:x.k=1
   ·rw[if_pos h1] at h ⊢
    have:=ih (n+1) (j+1) c R h hc
    rw[show ((n+1:Nat):Int)+1=(n:Int)+1+1 by omega] at this
    rw[this,List.length_cons]
    congr 1
    omega
   ·rw[if_neg h1] at h ⊢
    by_cases h2:x.k=2
    ·rw[if_pos h2] at h ⊢
     split at h
     ·cases h
     ·rename_i h0
      rw[if_neg (by omega)]
      have:=ih (n - 1) (j+1) c R h hc
      rw[show ((n - 1:Nat):Int)+1=(n:Int)+1 - 1 by omega] at this
      rw[this,List.length_cons]
      congr 1
      omega
    ·rw[if_neg h2] at h ⊢
     rw[ih n (j+1) c R h hc,List.length_cons]
     congr 1
     omega
theorem piece_part {l:List Tok} {x:Nat} {o c:Tok} {B R:List Tok} (hd:l.drop x=o :: (B ++ c :: R)) (h1:o.k=1) (hc:c.k=2) (hB:dpt 0 B=some 0):partL l x=(x:Int)+1+B.length:=by
 unfold partL
 have:ptGo 0 0 (l.drop x)=some (1+B.length):=by
  rw[hd,ptGo,if_pos h1]
  have:=pt_piece B 0 1 c R hB hc
  simpa using this
 rw[this]
 simp only
 omega
theorem x4o {l:List Tok} {n:Nat} {x:Tok} (hx:l[n]?=some x):stkGo 0 (l.take (n+1)) []=x1b n x (stkGo 0 (l.take n) []):=by
 have hn:=(List.getElem?_eq_some_iff.1 hx).1
 have:l.take (n+1)=l.take n ++ [x]:=by rw[List.take_add_one,hx];rfl
 rw[this,stkGo_app]
 simp only[stkGo,List.length_take,Nat.zero_add]
 rw[Nat.min_eq_left (by omega)]
/-- Of a document: the innermost that is open, and what stands behind it. -/
theorem x5t {l:List Tok} (hd:dpt 0 l=some 0):∀ (n:Nat),n<=l.length->∀ (s:List Int) (p:Int),stkGo 0 (l.take n) []=s ++ [p]->∃ (i:Nat) (o:Tok) (B:List Tok),p=i/\i < n/\l[i]?=some o/\o.k=1/\l.take n=l.take i ++ o :: B/\dpt 0 B=some 0/\stkGo 0 (l.take i) []=s:=by
 intro n
 induction n using Nat.strongRecOn with
 | _ n ih=>
   intro hn s p hs
   cases n with
   | zero=>simp[stkGo] at hs
   | succ n=>
     obtain⟨x,hx⟩:∃ x,l[n]?=some x:=⟨_,List.getElem?_eq_getElem (by omega)⟩
     have htk:l.take (n+1)=l.take n ++ [x]:=by rw[List.take_add_one,hx];rfl
     rw[x4o hx] at hs
     unfold x1b at hs
     by_cases h1:x.k=1
     ·rw[if_pos h1] at hs
      obtain⟨rfl,h2⟩:=List.append_inj' hs rfl
      simp only[List.cons.injEq,and_true] at h2
      exact⟨n,x,[],h2.symm,by omega,hx,h1,htk,rfl,rfl⟩
     ·rw[if_neg h1] at hs
      by_cases h2:x.k=2
      ·rw[if_pos h2] at hs
       -- one is open ahead of it
       have hd2:=hd
       rw[<- List.take_append_drop n l,dpt_app] at hd2
       obtain⟨m,hm,hm2⟩:=Option.bind_eq_some_iff.1 hd2
       rw[drop_cons hx,dpt,if_neg h1,if_pos h2] at hm2
       have hm0:m ≠ 0:=by intro e;rw[if_pos e] at hm2;cases hm2
       obtain⟨_,hlen⟩:=dpt_stk (l.take n) 0 m hm 0 [] rfl []
       have hne:stkGo 0 (l.take n) [] ≠ []:=by intro e;rw[e] at hlen;simp at hlen;omega
       have hlast:=List.dropLast_concat_getLast hne
       rw[hs] at hlast
       obtain⟨i,o,B,hi,hin,hio,ho1,hpi,hB,hsi⟩:=ih n (by omega) (by omega) (s ++ [p]) _ hlast.symm
       obtain⟨i2,o2,B2,hi2,hin2,hio2,ho2,hpi2,hB2,hsi2⟩:=ih i (by omega) (by omega) s p hsi
       refine⟨i2,o2,B2 ++ o :: (B ++ [x]),hi2,by omega,hio2,ho2,?_,?_,hsi2⟩
       ·rw[htk,hpi,hpi2]
        simp
       ·rw[dpt_app,hB2]
        simp only[Option.bind_some]
        rw[dpt,if_pos ho1,dpt_app]
        have:=dpt_up B 0 0 1 hB
        simp only[Nat.zero_add] at this ⊢
        rw[this]
        simp only[Option.bind_some]
        rw[dpt,if_neg h1,if_pos h2,if_neg (by decide)]
        rfl
      ·rw[if_neg h2] at hs
       obtain⟨i,o,B,hi,hin,hio,ho1,hpi,hB,hsi⟩:=ih n (by omega) (by omega) s p hs
       refine⟨i,o,B ++ [x],hi,by omega,hio,ho1,by rw[htk,hpi];simp,?_,hsi⟩
       rw[dpt_app,hB]
       simp only[Option.bind_some]
       rw[dpt,if_neg h1,if_neg h2]
       rfl
theorem Partner4_shut {l:List Tok} {i:Nat} {y:Tok} (hr:tokR.row w F A l) (hb:l.length<=1048576 * 4) (hlc:l.length<=c) (hy:l[i]?=some y) (h2:y.k=2) :
 Calls Tryz.prog 77 #[.slice A l.length c,.int .i64 i] w fun e w'=>e=.returned (.int .i64 (x04 l i))/\Pure w w':=by
 have hil:i < l.length:=(List.getElem?_eq_some_iff.1 hy).1
 have HA:=mK (x25 (c:=c) (at':=(i:Int)) hr hb hlc)
 obtain⟨by',oy',rfl,_,hby,f0,f1,f2,f3⟩:=x0j hr hy
 rw[h2] at f0
 have t1:decide ((i:Int) < 0)=false:=by simp
 have t2:decide ((i:Int) >= (l.length:Int))=false:=by simp;omega
 have t6:decide (l.length<=i)=false:=by simp;omega
 clear hr hy h2
 go_enter Tryz.func77,Tryz.ntmps77
 go_wp2_with (go_at_call 74;refine HA.o.mono ?_;rintro r w1 ⟨rfl,hu⟩;have HU1:=mK hu;clear hu)
 go_ret
 exact⟨rfl,HU1.o⟩
theorem step_store_row {P:Program} {ops:Array Oper} {o:Oper} {a:Act} {K:Act->World->Prop} {Q:Exit->Act->World->Prop} {E:Prop} (hgd:o.guard=none) (ty:TypeId) (x y:Operand) (ho:o.op=.store ty x y)
 (g:Nat) (cells:Array Value) (hx:a.eval x=.pointer (some ⟨g,0,none⟩)) (hy:a.eval y=.agg cells) (t:TypeId) (old:Array Value) (hg:w.heap[g]?=some (.cells old t (0,0))) (hi:(P.info? ty).map (·.size)=some cells.size)
 (hold:old.size=cells.size) (h1:cells.all (·.oneCell')=true) (h:K (a.put o.dst undef) (w.setRow g cells)):if Region.wanted o (yielded ops a.tmps)=true then Oper.wp P o a w K Q else E:=by
 rw[if_pos (by simp[Region.wanted,hgd])]
 exact wp_store_row ty x y ho g cells hx hy t old hg hi hold h1 h
theorem setRow_upd (w:World) (g:Nat) (cells:Array Value):Upd (fun q=>q=g) w (w.setRow g cells):=⟨rfl,rfl,rfl,by simp[World.setRow],fun k _ hn=>setRow_other w g k _ hn⟩
theorem rule_row (h:SchR w cb x02 x07):∃ b0 o0 cL AG cG,w.cell? ⟨cb,0,none⟩=some (.slice (some ⟨b0,o0,none⟩) 8 cL)/\w.cell? ⟨cb,1,none⟩=some (.slice AG x07.length cG)/\cb < w.heap.size/\8<=cL/\b0 < w.heap.size/\ruleR.row w (fun _=>True) (some ⟨b0,o0,none⟩) x02/\grpR.row w (fun _=>True) AG x07:=by
 obtain⟨AL,cL,AG,cG,p0,p1,hcb,hle,hrow,hg⟩:=h.cells
 rw[x2w] at p0 hle
 obtain⟨y,hy⟩:∃ y,x02[0]?=some y:=⟨_,List.getElem?_eq_getElem (by rw[x2w];decide)⟩
 obtain⟨x0,e0⟩:=y
 obtain⟨b0,o0,A1,c1,rfl,_,hb0,_⟩:=rule_at hrow hy
 exact⟨b0,o0,cL,AG,cG,p0,p1,hcb,hle,hb0,hrow,hg⟩
theorem May_whole {l:List Tok} {n:Nat} {t:Int} {R:Spec × Ex} (h:SchR w cb x02 x07) (hr:tokR.row w F A l) (hb:l.length<=2048) (hlc:l.length<=c) (ok:(x0d l).2=0) (hn:n<=l.length) (hP:AtP l n R) (hw:x04 l n=-1/\x02[0]?=some R) :
 Calls Tryz.prog 19 #[.pointer (some ⟨cb,0,none⟩),.slice A l.length c,.int .i64 n,.int .i64 t] w fun r w'=>r=.returned (.bool (x0n R.2 x07 (mayGo l n t (kidsL l (x04 l n)) false)))/\Pure w w':=by
 have HS:=mK h
 have HR:=mK hr
 have HKD0:=mK hP.kids
 have HCK:=mK (x3g (c:=c) h hr (by omega))
 rw[ok] at HCK
 have HAR:=mK (fun (W:World) (hu:Pure w W)=>x2g (c:=c) (at':=(n:Int)) (Rp.x01 hr hu) (by omega) hlc)
 have ha:x04 l n=-1:=hw.1
 have HKI:=mK (fun (W:World) (hu:Pure w W)=>Kids_whole (c:=c) (Rp.x01 hr hu) (by omega))
 obtain⟨x0,e0⟩:=R
 have hy0:=hw.2
 rw[ha] at HAR HKD0
 rw[ha]
 have HKL:=mK (show (kidsL l (-1)).length<=2048 by have:=kidsL_len l (-1);omega)
 obtain⟨b0,o0,cL,AG,cG,p0,p1,hcb,hle,hb0,hrow,hgrow⟩:=rule_row h
 have HG:=mK hgrow
 obtain⟨b0',o0',A1,c1,hA,_,_,d0,d1,d2,d3,d4,d5,d6,d7,d8,d9,hl1,hx1⟩:=rule_at hrow hy0
 simp only[Option.some.injEq,Addr.mk.injEq] at hA
 obtain⟨rfl,rfl,_⟩:=hA
 simp only[Nat.zero_mul,Nat.add_zero] at d0 d1 d2 d3 d4 d5 d6 d7 d8 d9
 have HMEM:=mK (List.mem_of_getElem? hy0)
 have HXR:=mK hx1
 have HBT:=mK (fun (bx:Nat) (_:bx=bx)=>trivial)
 have t1:decide ((n:Int) < 0)=false:=by simp
 have t2:decide ((n:Int) > (l.length:Int))=false:=by simp;omega
 have t3:decide ((l.length:Int) < (n:Int))=false:=by simp;omega
 have t4:decide (l.length < n)=false:=by simp;omega
 clear h hr ok hP hrow hgrow hx1 hw ha
 go_enter Tryz.func19,Tryz.ntmps19
 go_wp2_with (first | (go_at_call 72;refine(HAR.o w1 HU1.o).mono ?_;rintro r w2 ⟨rfl,hu⟩;have HU2:=mK (HU1.o.tt hu);obtain⟨oc,of⟩:=Pure.olds HU2.o;have hz2:=HU2.o.size;clear hu) | (go_at_call 15;refine HCK.o.mono ?_;rintro r w1 ⟨rfl,hu⟩;have HU1:=mK hu;clear hu))
 obtain⟨W3,hW3⟩:∃ W3,W3=w2.alloc (.cells #[.string x0.name,.string x0.expr,.bool x0.leaf,.int .i64 x0.marks,.int .i64 x0.least,.int .i64 x0.most,.bool x0.lines,.int .i64 e0.k,.string e0.name,.slice A1 e0.l.length c1] 94):=⟨_,rfl⟩
 have HU3:=mK (show Pure w W3 from hW3 ▸ HU2.o.alloc _)
 have hW3b:W3.heap[w2.heap.size]?=some (.cells #[.string x0.name,.string x0.expr,.bool x0.leaf,.int .i64 x0.marks,.int .i64 x0.least,.int .i64 x0.most,.bool x0.lines,.int .i64 e0.k,.string e0.name,.slice A1 e0.l.length c1] 94 (0,0)):=hW3 ▸ heap_alloc_new w2 _
 have HW3B:=mK hW3b
 have hz3:w2.heap.size < W3.heap.size:=lB hW3b
 have HZ:=mK (And.intro hz2 hz3)
 rw[<- hW3]
 clear hW3 hW3b d0 d1 d2 d3 d4 d5 d6 d7 d8 d9
 obtain⟨W5,hW5⟩:∃ W5,W5=W3:=⟨_,rfl⟩
 have HU5:=mK (show Pure w W5 from hW5 ▸ HU3.o)
 have HB5:=mK (show W5.heap[w2.heap.size]?=some (.cells #[.string x0.name,.string x0.expr,.bool x0.leaf,.int .i64 x0.marks,.int .i64 x0.least,.int .i64 x0.most,.bool x0.lines,.int .i64 e0.k,.string e0.name,.slice A1 e0.l.length c1] 94 (0,0)) from hW5 ▸ HW3B.o)
 rw[<- hW5]
 clear hW5
 go_wp2_with (go_at_call 76;refine(HKI.o W5 HU5.o).mono ?_;rintro r w4 ⟨v4,rfl,ho,hu⟩;have HO4:=mK ho;have HP4:=mK hu;have HU4:=mK (HU5.o.tt hu);obtain⟨A4,c4,rfl,hl4,hr4⟩:=Rp.x0c ho;have HR4:=mK hr4;clear hu ho hr4;apply As.o)
 refine⟨?_⟩
 have HM:=mK (show (x0,e0) ∈ x02 from HMEM.o)
 have HB4:=mK ((HP4.o.block w2.heap.size (lB HB5.o) (fun h=>h)).trans HB5.o)
 have HCEL:As (∀ V,Pure w4 V->V.cell? ⟨w2.heap.size,7,none⟩=some (.int .i64 e0.k)/\V.cell? ⟨w2.heap.size,8,none⟩=some (.string e0.name)/\V.cell? ⟨w2.heap.size,9,none⟩=some (.slice A1 e0.l.length c1)/\V.cell? ⟨cb,1,none⟩=some (.slice AG x07.length cG)):=⟨fun V hu=>by
  have hb:=(hu.block w2.heap.size (lB HB4.o) (fun h=>h)).trans HB4.o
  refine⟨?_,?_,?_,((HU4.o.tt hu).cell hcb (fun h=>h)).trans p1⟩ <;> (unfold World.cell?;simp only[hb];rfl)⟩
 have HACC:=mK (fun (V:World) (hu:Pure w V) (Aw:Option Addr) (cw:Nat) (wd:List Int) (Fw:Nat->Prop) (hw:intRS.row V Fw Aw wd) (hwl:wd.length<=1048576)=>acc_calls (c:=c1) (d:=cG) (cw:=cw) (SchR.made x3y HG.o hu HM.o (Rp.x1d (fun k hk hl=>⟨hl,Nat.lt_of_lt_of_le hl hu.size,hu.block k hl (fun h=>h)⟩) HXR.o)) hw (by omega))
 have hkl4:=HKL.o
 generalize hks:kidsL l (-1:Int)=ks at *
 have HKS:=mK hks
 clear hks HKI HAR HCK HB5 HW3B HP4 HU3 HU2 HU1
 go_wp2
 go_loopg [13,14,61] ks.length (fun gg vv pv kv wr=>∃ (k:Nat) (put:Bool),k+gg=ks.length/\kv=.int .i64 k/\pv=.bool put/\As (∃ word:List Int,intRS.own 3 wr (fun q=>w4.heap.size<=q) vv word/\word ++ mayGo l n t (ks.drop k) put=mayGo l n t ks false/\word.length<=2 * k/\Pure w4 wr))
 case atStart=>exact⟨0,false,by omega,rfl,rfl,⟨[],Rp.x0v _ _ _ _,rfl,by simp,Upd.refl _ _⟩⟩
 case round=>
  obtain⟨k,put,hk,rfl,rfl,HC⟩:=hrel
  obtain⟨word,hown,hgo,hwl,hp⟩:=HC.o
  have HO:=mK hown
  have HP:=mK hp
  have HWL:=mK hwl
  by_cases hlt:k < ks.length
  ·obtain⟨p,hp'⟩:∃ p,ks[k]?=some p:=⟨_,List.getElem?_eq_getElem hlt⟩
   obtain⟨i,x,rfl,hx,_⟩:=HKD0.o p (List.mem_of_getElem? hp')
   obtain⟨kb,ko,kcs,hA4,_,hkb,hkr,hkc⟩:=Rp.x42 (Rp.x01 HR4.o HP.o) hp'
   have hkr2:kcs=[.int .i64 (i:Int)]:=hkr
   subst hkr2
   have f0:=hkc 0 _ rfl
   rw[show intRS.sz=1 from rfl,Nat.mul_one,Nat.add_zero] at f0
   subst hA4
   obtain⟨bx,ox,rfl,_,hbx0,x0',x1',x2',x3'⟩:=x0j HR.o hx
   have HUW:=mK (HU4.o.tt HP.o)
   replace x1':=(HUW.o.cell hbx0 (fun h=>h)).trans x1'
   have hbx:bx < wr.heap.size:=Nat.lt_of_lt_of_le hbx0 HUW.o.size
   have HBX:=mK hbx0
   have hil:i < l.length:=(List.getElem?_eq_some_iff.1 hx).1
   have htx:tyAt l (i:Int)=x.t:=by unfold tyAt;rw[Int.toNat_natCast,hx];rfl
   obtain⟨g1,rfl⟩:=sC1 (by omega:0 < gk)
   rw[drop_cons hp',mayGo,htx] at hgo
   have HK:=mK hk
   have hwk:IntKind.i64.wrap ((k:Int)+1)=(k:Int)+1:=IntWalk.i64_in _ (by omega)
   clear hown hp hk hp' hx hkc hkr htx HC hwl x0' x2' x3'
   by_cases hc:(n:Int)<=(i:Int)/\put=false
   ·obtain⟨hc1,rfl⟩:=hc
    rw[if_pos ⟨hc1,rfl⟩] at hgo
    have HE:=mK (show (word ++ [t]) ++ [x.t] ++ mayGo l n t (ks.drop (k+1)) true=mayGo l n t ks false by rw[<- hgo];simp)
    have u1:decide ((i:Int) >= (n:Int))=true:=by simpa using hc1
    have u2:decide ((n:Int)<=(i:Int))=true:=by simpa using hc1
    have u3:decide (n<=i)=true:=by simpa using hc1
    clear hgo hc1
    go_wp2_with (first | (at_builtin;refine Rp.x0o intRS HO1.o (x.t) [.int .i64 (x.t)] rfl (Fp:=fun _=>False) (G:=fun q=>w4.heap.size<=q) (fun _ h=>h.elim) (fun _ h _=>h) (fun q hq=>by have:=HP1.o.size;omega) rfl _ _ 83 _ 8 rfl Tryz.underlying83 x1n rfl (by decide) (by decide) rfl (by first | rfl | simp[Act.eval]) (by have:=HWL.o;(try simp only[List.length_append,List.length_singleton]);omega) ?_;intro v2 w6 ho1 hu1;have HO2:=mK ho1;have HP2:=mK (HP1.o.trans hu1 (fun q hq h=>by have:=Rp.x03 HO1.o q h;omega));clear ho1 hu1) | (at_builtin;refine Rp.x0o intRS HO.o (t) [.int .i64 (t)] rfl (Fp:=fun _=>False) (G:=fun q=>w4.heap.size<=q) (fun _ h=>h.elim) (fun _ h _=>h) (fun q hq=>by have:=HP.o.size;omega) rfl _ _ 83 _ 8 rfl Tryz.underlying83 x1n rfl (by decide) (by decide) rfl (by first | rfl | simp[Act.eval]) (by have:=HWL.o;omega) ?_;intro v1 w5 ho1 hu1;have HO1:=mK ho1;have HP1:=mK (HP.o.trans hu1 (fun q hq h=>by have:=Rp.x03 HO.o q h;omega));have y1:=(hu1.cell hbx (fun e=>by have:=(Rp.x03 HO.o _ e).1;have:=HU4.o.size;have:=HBX.o;omega)).trans x1';clear ho1 hu1))
    go_roundg g1
    case measure=>omega
    case rel=>exact⟨k+1,true,by have:=HK.o;omega,by go_num,rfl,⟨_,HO2.o,HE.o,by have:=HWL.o;simp;omega,HP2.o⟩⟩
   ·rw[if_neg hc] at hgo
    have HE:=mK (show word ++ [x.t] ++ mayGo l n t (ks.drop (k+1)) put=mayGo l n t ks false by rw[<- hgo];simp)
    have HC2:=mK hc
    clear hgo hc
    cases cb1:decide ((n:Int)<=(i:Int)) <;> cases put
    all_goals first
     | (exfalso;exact HC2.o ⟨of_decide_eq_true cb1,rfl⟩)
     | skip
    all_goals
     have u1:decide ((i:Int) >= (n:Int))=decide ((n:Int)<=(i:Int)):=rfl
     rw[cb1] at u1
     have u3:decide (n<=i)=decide ((n:Int)<=(i:Int)):=by simp
     rw[cb1] at u3
     go_wp2_with (at_builtin;refine Rp.x0o intRS HO.o (x.t) [.int .i64 (x.t)] rfl (Fp:=fun _=>False) (G:=fun q=>w4.heap.size<=q) (fun _ h=>h.elim) (fun _ h _=>h) (fun q hq=>by have:=HP.o.size;omega) rfl _ _ 83 _ 8 rfl Tryz.underlying83 x1n rfl (by decide) (by decide) rfl (by first | rfl | simp[Act.eval]) (by have:=HWL.o;omega) ?_;intro v2 w6 ho1 hu1;have HO2:=mK ho1;have HP2:=mK (HP.o.trans hu1 (fun q hq h=>by have:=Rp.x03 HO.o q h;omega));clear ho1 hu1)
     go_roundg g1
     case measure=>omega
     case rel=>exact⟨k+1,_,by have:=HK.o;omega,by go_num,rfl,⟨_,HO2.o,HE.o,by have:=HWL.o;simp;omega,HP2.o⟩⟩
  ·obtain rfl:k=ks.length:=by omega
   rw[List.drop_length,mayGo] at hgo
   have hwk:word.length<=4096:=by omega
   clear hown hk hp HC hwl HKD0 HR4 HO4
   cases put
   ·have HE:=mK (show word ++ [t]=mayGo l n t ks false by rw[<- hgo];simp)
    clear hgo
    have HRES:As (∀ (V:World) (Aw:Option Addr) (cw:Nat) (Fw:Nat->Prop),Pure w V->intRS.row V Fw Aw (word ++ [t])->Calls Tryz.prog 66 #[.agg #[.int .i64 e0.k,.string e0.name,.slice A1 e0.l.length c1],.slice AG x07.length cG,.slice Aw (word.length+1) cw] V fun r w'=>r=.returned (.bool (x0n e0 x07 (mayGo l n t ks false)))/\Pure V w'):=⟨fun V Aw cw Fw hu hrw=>by have h9:=HACC.o V hu Aw cw _ Fw hrw (by simp;omega);rw[List.length_append,List.length_singleton,HE.o] at h9;exact h9⟩
    clear HACC HE
    go_wp2_with (at_builtin;refine Rp.x0o intRS HO.o (t) [.int .i64 (t)] rfl (Fp:=fun _=>False) (G:=fun q=>w4.heap.size<=q) (fun _ h=>h.elim) (fun _ h _=>h) (fun q hq=>by have:=HP.o.size;omega) rfl _ _ 83 _ 8 rfl Tryz.underlying83 x1n rfl (by decide) (by decide) rfl (by first | rfl | simp[Act.eval]) (by have:=HWL.o;omega) ?_;intro v2 w6 ho1 hu1;have HO2:=mK ho1;have HP2:=mK (HP.o.trans hu1 (fun q hq h=>by have:=Rp.x03 HO.o q h;omega));obtain⟨A6,c6,rfl,hl6,hr6⟩:=Rp.x0c ho1;have HR6:=mK hr6;clear ho1 hu1 hl6 hr6)
    try rw[List.length_append,List.length_singleton]
    have HCD:=HCEL.o _ HP2.o
    have HRW:=HR6
    refine wp_region_held_drew (S:=(fun V=>V.cell? ⟨w2.heap.size,7,none⟩=some (.int .i64 e0.k)/\V.cell? ⟨w2.heap.size,8,none⟩=some (.string e0.name)/\V.cell? ⟨w2.heap.size,9,none⟩=some (.slice A1 e0.l.length c1)/\V.cell? ⟨cb,1,none⟩=some (.slice AG x07.length cG))) (by kernel_rfl) ?_ (fun hHeld=>?_)
    ·first | exact HCEL.o _ HP9.o | exact HCEL.o _ HP2.o.drew
    refine zH 0 ?_
    refine zH 1 ?_
    refine zH 2 ?_
    refine zH 3 ?_
    (try simp only[Act.put,sA,sB,sC])
    refine zH 4 ?_
    refine zH 5 ?_
    refine zH 6 ?_
    refine wpAnyH_ready (rs:=[7]) (by kernel_rfl) (by simp) (AllReadyH.cons (by exact opAt rfl) (fun K hK=>?_) AllReadyH.nil)
    go_simp
    (go_at_call 66;refine(HRES.o _ _ _ _ (HU4.o.tt HP2.o.drew) (Rp.x01 HRW.o ((Upd.refl (fun _=>False) _).drew))).mono ?_;rintro r w9 ⟨rfl,hu⟩;have HP9:=mK (HP2.o.drew.tt hu);clear hu)
    refine hK.out _ _ (by first | exact HCEL.o _ HP9.o | exact HCEL.o _ HP2.o.drew) (fun hHeld=>?_)
    clear hK K
    (try simp only[Act.put,sA,sB,sC])
    refine zH 8 ?_
    refine wpAnyH_done (by kernel_rfl) ?_ _
    go_wp2
    go_ret
    exact⟨by rw[HKS.o];rfl,HU4.o.tt HP9.o⟩
   ·have HE:=mK (show word=mayGo l n t ks false by rw[<- hgo];simp)
    clear hgo
    obtain⟨A6,c6,rfl,hl6,hr6⟩:=Rp.x0c HO.o
    have HRW:=mK hr6
    have HRES:As (∀ (V:World) (Aw:Option Addr) (cw:Nat) (Fw:Nat->Prop),Pure w V->intRS.row V Fw Aw word->Calls Tryz.prog 66 #[.agg #[.int .i64 e0.k,.string e0.name,.slice A1 e0.l.length c1],.slice AG x07.length cG,.slice Aw word.length cw] V fun r w'=>r=.returned (.bool (x0n e0 x07 (mayGo l n t ks false)))/\Pure V w'):=⟨fun V Aw cw Fw hu hrw=>by have h9:=HACC.o V hu Aw cw _ Fw hrw (by omega);rw[<- HE.o];exact h9⟩
    clear HACC HE hr6
    go_wp2
    refine wp_region_held_drew (S:=(fun V=>V.cell? ⟨w2.heap.size,7,none⟩=some (.int .i64 e0.k)/\V.cell? ⟨w2.heap.size,8,none⟩=some (.string e0.name)/\V.cell? ⟨w2.heap.size,9,none⟩=some (.slice A1 e0.l.length c1)/\V.cell? ⟨cb,1,none⟩=some (.slice AG x07.length cG))) (by kernel_rfl) ?_ (fun hHeld=>?_)
    ·first | exact HCEL.o _ HP9.o | exact HCEL.o _ HP.o.drew
    refine zH 0 ?_
    refine zH 1 ?_
    refine zH 2 ?_
    (try simp only[Act.put,sA,sB,sC])
    refine zH 3 ?_
    refine zH 4 ?_
    refine zH 5 ?_
    refine zH 6 ?_
    (try simp only[Act.put,sA,sB,sC])
    refine wpAnyH_ready (rs:=[7]) (by kernel_rfl) (by simp) (AllReadyH.cons (by exact opAt rfl) (fun K hK=>?_) AllReadyH.nil)
    go_simp
    (go_at_call 66;refine(HRES.o _ _ _ _ (HU4.o.tt HP.o.drew) (Rp.x01 HRW.o ((Upd.refl (fun _=>False) _).drew))).mono ?_;rintro r w9 ⟨rfl,hu⟩;have HP9:=mK (HP.o.drew.tt hu);clear hu)
    refine hK.out _ _ (by first | exact HCEL.o _ HP9.o | exact HCEL.o _ HP.o.drew) (fun hHeld=>?_)
    clear hK K
    (try simp only[Act.put,sA,sB,sC])
    refine zH 8 ?_
    refine wpAnyH_done (by kernel_rfl) ?_ _
    go_wp2
    go_ret
    exact⟨by rw[HKS.o];rfl,HU4.o.tt HP9.o⟩
theorem May_in {l:List Tok} {n:Nat} {t:Int} {R:Spec × Ex} (h:SchR w cb x02 x07) (hr:tokR.row w F A l) (hb:l.length<=2048) (hlc:l.length<=c) (ok:(x0d l).2=0) (hn:n<=l.length) (hP:AtP l n R) (hw:∃ (j yt:Nat) (y:Tok),x04 l n=j/\l[j]?=some y/\y.k=1/\y.t=yt/\1<=yt/\x02[yt]?=some R) :
 Calls Tryz.prog 19 #[.pointer (some ⟨cb,0,none⟩),.slice A l.length c,.int .i64 n,.int .i64 t] w fun r w'=>r=.returned (.bool (x0n R.2 x07 (mayGo l n t (kidsL l (x04 l n)) false)))/\Pure w w':=by
 have HS:=mK h
 have HR:=mK hr
 have HKD0:=mK hP.kids
 have HCK:=mK (x3g (c:=c) h hr (by omega))
 rw[ok] at HCK
 have HAR:=mK (fun (W:World) (hu:Pure w W)=>x2g (c:=c) (at':=(n:Int)) (Rp.x01 hr hu) (by omega) hlc)
 obtain⟨j,yt,y,ha,hy,hy1,hyt,hyt1,hyR⟩:=hw
 have HKI:=mK (fun (W:World) (hu:Pure w W)=>Kids_in (c:=c) (Rp.x01 hr hu) (by omega) hy hy1)
 obtain⟨xR,eR⟩:=R
 obtain⟨z0,hy0⟩:∃ z0,x02[0]?=some z0:=⟨_,List.getElem?_eq_getElem (by rw[x2w];decide)⟩
 obtain⟨x0,e0⟩:=z0
 rw[ha] at HAR HKD0
 rw[ha]
 have HKL:=mK (show (kidsL l (j:Int)).length<=2048 by have:=kidsL_len l (j:Int);omega)
 obtain⟨b0,o0,cL,AG,cG,p0,p1,hcb,hle,hb0,hrow,hgrow⟩:=rule_row h
 have HG:=mK hgrow
 obtain⟨b0',o0',A1,c1,hA,_,_,d0,d1,d2,d3,d4,d5,d6,d7,d8,d9,hl1,hx1⟩:=rule_at hrow hy0
 simp only[Option.some.injEq,Addr.mk.injEq] at hA
 obtain⟨rfl,rfl,_⟩:=hA
 simp only[Nat.zero_mul,Nat.add_zero] at d0 d1 d2 d3 d4 d5 d6 d7 d8 d9
 obtain⟨b0',o0',A2,c2,hA,_,_,g0,g1,g2,g3,g4,g5,g6,g7,g8,g9,hl2,hx2⟩:=rule_at hrow hyR
 simp only[Option.some.injEq,Addr.mk.injEq] at hA
 obtain⟨rfl,rfl,_⟩:=hA
 have hytl:yt < 8:=by have:=(List.getElem?_eq_some_iff.1 hyR).1;rw[x2w] at this;exact this
 have hyti:(yt:Int) < 8:=by omega
 obtain⟨bt,ot,rfl,_,hbt,q0,q1,q2,q3⟩:=x0j hr hy
 rw[hyt] at q1
 have hjl:j < l.length:=(List.getElem?_eq_some_iff.1 hy).1
 have HMEM:=mK (List.mem_of_getElem? hyR)
 have HXR:=mK hx2
 have HBT:=mK (fun (bx:Nat) (_:bx=bx)=>trivial)
 have t1:decide ((n:Int) < 0)=false:=by simp
 have t2:decide ((n:Int) > (l.length:Int))=false:=by simp;omega
 have t3:decide ((l.length:Int) < (n:Int))=false:=by simp;omega
 have t4:decide (l.length < n)=false:=by simp;omega
 clear h hr ok hP hrow hgrow hx1 ha hy hy1 hyt hyR hx2 hy0
 go_enter Tryz.func19,Tryz.ntmps19
 go_wp2_with (first | (go_at_call 72;refine(HAR.o w1 HU1.o).mono ?_;rintro r w2 ⟨rfl,hu⟩;have HU2:=mK (HU1.o.tt hu);obtain⟨oc,of⟩:=Pure.olds HU2.o;have hz2:=HU2.o.size;clear hu) | (go_at_call 15;refine HCK.o.mono ?_;rintro r w1 ⟨rfl,hu⟩;have HU1:=mK hu;clear hu))
 obtain⟨W3,hW3⟩:∃ W3,W3=w2.alloc (.cells #[.string x0.name,.string x0.expr,.bool x0.leaf,.int .i64 x0.marks,.int .i64 x0.least,.int .i64 x0.most,.bool x0.lines,.int .i64 e0.k,.string e0.name,.slice A1 e0.l.length c1] 94):=⟨_,rfl⟩
 have HU3:=mK (show Pure w W3 from hW3 ▸ HU2.o.alloc _)
 have hW3b:W3.heap[w2.heap.size]?=some (.cells #[.string x0.name,.string x0.expr,.bool x0.leaf,.int .i64 x0.marks,.int .i64 x0.least,.int .i64 x0.most,.bool x0.lines,.int .i64 e0.k,.string e0.name,.slice A1 e0.l.length c1] 94 (0,0)):=hW3 ▸ heap_alloc_new w2 _
 have HW3B:=mK hW3b
 have hz3:w2.heap.size < W3.heap.size:=lB hW3b
 have HZ:=mK (And.intro hz2 hz3)
 have HSK7:As (∀ V,Pure W3 V->V.cell? ⟨cb,0,none⟩=some (.slice (some ⟨b0,o0,none⟩) 8 cL)/\V.cell? ⟨bt,ot+j * 4+1,none⟩=some (.int .i64 (yt:Int))/\V.cell? ⟨b0,o0+yt * 10,none⟩=some (.string xR.name)/\V.cell? ⟨b0,o0+yt * 10+1,none⟩=some (.string xR.expr)/\V.cell? ⟨b0,o0+yt * 10+2,none⟩=some (.bool xR.leaf)/\V.cell? ⟨b0,o0+yt * 10+3,none⟩=some (.int .i64 xR.marks)/\V.cell? ⟨b0,o0+yt * 10+4,none⟩=some (.int .i64 xR.least)/\V.cell? ⟨b0,o0+yt * 10+5,none⟩=some (.int .i64 xR.most)/\V.cell? ⟨b0,o0+yt * 10+6,none⟩=some (.bool xR.lines)/\V.cell? ⟨b0,o0+yt * 10+7,none⟩=some (.int .i64 eR.k)/\V.cell? ⟨b0,o0+yt * 10+8,none⟩=some (.string eR.name)/\V.cell? ⟨b0,o0+yt * 10+9,none⟩=some (.slice A2 eR.l.length c2)/\V.frozen? ⟨w2.heap.size,0,none⟩=false/\V.frozen? ⟨w2.heap.size,1,none⟩=false/\V.frozen? ⟨w2.heap.size,2,none⟩=false/\V.frozen? ⟨w2.heap.size,3,none⟩=false/\V.frozen? ⟨w2.heap.size,4,none⟩=false/\V.frozen? ⟨w2.heap.size,5,none⟩=false/\V.frozen? ⟨w2.heap.size,6,none⟩=false/\V.frozen? ⟨w2.heap.size,7,none⟩=false/\V.frozen? ⟨w2.heap.size,8,none⟩=false/\V.frozen? ⟨w2.heap.size,9,none⟩=false):=⟨fun V hu=>by
  have hu2:=HU3.o.tt hu
  have hf:∀ i,V.frozen? ⟨w2.heap.size,i,none⟩=false:=fun i=>(hu.frozen hz3 (fun h=>h)).trans (by simp[World.frozen?,hW3b])
  exact⟨(hu2.cell hcb (fun h=>h)).trans p0,(hu2.cell hbt (fun h=>h)).trans q1,(hu2.cell hb0 (fun h=>h)).trans g0,(hu2.cell hb0 (fun h=>h)).trans g1,(hu2.cell hb0 (fun h=>h)).trans g2,(hu2.cell hb0 (fun h=>h)).trans g3,(hu2.cell hb0 (fun h=>h)).trans g4,(hu2.cell hb0 (fun h=>h)).trans g5,(hu2.cell hb0 (fun h=>h)).trans g6,(hu2.cell hb0 (fun h=>h)).trans g7,(hu2.cell hb0 (fun h=>h)).trans g8,(hu2.cell hb0 (fun h=>h)).trans g9,hf 0,hf 1,hf 2,hf 3,hf 4,hf 5,hf 6,hf 7,hf 8,hf 9⟩⟩
 have HW3D:=mK (show W3.drew.heap[w2.heap.size]?=some (.cells #[.string x0.name,.string x0.expr,.bool x0.leaf,.int .i64 x0.marks,.int .i64 x0.least,.int .i64 x0.most,.bool x0.lines,.int .i64 e0.k,.string e0.name,.slice A1 e0.l.length c1] 94 (0,0)) from hW3b)
 rw[<- hW3]
 clear hW3 hW3b g0 g1 g2 g3 g4 g5 g6 g7 g8 g9 d0 d1 d2 d3 d4 d5 d6 d7 d8 d9
 refine x0m (P:=Tryz.prog) (fun V=>V.cell? ⟨cb,0,none⟩=some (.slice (some ⟨b0,o0,none⟩) 8 cL)/\V.cell? ⟨bt,ot+j * 4+1,none⟩=some (.int .i64 (yt:Int))/\V.cell? ⟨b0,o0+yt * 10,none⟩=some (.string xR.name)/\V.cell? ⟨b0,o0+yt * 10+1,none⟩=some (.string xR.expr)/\V.cell? ⟨b0,o0+yt * 10+2,none⟩=some (.bool xR.leaf)/\V.cell? ⟨b0,o0+yt * 10+3,none⟩=some (.int .i64 xR.marks)/\V.cell? ⟨b0,o0+yt * 10+4,none⟩=some (.int .i64 xR.least)/\V.cell? ⟨b0,o0+yt * 10+5,none⟩=some (.int .i64 xR.most)/\V.cell? ⟨b0,o0+yt * 10+6,none⟩=some (.bool xR.lines)/\V.cell? ⟨b0,o0+yt * 10+7,none⟩=some (.int .i64 eR.k)/\V.cell? ⟨b0,o0+yt * 10+8,none⟩=some (.string eR.name)/\V.cell? ⟨b0,o0+yt * 10+9,none⟩=some (.slice A2 eR.l.length c2)/\V.frozen? ⟨w2.heap.size,0,none⟩=false/\V.frozen? ⟨w2.heap.size,1,none⟩=false/\V.frozen? ⟨w2.heap.size,2,none⟩=false/\V.frozen? ⟨w2.heap.size,3,none⟩=false/\V.frozen? ⟨w2.heap.size,4,none⟩=false/\V.frozen? ⟨w2.heap.size,5,none⟩=false/\V.frozen? ⟨w2.heap.size,6,none⟩=false/\V.frozen? ⟨w2.heap.size,7,none⟩=false/\V.frozen? ⟨w2.heap.size,8,none⟩=false/\V.frozen? ⟨w2.heap.size,9,none⟩=false) 11 (by kernel_rfl) ?_ (fun hHeld=>?_)
 ·exact HSK7.o _ (rU.drew)
 refine zT 0 ?_
 refine zT 1 ?_
 refine zT 2 ?_
 refine zT 3 ?_
 refine zT 4 ?_
 refine zT 5 ?_
 (try simp only[Act.put,sA,sB,sC])
 refine zT 6 ?_
 refine zT 7 ?_
 refine zT 8 ?_
 refine zT 9 ?_
 (try simp only[Act.put,sA,sB,sC])
 refine zT 10 ?_
 refine oT 11 (fun K hK=>?_)
 refine step_store_row rfl _ _ _ rfl w2.heap.size #[.string xR.name,.string xR.expr,.bool xR.leaf,.int .i64 xR.marks,.int .i64 xR.least,.int .i64 xR.most,.bool xR.lines,.int .i64 eR.k,.string eR.name,.slice A2 eR.l.length c2] (by rfl) (by rfl) 94 _ HW3D.o (by kernel_rfl) (by rfl) (by first | kernel_rfl | simp[Value.oneCell']) ?_
 refine hK.out _ _ (fun h=>absurd rfl h) (fun hHeld=>?_)
 clear hK K
 (try simp only[Act.put,sA,sB,sC])
 refine x0l (by kernel_rfl) ?_ _
 obtain⟨W5,hW5⟩:∃ W5,W5=W3.drew.setRow w2.heap.size #[.string xR.name,.string xR.expr,.bool xR.leaf,.int .i64 xR.marks,.int .i64 xR.least,.int .i64 xR.most,.bool xR.lines,.int .i64 eR.k,.string eR.name,.slice A2 eR.l.length c2]:=⟨_,rfl⟩
 have HU5:=mK (show Pure w W5 from hW5 ▸ HU3.o.drew.trans (setRow_upd W3.drew w2.heap.size _) (fun q hq h=>by have:=HZ.o.1;omega))
 have HB5:=mK (show W5.heap[w2.heap.size]?=some (.cells #[.string xR.name,.string xR.expr,.bool xR.leaf,.int .i64 xR.marks,.int .i64 xR.least,.int .i64 xR.most,.bool xR.lines,.int .i64 eR.k,.string eR.name,.slice A2 eR.l.length c2] 94 (0,0)) from hW5 ▸ setRow_heap W3.drew w2.heap.size _ _ _ _ HW3D.o)
 rw[<- hW5]
 clear hW5
 go_wp2_with (go_at_call 76;refine(HKI.o W5 HU5.o).mono ?_;rintro r w4 ⟨v4,rfl,ho,hu⟩;have HO4:=mK ho;have HP4:=mK hu;have HU4:=mK (HU5.o.tt hu);obtain⟨A4,c4,rfl,hl4,hr4⟩:=Rp.x0c ho;have HR4:=mK hr4;clear hu ho hr4;apply As.o)
 refine⟨?_⟩
 have HM:=mK (show (xR,eR) ∈ x02 from HMEM.o)
 have HB4:=mK ((HP4.o.block w2.heap.size (lB HB5.o) (fun h=>h)).trans HB5.o)
 have HCEL:As (∀ V,Pure w4 V->V.cell? ⟨w2.heap.size,7,none⟩=some (.int .i64 eR.k)/\V.cell? ⟨w2.heap.size,8,none⟩=some (.string eR.name)/\V.cell? ⟨w2.heap.size,9,none⟩=some (.slice A2 eR.l.length c2)/\V.cell? ⟨cb,1,none⟩=some (.slice AG x07.length cG)):=⟨fun V hu=>by
  have hb:=(hu.block w2.heap.size (lB HB4.o) (fun h=>h)).trans HB4.o
  refine⟨?_,?_,?_,((HU4.o.tt hu).cell hcb (fun h=>h)).trans p1⟩ <;> (unfold World.cell?;simp only[hb];rfl)⟩
 have HACC:=mK (fun (V:World) (hu:Pure w V) (Aw:Option Addr) (cw:Nat) (wd:List Int) (Fw:Nat->Prop) (hw:intRS.row V Fw Aw wd) (hwl:wd.length<=1048576)=>acc_calls (c:=c2) (d:=cG) (cw:=cw) (SchR.made x3y HG.o hu HM.o (Rp.x1d (fun k hk hl=>⟨hl,Nat.lt_of_lt_of_le hl hu.size,hu.block k hl (fun h=>h)⟩) HXR.o)) hw (by omega))
 have hkl4:=HKL.o
 generalize hks:kidsL l (j:Int)=ks at *
 have HKS:=mK hks
 clear hks HKI HAR HCK HB5 HW3B HP4 HU3 HU2 HU1
 go_wp2
 go_loopg [13,14,61] ks.length (fun gg vv pv kv wr=>∃ (k:Nat) (put:Bool),k+gg=ks.length/\kv=.int .i64 k/\pv=.bool put/\As (∃ word:List Int,intRS.own 3 wr (fun q=>w4.heap.size<=q) vv word/\word ++ mayGo l n t (ks.drop k) put=mayGo l n t ks false/\word.length<=2 * k/\Pure w4 wr))
 case atStart=>exact⟨0,false,by omega,rfl,rfl,⟨[],Rp.x0v _ _ _ _,rfl,by simp,Upd.refl _ _⟩⟩
 case round=>
  obtain⟨k,put,hk,rfl,rfl,HC⟩:=hrel
  obtain⟨word,hown,hgo,hwl,hp⟩:=HC.o
  have HO:=mK hown
  have HP:=mK hp
  have HWL:=mK hwl
  by_cases hlt:k < ks.length
  ·obtain⟨p,hp'⟩:∃ p,ks[k]?=some p:=⟨_,List.getElem?_eq_getElem hlt⟩
   obtain⟨i,x,rfl,hx,_⟩:=HKD0.o p (List.mem_of_getElem? hp')
   obtain⟨kb,ko,kcs,hA4,_,hkb,hkr,hkc⟩:=Rp.x42 (Rp.x01 HR4.o HP.o) hp'
   have hkr2:kcs=[.int .i64 (i:Int)]:=hkr
   subst hkr2
   have f0:=hkc 0 _ rfl
   rw[show intRS.sz=1 from rfl,Nat.mul_one,Nat.add_zero] at f0
   subst hA4
   obtain⟨bx,ox,hAx,_,hbx0,x0',x1',x2',x3'⟩:=x0j HR.o hx
   simp only[Option.some.injEq,Addr.mk.injEq] at hAx
   obtain⟨rfl,rfl,_⟩:=hAx
   have HUW:=mK (HU4.o.tt HP.o)
   replace x1':=(HUW.o.cell hbx0 (fun h=>h)).trans x1'
   have hbx:bt < wr.heap.size:=Nat.lt_of_lt_of_le hbx0 HUW.o.size
   have HBX:=mK hbx0
   have hil:i < l.length:=(List.getElem?_eq_some_iff.1 hx).1
   have htx:tyAt l (i:Int)=x.t:=by unfold tyAt;rw[Int.toNat_natCast,hx];rfl
   obtain⟨g1,rfl⟩:=sC1 (by omega:0 < gk)
   rw[drop_cons hp',mayGo,htx] at hgo
   have HK:=mK hk
   have hwk:IntKind.i64.wrap ((k:Int)+1)=(k:Int)+1:=IntWalk.i64_in _ (by omega)
   clear hown hp hk hp' hx hkc hkr htx HC hwl x0' x2' x3'
   by_cases hc:(n:Int)<=(i:Int)/\put=false
   ·obtain⟨hc1,rfl⟩:=hc
    rw[if_pos ⟨hc1,rfl⟩] at hgo
    have HE:=mK (show (word ++ [t]) ++ [x.t] ++ mayGo l n t (ks.drop (k+1)) true=mayGo l n t ks false by rw[<- hgo];simp)
    have u1:decide ((i:Int) >= (n:Int))=true:=by simpa using hc1
    have u2:decide ((n:Int)<=(i:Int))=true:=by simpa using hc1
    have u3:decide (n<=i)=true:=by simpa using hc1
    clear hgo hc1
    go_wp2_with (first | (at_builtin;refine Rp.x0o intRS HO1.o (x.t) [.int .i64 (x.t)] rfl (Fp:=fun _=>False) (G:=fun q=>w4.heap.size<=q) (fun _ h=>h.elim) (fun _ h _=>h) (fun q hq=>by have:=HP1.o.size;omega) rfl _ _ 83 _ 8 rfl Tryz.underlying83 x1n rfl (by decide) (by decide) rfl (by first | rfl | simp[Act.eval]) (by have:=HWL.o;(try simp only[List.length_append,List.length_singleton]);omega) ?_;intro v2 w6 ho1 hu1;have HO2:=mK ho1;have HP2:=mK (HP1.o.trans hu1 (fun q hq h=>by have:=Rp.x03 HO1.o q h;omega));clear ho1 hu1) | (at_builtin;refine Rp.x0o intRS HO.o (t) [.int .i64 (t)] rfl (Fp:=fun _=>False) (G:=fun q=>w4.heap.size<=q) (fun _ h=>h.elim) (fun _ h _=>h) (fun q hq=>by have:=HP.o.size;omega) rfl _ _ 83 _ 8 rfl Tryz.underlying83 x1n rfl (by decide) (by decide) rfl (by first | rfl | simp[Act.eval]) (by have:=HWL.o;omega) ?_;intro v1 w5 ho1 hu1;have HO1:=mK ho1;have HP1:=mK (HP.o.trans hu1 (fun q hq h=>by have:=Rp.x03 HO.o q h;omega));have y1:=(hu1.cell hbx (fun e=>by have:=(Rp.x03 HO.o _ e).1;have:=HU4.o.size;have:=HBX.o;omega)).trans x1';clear ho1 hu1))
    go_roundg g1
    case measure=>omega
    case rel=>exact⟨k+1,true,by have:=HK.o;omega,by go_num,rfl,⟨_,HO2.o,HE.o,by have:=HWL.o;simp;omega,HP2.o⟩⟩
   ·rw[if_neg hc] at hgo
    have HE:=mK (show word ++ [x.t] ++ mayGo l n t (ks.drop (k+1)) put=mayGo l n t ks false by rw[<- hgo];simp)
    have HC2:=mK hc
    clear hgo hc
    cases cb1:decide ((n:Int)<=(i:Int)) <;> cases put
    all_goals first
     | (exfalso;exact HC2.o ⟨of_decide_eq_true cb1,rfl⟩)
     | skip
    all_goals
     have u1:decide ((i:Int) >= (n:Int))=decide ((n:Int)<=(i:Int)):=rfl
     rw[cb1] at u1
     have u3:decide (n<=i)=decide ((n:Int)<=(i:Int)):=by simp
     rw[cb1] at u3
     go_wp2_with (at_builtin;refine Rp.x0o intRS HO.o (x.t) [.int .i64 (x.t)] rfl (Fp:=fun _=>False) (G:=fun q=>w4.heap.size<=q) (fun _ h=>h.elim) (fun _ h _=>h) (fun q hq=>by have:=HP.o.size;omega) rfl _ _ 83 _ 8 rfl Tryz.underlying83 x1n rfl (by decide) (by decide) rfl (by first | rfl | simp[Act.eval]) (by have:=HWL.o;omega) ?_;intro v2 w6 ho1 hu1;have HO2:=mK ho1;have HP2:=mK (HP.o.trans hu1 (fun q hq h=>by have:=Rp.x03 HO.o q h;omega));clear ho1 hu1)
     go_roundg g1
     case measure=>omega
     case rel=>exact⟨k+1,_,by have:=HK.o;omega,by go_num,rfl,⟨_,HO2.o,HE.o,by have:=HWL.o;simp;omega,HP2.o⟩⟩
  ·obtain rfl:k=ks.length:=by omega
   rw[List.drop_length,mayGo] at hgo
   have hwk:word.length<=4096:=by omega
   clear hown hk hp HC hwl HKD0 HR4 HO4
   cases put
   ·have HE:=mK (show word ++ [t]=mayGo l n t ks false by rw[<- hgo];simp)
    clear hgo
    have HRES:As (∀ (V:World) (Aw:Option Addr) (cw:Nat) (Fw:Nat->Prop),Pure w V->intRS.row V Fw Aw (word ++ [t])->Calls Tryz.prog 66 #[.agg #[.int .i64 eR.k,.string eR.name,.slice A2 eR.l.length c2],.slice AG x07.length cG,.slice Aw (word.length+1) cw] V fun r w'=>r=.returned (.bool (x0n eR x07 (mayGo l n t ks false)))/\Pure V w'):=⟨fun V Aw cw Fw hu hrw=>by have h9:=HACC.o V hu Aw cw _ Fw hrw (by simp;omega);rw[List.length_append,List.length_singleton,HE.o] at h9;exact h9⟩
    clear HACC HE
    go_wp2_with (at_builtin;refine Rp.x0o intRS HO.o (t) [.int .i64 (t)] rfl (Fp:=fun _=>False) (G:=fun q=>w4.heap.size<=q) (fun _ h=>h.elim) (fun _ h _=>h) (fun q hq=>by have:=HP.o.size;omega) rfl _ _ 83 _ 8 rfl Tryz.underlying83 x1n rfl (by decide) (by decide) rfl (by first | rfl | simp[Act.eval]) (by have:=HWL.o;omega) ?_;intro v2 w6 ho1 hu1;have HO2:=mK ho1;have HP2:=mK (HP.o.trans hu1 (fun q hq h=>by have:=Rp.x03 HO.o q h;omega));obtain⟨A6,c6,rfl,hl6,hr6⟩:=Rp.x0c ho1;have HR6:=mK hr6;clear ho1 hu1 hl6 hr6)
    try rw[List.length_append,List.length_singleton]
    have HCD:=HCEL.o _ HP2.o
    have HRW:=HR6
    refine wp_region_held_drew (S:=(fun V=>V.cell? ⟨w2.heap.size,7,none⟩=some (.int .i64 eR.k)/\V.cell? ⟨w2.heap.size,8,none⟩=some (.string eR.name)/\V.cell? ⟨w2.heap.size,9,none⟩=some (.slice A2 eR.l.length c2)/\V.cell? ⟨cb,1,none⟩=some (.slice AG x07.length cG))) (by kernel_rfl) ?_ (fun hHeld=>?_)
    ·first | exact HCEL.o _ HP9.o | exact HCEL.o _ HP2.o.drew
    refine zH 0 ?_
    refine zH 1 ?_
    refine zH 2 ?_
    refine zH 3 ?_
    refine zH 4 ?_
    refine zH 5 ?_
    (try simp only[Act.put,sA,sB,sC])
    refine zH 6 ?_
    refine wpAnyH_ready (rs:=[7]) (by kernel_rfl) (by simp) (AllReadyH.cons (by exact opAt rfl) (fun K hK=>?_) AllReadyH.nil)
    go_simp
    (go_at_call 66;refine(HRES.o _ _ _ _ (HU4.o.tt HP2.o.drew) (Rp.x01 HRW.o ((Upd.refl (fun _=>False) _).drew))).mono ?_;rintro r w9 ⟨rfl,hu⟩;have HP9:=mK (HP2.o.drew.tt hu);clear hu)
    refine hK.out _ _ (by first | exact HCEL.o _ HP9.o | exact HCEL.o _ HP2.o.drew) (fun hHeld=>?_)
    clear hK K
    (try simp only[Act.put,sA,sB,sC])
    refine zH 8 ?_
    refine wpAnyH_done (by kernel_rfl) ?_ _
    go_wp2
    go_ret
    exact⟨by rw[HKS.o];rfl,HU4.o.tt HP9.o⟩
   ·have HE:=mK (show word=mayGo l n t ks false by rw[<- hgo];simp)
    clear hgo
    obtain⟨A6,c6,rfl,hl6,hr6⟩:=Rp.x0c HO.o
    have HRW:=mK hr6
    have HRES:As (∀ (V:World) (Aw:Option Addr) (cw:Nat) (Fw:Nat->Prop),Pure w V->intRS.row V Fw Aw word->Calls Tryz.prog 66 #[.agg #[.int .i64 eR.k,.string eR.name,.slice A2 eR.l.length c2],.slice AG x07.length cG,.slice Aw word.length cw] V fun r w'=>r=.returned (.bool (x0n eR x07 (mayGo l n t ks false)))/\Pure V w'):=⟨fun V Aw cw Fw hu hrw=>by have h9:=HACC.o V hu Aw cw _ Fw hrw (by omega);rw[<- HE.o];exact h9⟩
    clear HACC HE hr6
    go_wp2
    refine wp_region_held_drew (S:=(fun V=>V.cell? ⟨w2.heap.size,7,none⟩=some (.int .i64 eR.k)/\V.cell? ⟨w2.heap.size,8,none⟩=some (.string eR.name)/\V.cell? ⟨w2.heap.size,9,none⟩=some (.slice A2 eR.l.length c2)/\V.cell? ⟨cb,1,none⟩=some (.slice AG x07.length cG))) (by kernel_rfl) ?_ (fun hHeld=>?_)
    ·first | exact HCEL.o _ HP9.o | exact HCEL.o _ HP.o.drew
    refine zH 0 ?_
    refine zH 1 ?_
    refine zH 2 ?_
    refine zH 3 ?_
    refine zH 4 ?_
    (try simp only[Act.put,sA,sB,sC])
    refine zH 5 ?_
    refine zH 6 ?_
    refine wpAnyH_ready (rs:=[7]) (by kernel_rfl) (by simp) (AllReadyH.cons (by exact opAt rfl) (fun K hK=>?_) AllReadyH.nil)
    go_simp
    (go_at_call 66;refine(HRES.o _ _ _ _ (HU4.o.tt HP.o.drew) (Rp.x01 HRW.o ((Upd.refl (fun _=>False) _).drew))).mono ?_;rintro r w9 ⟨rfl,hu⟩;have HP9:=mK (HP.o.drew.tt hu);clear hu)
    refine hK.out _ _ (by first | exact HCEL.o _ HP9.o | exact HCEL.o _ HP.o.drew) (fun hHeld=>?_)
    clear hK K
    (try simp only[Act.put,sA,sB,sC])
    refine zH 8 ?_
    refine wpAnyH_done (by kernel_rfl) ?_ _
    go_wp2
    go_ret
    exact⟨by rw[HKS.o];rfl,HU4.o.tt HP9.o⟩
theorem May_ok {l:List Tok} {n:Nat} {t:Int} {R:Spec × Ex} (h:SchR w cb x02 x07) (hr:tokR.row w F A l) (hb:l.length<=2048) (hlc:l.length<=c) (ok:(x0d l).2=0) (hn:n<=l.length) (hP:AtP l n R)  :
 Calls Tryz.prog 19 #[.pointer (some ⟨cb,0,none⟩),.slice A l.length c,.int .i64 n,.int .i64 t] w fun r w'=>r=.returned (.bool (x0n R.2 x07 (mayGo l n t (kidsL l (x04 l n)) false)))/\Pure w w':=by
 rcases hP.whole with hw | hw
 ·exact May_whole h hr hb hlc ok hn hP hw
 ·exact May_in h hr hb hlc ok hn hP hw
def x2f (l:List Tok):Nat->Int->List Int
 | 0,_=>[]
 | n+1,i=>if i < 0 then [] else (if tyAt l i=6 then [i] else []) ++ x2f l n (x04 l i)
/-- The items that are open at a place, the innermost first. -/
def x28 (l:List Tok) (p:Int):List Int:=x2f l (l.length+1) (x04 l p)
theorem items_stk {l:List Tok} (hd:dpt 0 l=some 0):∀ (s:List Int) (n fuel:Nat),n<=l.length->stkGo 0 (l.take n) []=s.reverse->s.length < fuel->x2f l fuel (x04 l n)=s.filter (fun p=>decide (tyAt l p=6)):=by
 intro s
 induction s with
 | nil=>
   intro n fuel hn hs hf
   obtain⟨f,rfl⟩:∃ f,fuel=f+1:=⟨fuel - 1,by simp at hf;omega⟩
   rw[x45 hn,hs]
   rfl
 | cons p s ih=>
   intro n fuel hn hs hf
   obtain⟨f,rfl⟩:∃ f,fuel=f+1:=⟨fuel - 1,by simp at hf;omega⟩
   rw[List.reverse_cons] at hs
   obtain⟨i,o,B,rfl,hin,hio,ho,_,_,hsi⟩:=x5t hd n hn _ _ hs
   have ha:x04 l n=(i:Int):=by
    rw[x45 hn,hs]
    simp
   rw[ha,x2f,if_neg (by omega),ih i f (by omega) hsi (by simp at hf;omega),List.filter_cons]
   by_cases h6:tyAt l i=6
   ·simp[h6]
   ·simp[h6]
theorem items_all {l:List Tok} (hd:dpt 0 l=some 0) {n:Nat} (hn:n<=l.length):x28 l n=(stkGo 0 (l.take n) []).reverse.filter (fun p=>decide (tyAt l p=6)):=by
 refine items_stk hd _ n _ hn (by simp) ?_
 rw[List.length_reverse]
 have:=stkGo_len (l.take n) 0 []
 rw[List.length_take] at this
 simp at this
 omega
/-- The innermost item: what is open within it is none. -/
theorem item_piece {l:List Tok} (hd:dpt 0 l=some 0):∀ (s:List Int) (n:Nat),n<=l.length->stkGo 0 (l.take n) []=s.reverse->∀ (p:Int) (r:List Int),s.filter (fun p=>decide (tyAt l p=6))=p :: r ->
 ∃ (x:Nat) (o:Tok) (M:List Tok) (m:Nat),p=x/\x < n/\l[x]?=some o/\o.k=1/\o.t=6/\l.take n=l.take x ++ o :: M/\dpt 0 M=some m/\∀ q ∈ stkGo (x+1) M [],tyAt l q ≠ 6:=by
 intro s
 induction s with
 | nil=>intro n hn hs p r h;cases h
 | cons q s ih=>
   intro n hn hs p r h
   rw[List.reverse_cons] at hs
   obtain⟨i,o,B,rfl,hin,hio,ho,htk,hB,hsi⟩:=x5t hd n hn _ _ hs
   have hty:tyAt l i=o.t:=by simp[tyAt,hio]
   rw[List.filter_cons] at h
   by_cases h6:tyAt l i=6
   ·rw[if_pos (by simpa using h6)] at h
    simp only[List.cons.injEq] at h
    refine⟨i,o,B,0,h.1.symm,hin,hio,ho,by omega,htk,hB,fun q hq=>?_⟩
    have:=(dpt_stk B 0 0 hB (i+1) [] rfl []).2
    rw[List.eq_nil_of_length_eq_zero this] at hq
    cases hq
   ·rw[if_neg (by simpa using h6)] at h
    obtain⟨x,ox,M,m,rfl,hxi,hx,ho1,ho6,hpi,hM,hq⟩:=ih i (by omega) hsi p r h
    have hbal:=(dpt_stk B 0 0 hB (i+1) [] rfl []).2
    refine⟨x,ox,M ++ o :: B,m+1,rfl,by omega,hx,ho1,ho6,by rw[htk,hpi];simp,?_,fun q hqm=>?_⟩
    ·rw[dpt_app,hM]
     simp only[Option.bind_some]
     rw[dpt,if_pos ho]
     have:=dpt_up B 0 0 (m+1) hB
     simpa using this
    ·have hlm:x+1+M.length=i:=by
      have:=congrArg List.length hpi
      rw[List.length_append,List.length_take,List.length_take,List.length_cons] at this
      have hil:=(List.getElem?_eq_some_iff.1 hio).1
      have hxl:=(List.getElem?_eq_some_iff.1 hx).1
      omega
     rw[stkGo_app,hlm] at hqm
     simp only[stkGo,x1b,if_pos ho] at hqm
     have e1:=(dpt_stk B 0 0 hB (i+1) [] rfl (stkGo (x+1) M [] ++ [(i:Int)])).1
     rw[List.append_nil,List.eq_nil_of_length_eq_zero hbal,List.append_nil] at e1
     rw[e1] at hqm
     rcases List.mem_append.1 hqm with h1 | h1
     ·exact hq q h1
     ·rw[List.mem_singleton.1 h1];exact h6
theorem house_parent {l:List Tok} (ok:(x0d l).2=0) {x:Nat} {o:Tok} (hx:l[x]?=some o) (h1:o.k=1) :
 (stkGo 0 (l.take x) []=[]/\o.t ∈ tyR (x0r x02 0))\/∃ (s:List Int) (j yt:Nat) (y:Tok),stkGo 0 (l.take x) []=s ++ [(j:Int)]/\l[j]?=some y/\y.k=1/\y.t=yt/\1<=yt/\yt < 8/\o.t ∈ tyR (x0r x02 (yt:Int)):=by
 have hxl:=(List.getElem?_eq_some_iff.1 hx).1
 obtain⟨top,below,r1,⟨t,r2,_⟩,hR,hM⟩:=at_level ok (Nat.le_of_lt hxl)
 rw[stack_at (by omega)] at hM
 unfold hRun at r2
 rw[drop_cons hx,x1f,if_neg (by omega)] at r2
 split at r2
 ·rename_i hs
  have hin:=((x61 hR.wd.2.1 o).1 hs).2
  generalize stkGo 0 (l.take x) []=s at hM
  cases hM with
  | nil h=>exact .inl ⟨rfl,by rw[<- h];exact hin⟩
  | @snoc s j yt y t p q e1 e2 e3 e4 e5 e6=>
    refine .inr ⟨s,j,yt,y,rfl,e1,e2,e3,e4,?_,?_⟩
    ·have:=(List.getElem?_eq_some_iff.1 e5).1
     rw[x2w] at this
     exact this
    ·have:x0r x02 (yt:Int)=top.1:=by
      unfold x0r
      rw[Int.toNat_natCast,e5]
      rfl
     rw[this]
     exact hin
 ·cases r2
theorem ty_item:((List.range 8).all fun i=>!(decide ((6:Int) ∈ tyR (x0r x02 (i:Int)))) || decide (i=5))=true:=by kernel_rfl
/-- What an item stands in is a list; what stands in a list is an item. -/
theorem item_list {l:List Tok} (ok:(x0d l).2=0) {x:Nat} {o:Tok} (hx:l[x]?=some o) (h1:o.k=1) (h6:o.t=6):∃ (s:List Int) (j:Nat) (y:Tok),stkGo 0 (l.take x) []=s ++ [(j:Int)]/\l[j]?=some y/\y.k=1/\y.t=5:=by
 rcases house_parent ok hx h1 with ⟨_,h⟩ | ⟨s,j,yt,y,e1,e2,e3,e4,e5,e6,h⟩
 ·rw[h6] at h
  have:tyR (x0r x02 0)=[1,2,3,4,5,7]:=by kernel_rfl
  rw[this] at h
  exact absurd h (by decide)
 ·have:=List.all_eq_true.1 ty_item yt (List.mem_range.2 e6)
  rw[h6] at h
  simp only[Bool.or_eq_true,Bool.not_eq_true',decide_eq_false_iff_not,decide_eq_true_eq] at this
  rcases this with h' | h'
  ·exact absurd h h'
  ·exact⟨s,j,y,e1,e2,e3,by omega⟩
theorem house_dpt {l:List Tok} (ok:(x0d l).2=0):dpt 0 l=some 0:=dpt_fc l 0 0 ((x4w l).1 ok).2.1
/-- No item is opened in a piece and left open. -/
def noItem (M:List Tok):Prop:=∀ q ∈ stkGo 0 M [],tyAt M q ≠ 6
theorem stk_place (M:List Tok) (k:Nat):stkGo k M []=(stkGo 0 M []).map (·+(k:Int)):=by
 have:=stk_shift M 0 k []
 simpa using this
theorem ty_mid {P M Z:List Tok} {i:Nat} (hi:i < M.length):tyAt (P ++ (M ++ Z)) ((i:Int)+(P.length:Int))=tyAt M (i:Int):=by
 unfold tyAt
 have e:((i:Int)+(P.length:Int)).toNat=P.length+i:=by omega
 rw[e,List.getElem?_append_right (by omega),show P.length+i - P.length=i by omega,List.getElem?_append_left hi]
 rfl
theorem noItem_of {P M Z:List Tok} (h:∀ q ∈ stkGo P.length M [],tyAt (P ++ (M ++ Z)) q ≠ 6):noItem M:=by
 intro q hq
 rcases stkGo_mem M 0 [] q hq with h1 | ⟨j,x,rfl,hx,_⟩
 ·cases h1
 ·have hj:=(List.getElem?_eq_some_iff.1 hx).1
  have:=h ((j:Int)+(P.length:Int)) (by
   rw[stk_place]
   exact List.mem_map.2 ⟨_,hq,by simp⟩)
  rw[ty_mid hj] at this
  simpa using this
def nOut (l:List Tok) (x li:Nat):StepD:=
 if x=li+1 then arnd li (partL l x+3) x (partL l x+1) 1 [shutT] else arnd x (partL l x+3) x (partL l x+1) 2 [shutT,shutT]
def outOk (l:List Tok) (x:Nat):Prop:=0<=x04 l x/\0<=x04 l (x04 l x)/\tyAt l (x04 l (x04 l x))=6/\partL l (x04 l x).toNat=partL l x+1/\partL l (x04 l (x04 l x)).toNat=partL l x+2
/-- What stands around, laid out. -/
structure Lay (l Q Bq Bp B R:List Tok) (zq yp o c:Tok):Prop where
 eq:l=Q ++ (zq :: (Bq ++ (yp :: (Bp ++ (o :: (B ++ (c :: R)))))))
 kq:zq.k=1
 kp:yp.k=1
 ko:o.k=1
 kc:c.k=2
 dq:dpt 0 Bq=some 0
 dp:dpt 0 Bp=some 0
 db:dpt 0 B=some 0
section
variable {l Q Bq Bp B R:List Tok} {zq yp o c:Tok}
theorem around_in {P B Z:List Tok} {y:Tok} (h1:y.k=1) (hB:dpt 0 B=some 0):x04 (P ++ (y :: (B ++ Z))) ((P.length+1+B.length:Nat):Int)=(P.length:Int):=by
 rw[x45 (by simp;omega)]
 have htk:(P ++ (y :: (B ++ Z))).take (P.length+1+B.length)=P ++ y :: B:=by
  rw[show P ++ (y :: (B ++ Z))=(P ++ y :: B) ++ Z by simp,List.take_left' (by simp;omega)]
 rw[htk,stkGo_app]
 simp only[stkGo,x1b,if_pos h1,Nat.zero_add]
 have e1:=dpt_stk B 0 0 hB (P.length+1) [] rfl (stkGo 0 P [] ++ [(P.length:Int)])
 rw[List.append_nil,List.eq_nil_of_length_eq_zero e1.2,List.append_nil] at e1
 rw[e1.1]
 simp
theorem part_in {P B Z:List Tok} {y c:Tok} (h1:y.k=1) (hc:c.k=2) (hB:dpt 0 B=some 0):partL (P ++ (y :: (B ++ (c :: Z)))) P.length=(P.length:Int)+1+B.length:=
 piece_part (by rw[List.drop_left]) h1 hc hB
theorem dpt_seg {o c:Tok} {B:List Tok} (ko:o.k=1) (kc:c.k=2) (db:dpt 0 B=some 0):dpt 0 (o :: (B ++ [c]))=some 0:=by
 rw[dpt,if_pos ko,dpt_app]
 have:=dpt_up B 0 0 1 db
 simp only[Nat.zero_add] at this ⊢
 rw[this]
 simp only[Option.bind_some]
 rw[dpt,if_neg (by omega),if_pos kc,if_neg (by decide)]
 rfl
theorem dpt_two {a b:List Tok} (ha:dpt 0 a=some 0) (hb:dpt 0 b=some 0):dpt 0 (a ++ b)=some 0:=by rw[dpt_app,ha];exact hb
/-- Where it all is. -/
theorem Lay.places (h:Lay l Q Bq Bp B R zq yp o c):x04 l ((Q.length+1+Bq.length+1+Bp.length:Nat):Int)=((Q.length+1+Bq.length:Nat):Int)/\x04 l ((Q.length+1+Bq.length:Nat):Int)=(Q.length:Int) /\
 tyAt l (Q.length:Int)=zq.t/\partL l (Q.length+1+Bq.length+1+Bp.length)=((Q.length+1+Bq.length+1+Bp.length+1+B.length:Nat):Int):=by
 have hl:=h.eq
 refine⟨?_,?_,?_,?_⟩
 ·have:=around_in (P:=Q ++ zq :: Bq) (y:=yp) (B:=Bp) (Z:=o :: (B ++ (c :: R))) h.kp h.dp
  rw[hl]
  simp only[List.append_assoc,List.cons_append,List.length_append,List.length_cons] at this
  rw[show Q.length+1+Bq.length+1+Bp.length=Q.length+(Bq.length+1)+1+Bp.length by omega,this]
  omega
 ·rw[hl]
  exact around_in (P:=Q) (y:=zq) (B:=Bq) h.kq h.dq
 ·rw[hl]
  simp[tyAt]
 ·have:=part_in (P:=Q ++ zq :: (Bq ++ yp :: Bp)) (y:=o) (B:=B) (c:=c) (Z:=R) h.ko h.kc h.db
  rw[hl]
  simp only[List.append_assoc,List.cons_append,List.length_append,List.length_cons] at this
  rw[show Q.length+1+Bq.length+1+Bp.length=Q.length+(Bq.length+(Bp.length+1)+1) by omega,this]
  omega
/-- Two ends behind it: what is around ends there. -/
theorem Lay.ends {c1 c2:Tok} {R':List Tok} (h:Lay l Q Bq Bp B (c1 :: c2 :: R') zq yp o c) (k1:c1.k=2) (k2:c2.k=2):outOk l (Q.length+1+Bq.length+1+Bp.length) ↔ zq.t=6:=by
 obtain⟨e1,e2,e3,e4⟩:=h.places
 have seg:=dpt_seg h.ko h.kc h.db
 have p1:partL l (Q.length+1+Bq.length)=partL l (Q.length+1+Bq.length+1+Bp.length)+1:=by
  have:=part_in (P:=Q ++ zq :: Bq) (y:=yp) (B:=Bp ++ o :: (B ++ [c])) (c:=c1) (Z:=c2 :: R') h.kp k1 (dpt_two h.dp seg)
  have hl:=h.eq
  rw[e4,hl]
  simp only[List.append_assoc,List.cons_append,List.nil_append,List.length_append,List.length_cons,List.length_nil] at this
  rw[show Q.length+1+Bq.length=Q.length+(Bq.length+1) by omega,this]
  omega
 have p2:partL l Q.length=partL l (Q.length+1+Bq.length+1+Bp.length)+2:=by
  have in2:dpt 0 (yp :: ((Bp ++ o :: (B ++ [c])) ++ [c1]))=some 0:=dpt_seg h.kp k1 (dpt_two h.dp seg)
  have:=part_in (P:=Q) (y:=zq) (B:=Bq ++ (yp :: ((Bp ++ o :: (B ++ [c])) ++ [c1]))) (c:=c2) (Z:=R') h.kq k2 (dpt_two h.dq in2)
  have hl:=h.eq
  rw[e4,hl]
  simp only[List.append_assoc,List.cons_append,List.nil_append,List.length_append,List.length_cons,List.length_nil] at this
  rw[this]
  omega
 unfold outOk
 rw[e1,e2,e3,Int.toNat_natCast,Int.toNat_natCast,p1,p2]
 constructor
 ·exact fun h=>h.2.2.1
 ·exact fun h=>⟨by omega,by omega,h,rfl,rfl⟩
end
/-- A document with an item open at a place. -/
theorem item_lay {l:List Tok} (ok:(x0d l).2=0) {n:Nat} (hn:n<=l.length) {p:Int} {r:List Int} (hi:x28 l n=p :: r) :
 ∃ (x j:Nat) (o y:Tok) (s:List Int) (M:List Tok) (m:Nat),p=x/\x < n/\l[x]?=some o/\o.k=1/\o.t=6/\l.take n=l.take x ++ o :: M/\dpt 0 M=some m/\noItem M /\
  stkGo 0 (l.take x) []=s ++ [(j:Int)]/\x04 l x=j/\l[j]?=some y/\y.k=1/\y.t=5:=by
 have hd:=house_dpt ok
 rw[items_all hd hn] at hi
 obtain⟨x,o,M,m,rfl,hxn,hx,ho,h6,htk,hM,hq⟩:=item_piece hd _ n hn (by simp) p r hi
 obtain⟨s,j,y,e1,e2,e3,e4⟩:=item_list ok hx ho h6
 have hxl:=(List.getElem?_eq_some_iff.1 hx).1
 refine⟨x,j,o,y,s,M,m,rfl,hxn,hx,ho,h6,htk,hM,?_,e1,?_,e2,e3,e4⟩
 ·have hl:l=(l.take x ++ [o]) ++ (M ++ l.drop n):=by
   conv=>lhs;rw[<- List.take_append_drop n l,htk]
   simp
  have hlen:(l.take x ++ [o]).length=x+1:=by simp;omega
  refine noItem_of (P:=l.take x ++ [o]) (Z:=l.drop n) ?_
  rw[hlen,<- hl]
  exact hq
 ·rw[x45 (by omega),e1]
  simp
/-- Does what is ahead of the item end with a list like its own? -/
def indA (l:List Tok) (x li:Nat):Prop:=2<=x/\l[x - 2]?=some shutT/\l[(x04 l ((x - 2:Nat):Int)).toNat]?=l[li]?
instance (l:List Tok) (x li:Nat):Decidable (indA l x li):=by unfold indA;infer_instance
def nInd (l:List Tok) (x li:Nat):StepD:=
 if indA l x li then arnd ((x:Int) - 2) (partL l x+1) x (partL l x+1) 0 [shutT,shutT] else arnd ((x:Int) - 1) (partL l x+1) x (partL l x+1) 1 [(l[li]?).getD shutT,shutT,shutT]
end Go.Proofs.YtofjodppljnlaaaGreatDoor
