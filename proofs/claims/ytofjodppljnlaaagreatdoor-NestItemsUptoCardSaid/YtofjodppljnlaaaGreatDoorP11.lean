/- My own texts, packed: Check, Signs, Ref6, NetL, NetN, NetT, NetV, NetS, GluL, New6. -/
import Derived.Test.YtofjodppljnlaaaGreatDoorP10
import Derived.Test.YtofjodppljnlaaaGreatDoorP9
set_option maxRecDepth 100000
set_option maxHeartbeats 4000000
set_option linter.unusedVariables false
set_option linter.unusedSimpArgs false
variable {w w1 W:Go.World} {F G:Nat → Prop} {A B:Option Go.Addr} {cb c:Nat}
namespace Go.Proofs.YtofjodppljnlaaaGreatDoor
open Go.RowKit
abbrev Lev:=(Spec × Ex) × List Int
def zeroEx:Ex:=.mk 0 ⟨#[]⟩ []
def x0r (rs:List (Spec × Ex)) (t:Int):Spec × Ex:=(rs[t.toNat]?).getD (zeroSpec,zeroEx)
/-- The level with one more in it: may it be? -/
def x36 (rs:List (Spec × Ex)) (gs:List Grp) (top:Lev) (x:Tok):Bool:=mayT rs top.1.1 x && decide (top.2.length+1<=x18 top.1.2 gs (top.2 ++ [x.t]))
def ckGo (rs:List (Spec × Ex)) (gs:List Grp):Nat->Lev->List Lev->List Tok->Int × Int
 | i,top,_,[]=>(i,if x0n top.1.2 gs top.2=true then 0 else 9)
 | i,top,below,x :: r=>
   if x.k=2 then
    (if x0n top.1.2 gs top.2=true then (match below with | []=>(i,9) | p :: q=>ckGo rs gs (i+1) p q r) else (i,9))
   else if x36 rs gs top x=true then
    (if x.k=1 then ckGo rs gs (i+1) (x0r rs x.t,[]) ((top.1,top.2 ++ [x.t]) :: below) r else ckGo rs gs (i+1) (top.1,top.2 ++ [x.t]) below r)
   else (i,9)
def x12 (rs:List (Spec × Ex)) (gs:List Grp) (l:List Tok):Int × Int:=if (x0a l).2=0 then ckGo rs gs 0 (x0r rs 0,[]) [] l else x0a l
structure SchOk (rs:List (Spec × Ex)) (gs:List Grp):Prop where
 ne:rs ≠ []
 len:rs.length<=1000
 wt:∀ p ∈ rs,p.2.wt<=1048576 * 4
 gl:gs.length<=1048576
 gt:∀ x ∈ gs,x.types.length<=1048576
theorem SchR.made {v:World} {rs:List (Spec × Ex)} {gs:List Grp} {A1 AG:Option Addr} {x:Spec} {e:Ex} (hok:SchOk rs gs) (hg:grpR.row w (fun _=>True) AG gs) (hu:Pure w v) (hm:(x,e) ∈ rs) (hx:exR.row v (fun k=>k < w.heap.size) A1 e.l):MadeC v A1 AG e gs:=
 ⟨Rp.x09 hx (fun k hk=>Nat.lt_of_lt_of_le hk hu.size),Rp.x1d (fun k hk hl=>⟨Nat.lt_of_lt_of_le hl hu.size,Nat.lt_of_lt_of_le hl hu.size,hu.block k hl (fun h=>h)⟩) hg,hok.wt _ hm,hok.gl,hok.gt⟩
/-- The state at the loop's head: k tokens are gone. -/
structure CkRel (w:World) (rs:List (Spec × Ex)) (gs:List Grp) (l:List Tok) (k b cap:Nat) (rv:List ((Spec × Ex) × Value)) (top:Lev) (below:List Lev) (wr:World):Prop where
 opn:∃ ws,Opn w b cap rv ws wr/\ws=(top :: below).reverse.map (·.2)
 rules:rv.map (·.1)=(top :: below).reverse.map (·.1)
 go:ckGo rs gs k top below (l.drop k)=x12 rs gs l
 flat:fcGo k below.length (l.drop k)=((l.length:Int),(0:Int))
 words:∀ p ∈ top :: below,p.2.length<=k/\p.1 ∈ rs
theorem fcGo_at:∀ (l:List Tok) (i n:Nat),(fcGo i n l).2=0->(fcGo i n l).1=i+l.length
 | [],i,n,h=>by simp[fcGo]
 | t :: r,i,n,h=>by
   unfold fcGo at h ⊢
   split at h
   ·simp at h
   ·rename_i h1
    rw[if_neg h1]
    split at h
    ·rename_i h2
     rw[if_pos h2]
     split at h
     ·simp at h
     ·rename_i h3
      rw[if_neg h3,fcGo_at r _ _ h]
      simp;omega
    ·rename_i h2
     rw[if_neg h2]
     split at h
     ·rename_i h3
      rw[if_pos h3,fcGo_at r _ _ h]
      simp;omega
     ·rename_i h3
      rw[if_neg h3,fcGo_at r _ _ h]
      simp;omega
theorem fcGo_depth:∀ (l:List Tok) (i n:Nat),(fcGo i n l).2=0->n<=l.length
 | [],i,n,h=>by
   unfold fcGo at h
   by_cases h0:n=0
   ·omega
   ·simp only[if_neg h0] at h
    omega
 | t :: r,i,n,h=>by
   unfold fcGo at h
   split at h
   ·simp at h
   ·split at h
    ·split at h
     ·simp at h
     ·have:=fcGo_depth r _ _ h
      simp;omega
    ·split at h
     ·have:=fcGo_depth r _ _ h
      simp;omega
     ·have:=fcGo_depth r _ _ h
      simp;omega
theorem CkRel.split {wr:World} {rs:List (Spec × Ex)} {gs:List Grp} {l:List Tok} {k b cap:Nat} {rv:List ((Spec × Ex) × Value)} {top:Lev} {below:List Lev} (h:CkRel w rs gs l k b cap rv top below wr):∃ init v wi,rv=init ++ [(top.1,v)]/\init.length=below.length/\Opn w b cap (init ++ [(top.1,v)]) (wi ++ [top.2]) wr/\init.map (·.1)=below.reverse.map (·.1)/\wi=below.reverse.map (·.2):=by
 obtain⟨⟨ws,ho,hws⟩,hr,_⟩:=h
 rw[List.reverse_cons,List.map_append] at hr hws
 obtain⟨init,last,rfl,h1,h2⟩:=List.map_eq_append_iff.1 hr
 obtain⟨y,rfl⟩:∃ y,last=[y]:=by
  have hl1:last.length=1:=by simpa using congrArg List.length h2
  exact List.length_eq_one_iff.1 hl1
 have h2':y.1=top.1:=by simpa using h2
 obtain⟨y1,y2⟩:=y
 simp only at h2'
 subst h2'
 exact⟨init,y2,_,rfl,by simpa using congrArg List.length h1,by rw[hws] at ho;exact ho,h1,rfl⟩
theorem fc_right {k n:Nat} {x:Tok} {r:List Tok} {L:Int} (h:fcGo k n (x :: r)=(L,0)):x0p x=true:=by
 unfold fcGo at h
 split at h
 ·simp at h
 ·rename_i h1
  cases hr:x0p x
  ·exact absurd (.inl hr) h1
  ·rfl
theorem fc_close {k n:Nat} {x:Tok} {r:List Tok} {L:Int} (h:fcGo k n (x :: r)=(L,0)) (hk:x.k=2):n ≠ 0/\fcGo (k+1) (n - 1) r=(L,0):=by
 unfold fcGo at h
 split at h
 ·simp at h
 ·rename_i h1
  rw[if_neg (by omega)] at h
  exact⟨fun e=>h1 (.inr ⟨hk,e⟩),h⟩
theorem fc_open {k n:Nat} {x:Tok} {r:List Tok} {L:Int} (h:fcGo k n (x :: r)=(L,0)) (hk:x.k=1):n ≠ 32/\fcGo (k+1) (n+1) r=(L,0):=by
 unfold fcGo at h
 split at h
 ·simp at h
 ·split at h
  ·simp at h
  ·rename_i h2
   exact⟨h2,h⟩
theorem fc_else {k n:Nat} {x:Tok} {r:List Tok} {L:Int} (h:fcGo k n (x :: r)=(L,0)) (h1:x.k ≠ 1) (h2:x.k ≠ 2):fcGo (k+1) n r=(L,0):=by
 unfold fcGo at h
 split at h
 ·simp at h
 ·exact h
theorem ck_close {rs:List (Spec × Ex)} {gs:List Grp} {k:Nat} {top p:Lev} {q:List Lev} {x:Tok} {r:List Tok} (h:x.k=2) (ha:x0n top.1.2 gs top.2=true):ckGo rs gs k top (p :: q) (x :: r)=ckGo rs gs (k+1) p q r:=by
 rw[ckGo,if_pos h,if_pos ha]
theorem ck_noclose {rs:List (Spec × Ex)} {gs:List Grp} {k:Nat} {top:Lev} {q:List Lev} {x:Tok} {r:List Tok} (h:x.k=2) (ha:x0n top.1.2 gs top.2=false):ckGo rs gs k top q (x :: r)=((k:Int),(9:Int)):=by
 rw[ckGo.eq_def];simp only[];rw[if_pos h,if_neg (by rw[ha];exact Bool.false_ne_true)]
theorem ck_bad {rs:List (Spec × Ex)} {gs:List Grp} {k:Nat} {top:Lev} {q:List Lev} {x:Tok} {r:List Tok} (h:x.k ≠ 2) (ha:x36 rs gs top x=false):ckGo rs gs k top q (x :: r)=((k:Int),(9:Int)):=by
 rw[ckGo.eq_def];simp only[];rw[if_neg h,if_neg (by rw[ha];exact Bool.false_ne_true)]
theorem ck_open {rs:List (Spec × Ex)} {gs:List Grp} {k:Nat} {top:Lev} {q:List Lev} {x:Tok} {r:List Tok} (h:x.k=1) (ha:x36 rs gs top x=true):ckGo rs gs k top q (x :: r)=ckGo rs gs (k+1) (x0r rs x.t,[]) ((top.1,top.2 ++ [x.t]) :: q) r:=by
 rw[ckGo.eq_def];simp only[];rw[if_neg (by omega),if_pos ha,if_pos h]
theorem ck_leaf {rs:List (Spec × Ex)} {gs:List Grp} {k:Nat} {top:Lev} {q:List Lev} {x:Tok} {r:List Tok} (h:x.k ≠ 2) (h1:x.k ≠ 1) (ha:x36 rs gs top x=true):ckGo rs gs k top q (x :: r)=ckGo rs gs (k+1) (top.1,top.2 ++ [x.t]) q r:=by
 rw[ckGo.eq_def];simp only[];rw[if_neg h,if_pos ha,if_neg h1]
theorem ck_end {rs:List (Spec × Ex)} {gs:List Grp} {k:Nat} {top:Lev} {q:List Lev}:ckGo rs gs k top q []=((k:Int),if x0n top.1.2 gs top.2=true then (0:Int) else 9):=by
 rw[ckGo]
theorem acc_calls {Bg Aw:Option Addr} {d cw:Nat} {e:Ex} {g:List Grp} {word:List Int} (hm:MadeC w A Bg e g) (hw:intR.row w F Aw word) (hb:word.length<=1048576 * 4) :
 Calls Tryz.prog 66 #[.agg #[.int .i64 e.k,.string e.name,.slice A e.l.length c],.slice Bg g.length d,.slice Aw word.length cw] w fun r w'=>r=.returned (.bool (x0n e g word))/\Pure w w':=by
 cases e
 exact accepts_calls hm hw hb
theorem beg_calls {Bg Aw:Option Addr} {d cw:Nat} {e:Ex} {g:List Grp} {word:List Int} (hm:MadeC w A Bg e g) (hw:intR.row w F Aw word) (hb:word.length<=1048576 * 4) :
 Calls Tryz.prog 65 #[.agg #[.int .i64 e.k,.string e.name,.slice A e.l.length c],.slice Bg g.length d,.slice Aw word.length cw] w fun r w'=>r=.returned (.int .i64 (x18 e g word:Nat))/\Pure w w':=by
 cases e
 exact begins_calls hm hw hb
theorem CkRel.leaf {rs:List (Spec × Ex)} {gs:List Grp} {l:List Tok} {k b cap:Nat} {init:List ((Spec × Ex) × Value)} {r:Spec × Ex} {below:List Lev} {v1:Value} {wd:List Int} {t:Int} {wi:List (List Int)} (hw:∀ y ∈ ((r,wd):Lev) :: below,y.2.length<=k/\y.1 ∈ rs) (ho:Opn w b cap (init ++ [(r,v1)]) (wi ++ [wd ++ [t]]) W) (him:init.map (·.1)=below.reverse.map (·.1)) (hwi:wi=below.reverse.map (·.2)) (hgo:ckGo rs gs (k+1) (r,wd ++ [t]) below (l.drop (k+1))=x12 rs gs l) (hfl:fcGo (k+1) below.length (l.drop (k+1))=((l.length:Int),(0:Int))):CkRel w rs gs l (k+1) b cap (init ++ [(r,v1)]) (r,wd ++ [t]) below W:=
 ⟨⟨_,ho,by rw[hwi];simp⟩,by rw[List.map_append,him];simp,hgo,hfl,fun y hy=>by
   rcases List.mem_cons.1 hy with rfl | hy
   ·have h0:wd.length<=k/\r ∈ rs:=hw (r,wd) List.mem_cons_self
    exact⟨by simp;omega,h0.2⟩
   ·have:=hw y (List.mem_cons_of_mem _ hy)
    exact⟨by omega,this.2⟩⟩
theorem CkRel.opened {rs:List (Spec × Ex)} {gs:List Grp} {l:List Tok} {k b cap:Nat} {init:List ((Spec × Ex) × Value)} {r r2:Spec × Ex} {below:List Lev} {v1:Value} {wd:List Int} {t:Int} {wi:List (List Int)} (hw:∀ y ∈ ((r,wd):Lev) :: below,y.2.length<=k/\y.1 ∈ rs) (ho:Opn w b cap (init ++ [(r,v1)] ++ [(r2,.slice none 0 0)]) (wi ++ [wd ++ [t]] ++ [[]]) W) (him:init.map (·.1)=below.reverse.map (·.1)) (hwi:wi=below.reverse.map (·.2)) (hr2:r2 ∈ rs) (hgo:ckGo rs gs (k+1) (r2,[]) ((r,wd ++ [t]) :: below) (l.drop (k+1))=x12 rs gs l) (hfl:fcGo (k+1) (below.length+1) (l.drop (k+1))=((l.length:Int),(0:Int))):CkRel w rs gs l (k+1) b cap (init ++ [(r,v1)] ++ [(r2,.slice none 0 0)]) (r2,[]) ((r,wd ++ [t]) :: below) W:=
 ⟨⟨_,ho,by rw[hwi];simp⟩,by rw[List.map_append,List.map_append,him];simp,hgo,hfl,fun y hy=>by
   rcases List.mem_cons.1 hy with rfl | hy
   ·exact⟨Nat.zero_le _,hr2⟩
   ·rcases List.mem_cons.1 hy with rfl | hy
    ·have h0:wd.length<=k/\r ∈ rs:=hw (r,wd) List.mem_cons_self
     exact⟨by simp;omega,h0.2⟩
    ·have:=hw y (List.mem_cons_of_mem _ hy)
     exact⟨by omega,this.2⟩⟩
theorem lev_info:(Tryz.prog.info? 99).map (fun i=>(i.zero,i.size,i.bytes))=some (some (.agg #[.string ⟨#[]⟩,.string ⟨#[]⟩,.bool false,.int .i64 0,.int .i64 0,.int .i64 0,.bool false,.int .i64 0,.string ⟨#[]⟩,.slice none 0 0,.slice none 0 0]),11,144):=by kernel_rfl
theorem mayT_open {rs:List (Spec × Ex)} {s:Spec} {x:Tok} (h1:x.k=1) (h:mayT rs s x=true):∃ j:Nat,x.t=j/\∃ y e,rs[j]?=some (y,e)/\x0r rs x.t=(y,e):=by
 unfold mayT at h
 rw[if_neg (by omega)] at h
 cases hs:x17 rs x.t with
 | none=>simp[hs] at h
 | some y=>
   unfold x17 at hs
   split at hs
   ·cases hs
   ·obtain⟨z,hz,rfl⟩:=Option.map_eq_some_iff.1 hs
    refine⟨x.t.toNat,by omega,z.1,z.2,hz,?_⟩
    unfold x0r
    rw[hz]
    rfl
theorem CkRel.closed {wr:World} {rs:List (Spec × Ex)} {gs:List Grp} {l:List Tok} {k b cap:Nat} {init:List ((Spec × Ex) × Value)} {top p:Lev} {q:List Lev} {v:Value} {wi:List (List Int)} (hw:∀ y ∈ top :: p :: q,y.2.length<=k/\y.1 ∈ rs) (ho:Opn w b cap (init ++ [(top.1,v)]) (wi ++ [top.2]) wr) (him:init.map (·.1)=(p :: q).reverse.map (·.1)) (hwi:wi=(p :: q).reverse.map (·.2)) (hgo:ckGo rs gs (k+1) p q (l.drop (k+1))=x12 rs gs l) (hfl:fcGo (k+1) q.length (l.drop (k+1))=((l.length:Int),(0:Int))) (hu:Pure wr w1):CkRel w rs gs l (k+1) b cap init p q w1:=
 ⟨⟨wi,ho.take.pure hu,hwi⟩,him,hgo,hfl,fun y hy=>by
   have:=hw y (by simp only[List.mem_cons] at hy ⊢;exact .inr hy)
   exact⟨by omega,this.2⟩⟩
theorem schemaCheck_flat {rs:List (Spec × Ex)} {gs:List Grp} {l:List Tok} (h:SchR w cb rs gs) (hok:SchOk rs gs) (hr:tokR.row w F A l) (hb:l.length<=1048576 * 4) (hf:(x0a l).2 ≠ 0) :
 Calls Tryz.prog 15 #[.pointer (some ⟨cb,0,none⟩),.slice A l.length c] w fun e w'=>e=.returned (.tuple #[.int .i64 (x12 rs gs l).1,.int .i64 (x12 rs gs l).2])/\Pure w w':=by
 have HNO:=mK (x5y h hok.ne)
 have HFC:=mK (x63 (c:=c) hr hb)
 have hE:x12 rs gs l=x0a l:=by unfold x12;rw[if_neg hf]
 rw[hE]
 have t1:((x0a l).2 != 0)=true:=by simpa using hf
 clear h hok hr hf hE
 generalize x0a l=fc at *
 obtain⟨f1,f2⟩:=fc
 go_enter Tryz.func15,Tryz.ntmps15
 go_wp2_with (first | (go_at_call 64;refine HFC.o.mono ?_;rintro r w2 ⟨rfl,hu⟩;have HU2:=mK hu;clear hu) | (go_at_call 63;refine HNO.o.mono ?_;rintro r w1 ⟨rfl,hw⟩;replace hw:=hw.symm;subst hw))
 exact bodyPost_ret (v:=.tuple #[.int .i64 f1,.int .i64 f2]) (by simp[results,Tryz.results15,go_sem]) rfl ⟨rfl,HU2.o⟩
theorem getD_modify (fs:List (List Int)) (n i:Nat) (f:List Int->List Int):(fs.modify n f).getD i []=if n=i/\i < fs.length then f (fs.getD i []) else fs.getD i []:=by
 simp only[List.getD,List.getElem?_modify]
 cases hx:fs[i]? with
 | none=>
   have:=List.getElem?_eq_none_iff.1 hx
   rw[if_neg (by omega)]
   split <;> simp
 | some y=>
   have hlt:=(List.getElem?_eq_some_iff.1 hx).1
   by_cases h:n=i
   ·simp[h,hlt]
   ·simp[h]
theorem x4x:∀ (last:List Int) (fs:List (List Int)) (first:List Int) (i:Nat) (a:Int),a ∈ (joinF fs last first).getD i [] ↔ a ∈ fs.getD i []\/(i < fs.length/\(∃ b ∈ last,b.toNat=i)/\a ∈ first):=by
 intro last
 induction last with
 | nil=>intro fs first i a;simp[joinF]
 | cons b r ih=>
   intro fs first i a
   have e:joinF fs (b :: r) first=joinF (fs.modify b.toNat (· ++ first)) r first:=rfl
   rw[e,ih,getD_modify]
   simp only[List.length_modify,List.mem_cons,exists_eq_or_imp]
   by_cases h:b.toNat=i/\i < fs.length
   ·rw[if_pos h,List.mem_append]
    constructor
    ·rintro ((h1 | h1) | ⟨h1,h2,h3⟩)
     ·exact .inl h1
     ·exact .inr ⟨h.2,.inl h.1,h1⟩
     ·exact .inr ⟨h1,.inr h2,h3⟩
    ·rintro (h1 | ⟨h1,h2 | h2,h3⟩)
     ·exact .inl (.inl h1)
     ·exact .inl (.inr h3)
     ·exact .inr ⟨h1,h2,h3⟩
   ·rw[if_neg h]
    constructor
    ·rintro (h1 | ⟨h1,h2,h3⟩)
     ·exact .inl h1
     ·exact .inr ⟨h1,.inr h2,h3⟩
    ·rintro (h1 | ⟨h1,h2 | h2,h3⟩)
     ·exact .inl h1
     ·exact absurd ⟨h2,h1⟩ h
     ·exact .inr ⟨h1,h2,h3⟩
theorem check_iff (e:Ex) (g:List Grp):x0k e g=0 ↔ (e.cnt<=200/\e.dep<=60/\e.okB 0=true)/\longB g=false/\e.x2p g=true:=by
 constructor
 ·intro h
  obtain⟨h1,h2,h3⟩:=x6f h
  unfold x0z at h1
  split at h1
  ·simp at h1
  ·rename_i h4
   split at h1
   ·simp at h1
   ·rename_i h5
    exact⟨⟨by omega,by omega,by simpa using h5⟩,h2,h3⟩
 ·rintro ⟨⟨h1,h2,h3⟩,h4,h5⟩
  have e1:x0z e=0:=by
   unfold x0z
   rw[if_neg (by omega),if_neg (by rw[h3];simp)]
  unfold x0k
  rw[e1,if_neg (by simp),if_neg (by rw[h4];simp),if_neg (by rw[h5];simp)]
theorem Path.mono {ts fs fs':List (List Int)} {p p':Part} (h:∀ x y,y ∈ x19 fs p x->y ∈ x19 fs' p' x) {w:List Int} {x:Int} (hp:Path ts fs p w x):Path ts fs' p' w x:=by
 induction hp with
 | nil=>exact .nil
 | snoc w x y t _ h2 h3 ih=>exact .snoc w x y t ih (h x y h2) h3
theorem Path.zero {ts fs:List (List Int)} {p:Part} (hM:MOk ts fs p) {w:List Int} {x:Int} (hp:Path ts fs p w x):(w=[]/\x=-1)\/(w ≠ []/\0<=x/\x < ts.length):=by
 cases hp with
 | nil=>exact .inl ⟨rfl,rfl⟩
 | snoc w x y t _ h2 h3=>exact .inr ⟨by simp,hM.ok _ _ h2⟩
section
variable {e:Ex} {g:List Grp}
end
theorem types6_calls {g:List Grp} (nm:ByteArray) {w:World} (hr:grpR.row w F A g) (hb:g.length<=1048576) :
 Calls Tryz.prog 199 #[.slice A g.length c,.string nm] w fun r w'=>(∃ A1 c1,r=.returned (.slice A1 (typesOf g nm).length c1)/\(typesOf g nm).length<=c1/\intR.row w F A1 (typesOf g nm))/\Pure w w':=by
 have HR:=mK hr
 clear hr
 go_enter Tryz.func199,Tryz.ntmps199
 go_wp2
 go_loopg [5] g.length (fun gg i wr=>∃ k:Nat,k+gg=g.length/\i=.int .i64 k/\As (typesOf (g.drop k) nm=typesOf g nm)/\As (wr=w))
 case atStart=>exact⟨0,by omega,rfl,⟨rfl⟩,⟨rfl⟩⟩
 case round=>
  obtain⟨k,hk,rfl,HT,HW⟩:=hrel
  obtain rfl:=HW.o
  by_cases hlt:k < g.length
  ·obtain⟨x,hx⟩:=gS hlt
   obtain⟨b,o,A1,c1,rfl,hF,hbl,d0,d1,hle1,hrow1⟩:=grp_at HR.o hx
   obtain⟨g1,rfl⟩:=sC1 (by omega:0 < gk)
   have hd:=x53 hx
   rw[hd] at HT
   have HR1:=mK hrow1
   have HK:=mK hk
   clear hrow1 hk hx hd
   by_cases hn:x.name=nm
   ·have HV:As (x.types=typesOf g nm):=⟨by rw[<- HT.o,typesOf,if_pos hn]⟩
    subst hn
    clear HT
    go_wp2
    go_ret
    exact⟨⟨A1,c1,by rw[<- HV.o];rfl,by rw[<- HV.o];exact hle1,by rw[<- HV.o];exact HR1.o⟩,Upd.refl _ _⟩
   ·have HV:As (typesOf (g.drop (k+1)) nm=typesOf g nm):=⟨by rw[<- HT.o,typesOf,if_neg hn]⟩
    have hn2:=bytes_ne hn
    clear HT
    go_wp2
    go_roundg g1
    case measure=>omega
    case rel=>exact⟨k+1,by have:=HK.o;omega,by go_num,HV,⟨rfl⟩⟩
  ·have hkl:k=g.length:=by omega
   subst hkl
   rw[List.drop_length] at HT
   have HT2:As (typesOf g nm=[]):=⟨by rw[<- HT.o];rfl⟩
   clear HT
   go_wp2
   go_ret
   exact⟨⟨none,0,by rw[HT2.o];rfl,by rw[HT2.o];simp,by rw[HT2.o];exact .inl rfl⟩,Upd.refl _ _⟩
mutual
def Ex.x32 (g:List Grp):Ex->Bool
 | .mk k nm l=>(decide (k ≠ 1) || decide (0 < (typesOf g nm).length)) && Ex.x38 g l
def Ex.x38 (g:List Grp):List Ex->Bool
 | []=>true
 | x :: r=>Ex.x32 g x && Ex.x38 g r
end
theorem Ex.knownsB_all (g:List Grp) (l:List Ex):Ex.x38 g l=l.all (Ex.x32 g):=by
 induction l with
 | nil=>rfl
 | cons x r ih=>simp[Ex.x38,ih]
theorem Ex.knowns_take {g:List Grp} {l:List Ex} {k:Nat} {x:Ex} (hx:l[k]?=some x):Ex.x38 g (l.take (k+1))=(Ex.x38 g (l.take k) && Ex.x32 g x):=by
 rw[List.take_add_one,hx,Ex.knownsB_all,Ex.knownsB_all,List.all_append]
 simp
theorem Ex.knowns_mem {g:List Grp} {l:List Ex} {x:Ex} (hx:x ∈ l) (h:Ex.x32 g x=false):Ex.x38 g l=false:=by
 rw[Ex.knownsB_all,List.all_eq_false]
 exact⟨x,hx,by rw[h];simp⟩
mutual
theorem Ex.known_named (g:List Grp):∀ (e:Ex) (i:Int),e.okB i=true->Ex.x32 g e=Ex.x2p g e
 | .mk k nm l,i,h=>by
   rw[Ex.x32,Ex.x2p]
   rw[Ex.okB] at h
   by_cases h1:k=1
   ·rw[if_pos h1] at h
    rw[if_pos h1]
    simp only[Bool.and_eq_true,decide_eq_true_eq] at h
    have:l=[]:=List.eq_nil_of_length_eq_zero h.2
    subst this
    simp[Ex.x38,h1]
   ·rw[if_neg h1] at h ⊢
    split at h
    ·cases h
    ·simp only[Bool.and_eq_true,decide_eq_true_eq] at h
     rw[Ex.knowns_nameds g l k h.1.1.1]
     simp[h1]
theorem Ex.knowns_nameds (g:List Grp):∀ (l:List Ex) (i:Int),Ex.oksB i l=true->Ex.x38 g l=Ex.x57 g l
 | [],_,_=>by rw[Ex.x38,Ex.x57]
 | x :: r,i,h=>by
   rw[Ex.oksB,Bool.and_eq_true] at h
   rw[Ex.x38,Ex.x57,Ex.known_named g x i h.1,Ex.knowns_nameds g r i h.2]
end
mutual
theorem layE_wt (ty:ByteArray->List Int):∀ (e:Ex) (a b:Nat) (N:NetD),(layE ty e a b N).wt+1<=N.wt+8 * e.cnt
 | .mk k nm l,a,b,N=>by
   unfold layE
   rw[Ex.cnt]
   by_cases h0:k=0
   ·rw[if_pos h0];have:=N.x4j a b;omega
   ·rw[if_neg h0]
    by_cases h1:k=1
    ·rw[if_pos h1,NetD.wt_setBy];have:=N.place.x4j a N.nx.length;have:=N.x4y;omega
    ·rw[if_neg h1]
     by_cases h2:k=2
     ·rw[if_pos h2];have:=laySeq_wt ty l a b N;omega
     ·rw[if_neg h2]
      by_cases h3:k=3
      ·rw[if_pos h3];have:=layAlt_wt ty l a b N;omega
      ·rw[if_neg h3]
       have i1:=N.x4y
       have i2:=N.place.x4y
       have i3:=N.place.place.x4j a N.nx.length
       have i4:=layOne_wt ty l N.nx.length (N.nx.length+1) (N.place.place.free a N.nx.length)
       have i5:=(x3l ty l N.nx.length (N.nx.length+1) (N.place.place.free a N.nx.length)).x4j (N.nx.length+1) b
       have i6:=((x3l ty l N.nx.length (N.nx.length+1) (N.place.place.free a N.nx.length)).free (N.nx.length+1) b).x4j (N.nx.length+1) N.nx.length
       have i7:=((x3l ty l N.nx.length (N.nx.length+1) (N.place.place.free a N.nx.length)).free (N.nx.length+1) b).x4j a b
       have i8:=(((x3l ty l N.nx.length (N.nx.length+1) (N.place.place.free a N.nx.length)).free (N.nx.length+1) b).free (N.nx.length+1) N.nx.length).x4j a b
       dsimp only
       split <;> split <;> omega
theorem laySeq_wt (ty:ByteArray->List Int):∀ (l:List Ex) (a b:Nat) (N:NetD),(x40 ty l a b N).wt<=N.wt+8 * Ex.cnts l+1
 | [],a,b,N=>by unfold x40;have:=N.x4j a b;omega
 | x :: r,a,b,N=>by
   unfold x40
   rw[Ex.cnts]
   have i1:=layE_wt ty x a N.nx.length N.place
   have i2:=laySeq_wt ty r N.nx.length b (layE ty x a N.nx.length N.place)
   have i3:=N.x4y
   omega
theorem layAlt_wt (ty:ByteArray->List Int):∀ (l:List Ex) (a b:Nat) (N:NetD),(x3z ty l a b N).wt<=N.wt+8 * Ex.cnts l
 | [],a,b,N=>by unfold x3z;omega
 | x :: r,a,b,N=>by
   unfold x3z
   rw[Ex.cnts]
   have i1:=layE_wt ty x a b N
   have i2:=layAlt_wt ty r a b (layE ty x a b N)
   omega
theorem layOne_wt (ty:ByteArray->List Int):∀ (l:List Ex) (a b:Nat) (N:NetD),(x3l ty l a b N).wt<=N.wt+8 * Ex.cnts l
 | [],a,b,N=>by unfold x3l;omega
 | x :: r,a,b,N=>by
   unfold x3l
   rw[Ex.cnts]
   have i1:=layE_wt ty x a b N
   omega
end
theorem NetD.tl_wt {N:NetD} (h:N.Ok):N.tos.length<=N.wt:=by rw[h.tl];unfold wt;omega
theorem NetD.nx_wt (N:NetD):N.nx.length<=N.wt:=by unfold wt;omega
theorem NetGo.step {w w1 w2:World} {B:Nat} {M M1:Nat->Prop} {nb:Nat} {N:NetD} (g1:Grow M M1 w.heap.size w1.heap.size) (u1:Upd M w w1) (h:NetGo w1 w2 B M1 nb N):NetGo w w2 B M nb N:=by
 obtain⟨M2,r2,g2,u2⟩:=h
 obtain⟨g,u⟩:=Grow.comp g1 u1 g2 u2
 exact⟨M2,r2,g,u⟩
theorem NetGo.upd {w w1:World} {B:Nat} {M:Nat->Prop} {nb:Nat} {N:NetD} (h:NetGo w w1 B M nb N):Upd M w w1:=by obtain⟨_,_,_,u⟩:=h;exact u
theorem NetGo.pure {w w1 w2:World} {B:Nat} {M:Nat->Prop} {nb:Nat} {N:NetD} (h:NetGo w w1 B M nb N) (hu:Pure w1 w2):NetGo w w2 B M nb N:=by
 obtain⟨M1,r1,g1,u1⟩:=h
 obtain⟨g,u⟩:=Grow.comp g1 u1 Grow.same (hu.mono (fun _ _ h=>h.elim))
 exact⟨M1,r1.pure hu,g,u⟩
theorem BoxE.go {b:Nat} {k:Int} {nm:ByteArray} {n:Nat} {A:Option Addr} {c:Nat} {W wr:World} {B:Nat} {M:Nat->Prop} {nb:Nat} {N:NetD} (h:BoxE b k nm n A c W) (hg:NetGo W wr B M nb N) (hM:¬ M b):BoxE b k nm n A c wr:=by
 obtain⟨h1,h2,h3,h4⟩:=h
 have hu:=hg.upd
 exact⟨(hu.cell h4 hM).trans h1,(hu.cell h4 hM).trans h2,(hu.cell h4 hM).trans h3,Nat.lt_of_lt_of_le h4 hu.size⟩
section
variable {W wr:World} {B:Nat} {M:Nat->Prop} {nb:Nat} {N:NetD}
theorem place_go (h:NetGo W wr B M nb N) (ok:N.Ok) (hb:N.wt<=1048576) :
 Calls Tryz.prog 170 #[.pointer (some ⟨nb,0,none⟩)] wr fun r w'=>r=.returned (.int .i64 N.nx.length)/\NetGo W w' B M nb N.place:=by
 obtain⟨M1,r1,g1,u1⟩:=h
 refine(nplc_calls r1 ok.tl ok.bl (Nat.le_trans N.nx_wt hb)).mono ?_
 rintro r w' ⟨rfl,hg⟩
 exact⟨rfl,NetGo.step g1 u1 hg⟩
theorem x54 (h:NetGo W wr B M nb N) (ok:N.Ok) (hb:N.wt<=1048576) {a b:Nat} (ha:a < N.nx.length) :
 Calls Tryz.prog 200 #[.pointer (some ⟨nb,0,none⟩),.int .i64 a,.int .i64 b] wr fun r w'=>r=.returned (.tuple #[])/\NetGo W w' B M nb (N.free a b):=by
 obtain⟨M1,r1,g1,u1⟩:=h
 refine(free_calls r1 (by rw[ok.tl];exact ha) (Nat.le_trans (NetD.tl_wt ok) hb) hb).mono ?_
 rintro r w' ⟨rfl,hg⟩
 exact⟨rfl,NetGo.step g1 u1 hg⟩
end
def LayC (e:Ex):Prop:=∀ (W wr:World) (B:Nat) (M F G:Nat->Prop) (nb:Nat) (N:NetD) (A Ag:Option Addr) (c cg a b:Nat) (g:List Grp),NetGo W wr B M nb N->N.Ok->a < N.nx.length->b < N.nx.length ->
 exR.row wr F A e.l->grpR.row wr G Ag g->(∀ k,F k->k < B)->(∀ k,G k->k < B)->liveE (typesOf g) e->N.wt+8 * e.cnt<=1048576->g.length<=1048576 ->
 Calls Tryz.prog 171 #[.pointer (some ⟨nb,0,none⟩),e.val A c,.slice Ag g.length cg,.int .i64 a,.int .i64 b] wr fun r w'=>r=.returned (.tuple #[])/\NetGo W w' B M nb (layE (typesOf g) e a b N)
/-- The same, from where it begins. -/
def LayD (e:Ex):Prop:=∀ (w:World) (B:Nat) (M F G:Nat->Prop) (nb:Nat) (N:NetD) (A Ag:Option Addr) (c cg a b:Nat) (g:List Grp),NetR w B M nb N->N.Ok->a < N.nx.length->b < N.nx.length ->
 exR.row w F A e.l->grpR.row w G Ag g->(∀ k,F k->k < B)->(∀ k,G k->k < B)->liveE (typesOf g) e->N.wt+8 * e.cnt<=1048576->g.length<=1048576 ->
 Calls Tryz.prog 171 #[.pointer (some ⟨nb,0,none⟩),e.val A c,.slice Ag g.length cg,.int .i64 a,.int .i64 b] w fun r w'=>r=.returned (.tuple #[])/\NetGo w w' B M nb (layE (typesOf g) e a b N)
theorem LayC.of {e:Ex} (h:LayD e):LayC e:=by
 intro W wr B M F G nb N A Ag c cg a b g hg ok ha hb hr hgr hF hG hl hw hgl
 obtain⟨M1,r1,g1,u1⟩:=hg
 refine(h wr B M1 F G nb N A Ag c cg a b g r1 ok ha hb hr hgr hF hG hl hw hgl).mono ?_
 rintro r w' ⟨rfl,hg⟩
 exact⟨rfl,NetGo.step g1 u1 hg⟩
/-- What all arms of lay begin with. -/
structure LayS (w:World) (B:Nat) (M F G:Nat->Prop) (nb:Nat) (N:NetD) (A Ag:Option Addr) (k0:Int) (nm:ByteArray) (l:List Ex) (c:Nat) (g:List Grp) (W:World):Prop where
 go:NetGo W W B M nb N
 start:∀ w' N',NetGo W w' B M nb N'->NetGo w w' B M nb N'
 box:BoxE w.heap.size k0 nm l.length A c W
 nM:¬ M w.heap.size
 row:∀ w' N',NetGo W w' B M nb N'->exR.row w' F A l
 grp:∀ w' N',NetGo W w' B M nb N'->grpR.row w' G Ag g
theorem LayS.mk' {w:World} {B:Nat} {M F G:Nat->Prop} {nb:Nat} {N:NetD} {A Ag:Option Addr} {k0:Int} {nm:ByteArray} {l:List Ex} {c:Nat} {g:List Grp} (h:NetR w B M nb N) (hr:exR.row w F A l) (hg:grpR.row w G Ag g) (hF:∀ k,F k->k < B) (hG:∀ k,G k->k < B) (t:TypeId) :
 LayS w B M F G nb N A Ag k0 nm l c g (w.alloc (.cells #[.int .i64 k0,.string nm,.slice A l.length c] t)) where
 go:=NetGo.refl (h.pure (rU.alloc _))
 start:=fun w' N' hn=>NetGo.step Grow.same (rU.alloc _) hn
 box:=BoxE.new _ _ _ _ _ _ _
 nM:=fun hm=>by have:=(h.low _ hm).2;omega
 row:=fun w' N' hn=>Rp.x0f (Rp.x01 hr (rU.alloc _)) hn.upd (fun k _ hk hM=>by have:=hF k hk;have:=(h.low k hM).1;omega)
 grp:=fun w' N' hn=>Rp.x0f (Rp.x01 hg (rU.alloc _)) hn.upd (fun k _ hk hM=>by have:=hG k hk;have:=(h.low k hM).1;omega)
theorem lay_none (nm:ByteArray) (l:List Ex):LayD (.mk 0 nm l):=by
 intro w B M F G nb N A Ag c cg a b g h ok ha hb hr hgr hF hG hl hw hgl
 have HL:=mK (LayS.mk' (k0:=0) (nm:=nm) (l:=l) (c:=c) h hr hgr hF hG 92)
 have hwt:N.wt<=1048576:=by omega
 have HOK:=mK ok
 clear h hr hgr hF hG hl hw ok
 show Calls Tryz.prog 171 #[.pointer (some ⟨nb,0,none⟩),.agg #[.int .i64 0,.string nm,.slice A l.length c],.slice Ag g.length cg,.int .i64 a,.int .i64 b] w _
 go_enter Tryz.func171,Tryz.ntmps171
 go_wp2_with (go_at_call 200;refine(x54 HL.o.go HOK.o hwt ha).mono ?_;rintro e w1 ⟨rfl,hn⟩;have HN:=mK (HL.o.start _ _ hn);clear hn)
 go_end0
 refine⟨rfl,?_⟩
 have e1:layE (typesOf g) (.mk 0 nm l) a b N=N.free a b:=by rw[layE,if_pos rfl]
 rw[e1]
 exact HN.o
theorem lay_name (nm:ByteArray) (l:List Ex):LayD (.mk 1 nm l):=by
 intro w B M F G nb N A Ag c cg a b g h ok ha hb hr hgr hF hG hl hw hgl
 have hlow:=h.low
 have HL:=mK (LayS.mk' (k0:=1) (nm:=nm) (l:=l) (c:=c) h hr hgr hF hG 92)
 have hcp:=(Ex.mk 1 nm l).x3r
 have hwt:N.wt<=1048576:=by omega
 have hwt1:N.place.wt<=1048576:=by rw[NetD.x4y];omega
 have HOK:=mK ok
 have ha1:a < N.place.nx.length:=by rw[NetD.x1o];omega
 have HGB:=mK hG
 have HLW:=mK hlow
 clear h hr hgr hF hG hl hw ok hlow hcp
 show Calls Tryz.prog 171 #[.pointer (some ⟨nb,0,none⟩),.agg #[.int .i64 1,.string nm,.slice A l.length c],.slice Ag g.length cg,.int .i64 a,.int .i64 b] w _
 go_enter Tryz.func171,Tryz.ntmps171
 go_wp2_with (first | (go_at_call 170;refine(place_go HL.o.go HOK.o hwt).mono ?_;rintro e w1 ⟨rfl,hn⟩;have HN1:=mK hn;clear hn) | (go_at_call 200;refine(x54 HN1.o (NetD.x4f HOK.o) hwt1 ha1).mono ?_;rintro e w2 ⟨rfl,hn⟩;have HN2:=mK hn;clear hn;apply As.o))
 refine⟨?_⟩
 have hby:(N.place.free a N.nx.length).bys.length=N.nx.length+1:=by
  have:=HOK.o.bl
  simp[NetD.place,NetD.free,this]
 have hnxl:(N.place.free a N.nx.length).nx.length=N.nx.length+1:=by simp[NetD.place,NetD.free]
 obtain⟨M2,⟨lab,tv,bv,nv,vs,hs⟩,hg2,hu2⟩:=HN2.o
 have HG2:=mK hg2
 have HU2:=mK hu2
 have hbox:=HL.o.box.go HN2.o HL.o.nM
 have HGR:=mK (HL.o.grp _ _ HN2.o)
 have HST:=mK HL.o.start
 have hLW:∀ k,M2 k->B<=k:=fun k hk=>(hs.low k hk).1
 have HE:=mK (show (N.place.free a N.nx.length).setBy N.nx.length (typesOf g nm) b=layE (typesOf g) (.mk 1 nm l) a b N by rw[layE,if_neg (by decide),if_pos rfl])
 generalize hN2:N.place.free a N.nx.length=N2 at *
 generalize hcc:N.nx.length=cc at *
 obtain⟨gb,cap,rfl,_,_⟩:=(show ∃ g cap,bv=.slice (some ⟨g,0,none⟩) N2.bys.length cap/\0<=g/\g < w2.heap.size by
  obtain⟨inner,h1,_⟩:=hs.cb.own
  have:=h1.form (by omega)
  exact this)
 obtain⟨hb0,cap2,rfl,_,_⟩:=(show ∃ g cap,nv=.slice (some ⟨g,0,none⟩) N2.nx.length cap/\0<=g/\g < w2.heap.size by
  obtain⟨inner,h1,_⟩:=hs.cn.own
  have:=h1.form (by omega)
  exact this)
 obtain⟨u,q2,q3,hgl2⟩:∃ u,w2.cell? ⟨gb,cc,none⟩=some u/\w2.frozen? ⟨gb,cc,none⟩=false/\gb < w2.heap.size:=by
  obtain⟨inner,h1,_⟩:=hs.cb.own
  obtain⟨u,_,h⟩:=own_cell h1 (i:=cc) (by omega)
  exact⟨u,h⟩
 have q1:w2.cell? ⟨nb,1,none⟩=some (.slice (some ⟨gb,0,none⟩) N2.bys.length cap):=by unfold World.cell?;simp only[hs.blk];rfl
 have q4:w2.cell? ⟨w.heap.size,1,none⟩=some (.string nm):=hbox.2.1
 have hnl:=(hs.low nb hs.nbM.1).2
 have hbl2:=hbox.2.2.2
 have HSK:As (∀ w1,Pure w2.drew w1->w1.cell? ⟨nb,1,none⟩=some (.slice (some ⟨gb,0,none⟩) N2.bys.length cap)/\w1.cell? ⟨gb,cc,none⟩=some u/\w1.frozen? ⟨gb,cc,none⟩=false/\w1.cell? ⟨w.heap.size,1,none⟩=some (.string nm)):=⟨by
  intro w1 hU
  exact⟨(hU.cell hnl (fun h=>h)).trans q1,(hU.cell hgl2 (fun h=>h)).trans q2,(hU.frozen hgl2 (fun h=>h)).trans q3,(hU.cell hbl2 (fun h=>h)).trans q4⟩⟩
 have HS2:=mK hs
 have HLW2:=mK hLW
 have HQ:=mK (And.intro q1 (And.intro q2 (And.intro q3 q4)))
 have hnfi:(cc:Int) < (N2.bys.length:Int):=by omega
 have hnfj:(cc:Int) < (N2.nx.length:Int):=by omega
 have HBY:=mK hby
 have HNX:=mK hnxl
 clear hs hLW hg2 hu2 q1 q2 q3 q4 hbox hby hnxl hN2 hcc
 go_wp2
 have q2:=HQ.o.2.1
 refine x0m (P:=Tryz.prog) (fun w'=>w'.cell? ⟨nb,1,none⟩=some (.slice (some ⟨gb,0,none⟩) N2.bys.length cap)/\w'.cell? ⟨gb,cc,none⟩=some u/\w'.frozen? ⟨gb,cc,none⟩=false/\w'.cell? ⟨w.heap.size,1,none⟩=some (.string nm)) 10 (by kernel_rfl) ?_ (fun hHeld=>?_)
 ·first | exact HQ.o | exact HSK.o _ HU3.o | exact HSK.o _ rU
 refine zT 0 ?_
 refine zT 1 ?_
 refine zT 2 ?_
 refine zT 3 ?_
 (try simp only[Act.put,sA,sB,sC])
 refine zT 4 ?_
 refine zT 5 ?_
 refine zT 6 ?_
 refine zT 7 ?_
 (try simp only[Act.put,sA,sB,sC])
 refine oT 8 (fun K hK=>?_)
 go_simp
 (go_at_call 199;refine(types6_calls nm (Rp.x01 HGR.o (rU.drew)) hgl).mono ?_;rintro e w3 ⟨⟨A1,c1,rfl,hc1,hrow⟩,hu⟩;have HU3:=mK hu;have HR3:=mK hrow;have HC3:=mK hc1;obtain⟨s1,s2,s3,s4⟩:=HSK.o _ hu;clear hu hrow hc1)
 refine hK.out _ _ (fun _=>by first | exact HQ.o | exact HSK.o _ HU3.o | exact HSK.o _ rU) (fun hHeld=>?_)
 replace hHeld:=hHeld (by decide)
 clear hK K
 (try simp only[Act.put,sA,sB,sC])
 refine zT 9 ?_
 refine oT 10 (fun K hK=>?_)
 go_simp
 refine hK.out _ _ (fun h=>absurd rfl h) (fun hHeld=>?_)
 clear hK K
 (try simp only[Act.put,sA,sB,sC])
 refine x0l (by kernel_rfl) ?_ _
 have hs3:=HS2.o.pure ((rU.drew).tt HU3.o)
 obtain⟨hs4,hu4⟩:=NetS.by2 (c:=cc) hs3 (by omega) (Rp.x09 (Rp.x01 HR3.o HU3.o) HGB.o) HC3.o
 rw[List.length_set] at hs4
 have hP23:Pure w2 w3:=(rU.drew).tt HU3.o
 have hbx4:(w3.setCell ⟨gb,cc,none⟩ (.slice A1 (typesOf g nm).length c1)).heap.size=w3.heap.size:=by simp[World.setCell]
 have HU4:=mK (show Upd M2 w2 (w3.setCell ⟨gb,cc,none⟩ (.slice A1 (typesOf g nm).length c1)) from Upd.trans (hP23.mono (fun _ _ h=>h.elim)) hu4 (fun _ _ h=>h))
 generalize hw4:w3.setCell ⟨gb,cc,none⟩ (.slice A1 (typesOf g nm).length c1)=w4 at *
 have q1:w4.cell? ⟨nb,2,none⟩=some (.slice (some ⟨hb0,0,none⟩) N2.nx.length cap2):=by unfold World.cell?;simp only[hs4.blk];rfl
 obtain⟨u2,q2',q3,hgl4⟩:∃ u,w4.cell? ⟨hb0,cc,none⟩=some u/\w4.frozen? ⟨hb0,cc,none⟩=false/\hb0 < w4.heap.size:=by
  obtain⟨inner,h1,_⟩:=hs4.cn.own
  obtain⟨u,_,h⟩:=own_cell h1 (i:=cc) (by omega)
  exact⟨u,h⟩
 obtain⟨hs5,hu5⟩:=NetS.nx2 (c:=cc) (x:=(b:Int)) hs4 (by show cc < N2.nx.length;omega)
 have HS5:=mK hs5
 have HU5:=mK hu5
 have HSZ:=mK hP23.size
 clear hs3 hs4 hu4 hs5 hu5 hP23 hw4 hbx4 q2 s1 s2 s3 s4
 go_wp2
 go_end0
 refine⟨rfl,?_⟩
 obtain⟨a1,b1⟩:=Grow.comp HG2.o HU2.o Grow.same (HU4.o.tt HU5.o)
 have hfin:NetGo (w.alloc (.cells #[.int .i64 1,.string nm,.slice A l.length c] 92)) (w4.setCell ⟨hb0,cc,none⟩ (.int .i64 b)) B M nb (N2.setBy cc (typesOf g nm) b):=⟨_,⟨_,_,_,_,_,HS5.o⟩,a1,b1⟩
 rw[<- HE.o]
 exact HST.o _ _ hfin
theorem ex_at2 {b o:Nat} {xs:List Ex} (h:exR.row w F (some ⟨b,o,none⟩) xs) {j:Nat} {x:Ex} (hx:xs[j]?=some x) :
 ∃ A1 c1,b < w.heap.size/\w.cell? ⟨b,o+j * 3,none⟩=some (.int .i64 x.k)/\w.cell? ⟨b,o+j * 3+1,none⟩=some (.string x.name)/\w.cell? ⟨b,o+j * 3+2,none⟩=some (.slice A1 x.l.length c1)/\x.l.length<=c1/\exR.row w F A1 x.l:=by
 obtain⟨b',o',A1,c1,hA,_,h1,h2,h3,h4,h5,h6⟩:=ex_at h hx
 cases hA
 exact⟨A1,c1,h1,h2,h3,h4,h5,h6⟩
theorem drop_at {α:Type} {l:List α} {k:Nat} {x:α} (hx:l[k]?=some x):l.drop k=x :: l.drop (k+1):=by
 obtain⟨h,rfl⟩:=List.getElem?_eq_some_iff.1 hx
 exact List.drop_eq_getElem_cons h
/-- Where the parts stand. -/
structure SeqS (g:List Grp) (l:List Ex) (a b:Nat) (N1:NetD) (R:NetD):Prop where
 ok:N1.Ok
 ha:a < N1.nx.length
 hb:b < N1.nx.length
 wt:N1.wt+8 * Ex.cnts l+1<=1048576
 live:x1p (typesOf g) l
 eq:x40 (typesOf g) l a b N1=R
theorem SeqS.next {g:List Grp} {l:List Ex} {x:Ex} {a b:Nat} {N1 R:NetD} (h:SeqS g (x :: l) a b N1 R) :
 N1.wt<=1048576/\N1.place.Ok/\a < N1.place.nx.length/\N1.nx.length < N1.place.nx.length/\liveE (typesOf g) x/\N1.place.wt+8 * x.cnt<=1048576/\SeqS g l N1.nx.length b (layE (typesOf g) x a N1.nx.length N1.place) R:=by
 obtain⟨ok,ha,hb,wt,lv,eq⟩:=h
 rw[Ex.cnts] at wt
 rw[x1p] at lv
 rw[x40] at eq
 have hl:=N1.x1o
 have hw:=N1.x4y
 have hcp:=x.x3r
 have hL:=laid_E (typesOf g) x N1.place a N1.nx.length (NetD.x4f ok) (by omega) (by omega)
 have hle:=hL.le
 have hwt:=layE_wt (typesOf g) x a N1.nx.length N1.place
 exact⟨by omega,NetD.x4f ok,by omega,by omega,lv.1,by omega,⟨hL.ok,by omega,by omega,by omega,lv.2,eq⟩⟩
/-- Where the choices stand. -/
structure AltS (g:List Grp) (l:List Ex) (a b:Nat) (N1:NetD) (R:NetD):Prop where
 ok:N1.Ok
 ha:a < N1.nx.length
 hb:b < N1.nx.length
 wt:N1.wt+8 * Ex.cnts l<=1048576
 live:x1p (typesOf g) l
 eq:x3z (typesOf g) l a b N1=R
theorem AltS.next {g:List Grp} {l:List Ex} {x:Ex} {a b:Nat} {N1 R:NetD} (h:AltS g (x :: l) a b N1 R) :
 liveE (typesOf g) x/\N1.wt+8 * x.cnt<=1048576/\AltS g l a b (layE (typesOf g) x a b N1) R:=by
 obtain⟨ok,ha,hb,wt,lv,eq⟩:=h
 rw[Ex.cnts] at wt
 rw[x1p] at lv
 rw[x3z] at eq
 have hL:=laid_E (typesOf g) x N1 a b ok ha hb
 have hle:=hL.le
 have hwt:=layE_wt (typesOf g) x a b N1
 exact⟨lv.1,by omega,⟨hL.ok,by omega,by omega,by omega,lv.2,eq⟩⟩
theorem lay_alt (nm:ByteArray) (l:List Ex) (hI:∀ x ∈ l,LayC x):LayD (.mk 3 nm l):=by
 intro w B M F G nb N A Ag c cg a b g h ok ha hb hr hgr hF hG hl hw hgl
 have HL:=mK (LayS.mk' (k0:=3) (nm:=nm) (l:=l) (c:=c) h hr hgr hF hG 92)
 have HI:=mK hI
 have HF:=mK hF
 have HG:=mK hG
 have hll:l.length<=1048576:=by have:=cnts_len l;rw[Ex.cnt] at hw;omega
 have HSS:As (AltS g (l.drop 0) a b N (layE (typesOf g) (.mk 3 nm l) a b N)):=⟨ok,ha,hb,by rw[Ex.cnt] at hw;rw[List.drop_zero];omega,by rw[List.drop_zero];rw[liveE,if_neg (by decide),if_neg (by decide),if_neg (by decide),if_pos rfl] at hl;exact hl.2,by rw[List.drop_zero,layE,if_neg (by decide),if_neg (by decide),if_neg (by decide),if_pos rfl]⟩
 generalize hR:layE (typesOf g) (.mk 3 nm l) a b N=R at *
 clear h hr hgr hF hG hl hw ok hI hR ha hb
 show Calls Tryz.prog 171 #[.pointer (some ⟨nb,0,none⟩),.agg #[.int .i64 3,.string nm,.slice A l.length c],.slice Ag g.length cg,.int .i64 a,.int .i64 b] w _
 go_enter Tryz.func171,Tryz.ntmps171
 go_wp2
 go_loopg [13] l.length (fun gg i wr=>∃ (k:Nat) (N1:NetD),k+gg=l.length/\i=.int .i64 k/\As (AltS g (l.drop k) a b N1 R)/\As (NetGo (w.alloc (.cells #[.int .i64 3,.string nm,.slice A l.length c] 92)) wr B M nb N1))
 case atStart=>exact⟨0,N,by omega,rfl,HSS,⟨HL.o.go⟩⟩
 case round=>
  obtain⟨k,N1,hk,rfl,HS,HN⟩:=hrel
  obtain⟨q0,q1,q2,q3⟩:=HL.o.box.go HN.o HL.o.nM
  by_cases hlt:k < l.length
  ·obtain⟨x,hx⟩:=gS hlt
   obtain⟨bb,o,A1,c1,rfl,_,hbl,d0,d1,d2,hle1,hrow1⟩:=ex_at (HL.o.row _ _ HN.o) hx
   obtain⟨g1,rfl⟩:=sC1 (by omega:0 < gk)
   have hss:=HS.o
   rw[drop_at hx] at hss
   obtain⟨lv1,wt1,hss2⟩:=hss.next
   have HOK:=mK HS.o.ok
   have HA1:=mK HS.o.ha
   have HC1:=mK HS.o.hb
   have HLV:=mK lv1
   have HWT:=mK wt1
   have HS2:=mK hss2
   have HX:=mK hx
   have HK:=mK hk
   have HR1:=mK hrow1
   have HG1:=mK (HL.o.grp _ _ HN.o)
   clear hss lv1 wt1 hss2 hx hk hrow1
   go_wp2_with (go_at_call 171;refine(HI.o x (List.mem_of_getElem? HX.o) _ _ B M F G nb _ A1 Ag c1 cg _ _ g HN.o HOK.o HA1.o HC1.o HR1.o HG1.o HF.o HG.o HLV.o HWT.o hgl).mono ?_;rintro e w2 ⟨rfl,hn⟩;have HN2:=mK hn;clear hn)
   go_roundg g1
   case measure=>omega
   case rel=>exact⟨k+1,_,by have:=HK.o;omega,by go_num,HS2,HN2⟩
  ·have hkl:k=l.length:=by omega
   subst hkl
   have hss:=HS.o
   rw[List.drop_length] at hss
   have HE:=mK hss.eq
   clear hss
   go_wp2
   go_end0
   refine⟨rfl,?_⟩
   have e1:=HE.o
   rw[x3z] at e1
   rw[<- e1]
   exact HL.o.start _ _ HN.o
theorem place_go2 {wr:World} {B:Nat} {M:Nat->Prop} {nb n:Nat} {N:NetD} (h:NetGo W wr B M nb N) (ok:N.Ok) (hb:N.wt<=1048576) (hn:N.nx.length=n) :
 Calls Tryz.prog 170 #[.pointer (some ⟨nb,0,none⟩)] wr fun r w'=>r=.returned (.int .i64 n)/\NetGo W w' B M nb N.place:=hn ▸ place_go h ok hb
theorem lay_seq (nm:ByteArray) (l:List Ex) (hI:∀ x ∈ l,LayC x):LayD (.mk 2 nm l):=by
 intro w B M F G nb N A Ag c cg a b g h ok ha hb hr hgr hF hG hl hw hgl
 have HL:=mK (LayS.mk' (k0:=2) (nm:=nm) (l:=l) (c:=c) h hr hgr hF hG 92)
 have HI:=mK hI
 have HF:=mK hF
 have HG:=mK hG
 have hll:l.length<=1048576:=by have:=cnts_len l;rw[Ex.cnt] at hw;omega
 have HSS:As (SeqS g (l.drop 0) a b N (layE (typesOf g) (.mk 2 nm l) a b N)):=⟨ok,ha,hb,by rw[Ex.cnt] at hw;rw[List.drop_zero];omega,by rw[List.drop_zero];rw[liveE,if_neg (by decide),if_neg (by decide),if_pos rfl] at hl;exact hl,by rw[List.drop_zero,layE,if_neg (by decide),if_neg (by decide),if_pos rfl]⟩
 generalize hR:layE (typesOf g) (.mk 2 nm l) a b N=R at *
 clear h hr hgr hF hG hl hw ok hI hR ha hb
 show Calls Tryz.prog 171 #[.pointer (some ⟨nb,0,none⟩),.agg #[.int .i64 2,.string nm,.slice A l.length c],.slice Ag g.length cg,.int .i64 a,.int .i64 b] w _
 go_enter Tryz.func171,Tryz.ntmps171
 go_wp2
 go_loopg [11,3] l.length (fun gg i av wr=>∃ (k a1:Nat) (N1:NetD),k+gg=l.length/\i=.int .i64 k/\av=.int .i64 a1/\As (SeqS g (l.drop k) a1 b N1 R)/\As (NetGo (w.alloc (.cells #[.int .i64 2,.string nm,.slice A l.length c] 92)) wr B M nb N1))
 case atStart=>exact⟨0,a,N,by omega,rfl,rfl,HSS,⟨HL.o.go⟩⟩
 case round=>
  obtain⟨k,a1,N1,hk,rfl,rfl,HS,HN⟩:=hrel
  obtain⟨q0,q1,q2,q3⟩:=HL.o.box.go HN.o HL.o.nM
  by_cases hlt:k < l.length
  ·obtain⟨x,hx⟩:=gS hlt
   obtain⟨bb,o,_,_,rfl,_,_,_,_,_,_,_⟩:=ex_at (HL.o.row _ _ HN.o) hx
   obtain⟨g1,rfl⟩:=sC1 (by omega:0 < gk)
   have hss:=HS.o
   rw[drop_at hx] at hss
   obtain⟨w1,ok1,ha1,hc1,lv1,wt1,hss2⟩:=hss.next
   have HOK:=mK HS.o.ok
   have HOK1:=mK ok1
   have HA1:=mK ha1
   have HC1:=mK hc1
   have HLV:=mK lv1
   have HWT:=mK wt1
   have HW1:=mK w1
   have HS2:=mK hss2
   have HX:=mK hx
   have HK:=mK hk
   clear hss w1 ok1 ha1 hc1 lv1 wt1 hss2 hx hk
   go_wp2_with (go_at_call 170;refine(place_go HN.o HOK.o HW1.o).mono ?_;rintro e w1 ⟨rfl,hn⟩;have HN1:=mK hn;clear hn;apply As.o)
   refine⟨?_⟩
   clear q0 q1 q2 q3
   obtain⟨q0,q1,q2,q3⟩:=HL.o.box.go HN1.o HL.o.nM
   obtain⟨A1,c1,hbl,d0,d1,d2,hle1,hrow1⟩:=ex_at2 (HL.o.row _ _ HN1.o) HX.o
   have HR1:=mK hrow1
   have HG1:=mK (HL.o.grp _ _ HN1.o)
   clear hrow1
   go_wp2_with (go_at_call 171;refine(HI.o x (List.mem_of_getElem? HX.o) _ _ B M F G nb _ A1 Ag c1 cg _ _ g HN1.o HOK1.o HA1.o HC1.o HR1.o HG1.o HF.o HG.o HLV.o HWT.o hgl).mono ?_;rintro e w2 ⟨rfl,hn⟩;have HN2:=mK hn;clear hn)
   go_roundg g1
   case measure=>omega
   case rel=>exact⟨k+1,_,_,by have:=HK.o;omega,by go_num,rfl,HS2,HN2⟩
  ·have hkl:k=l.length:=by omega
   subst hkl
   have hss:=HS.o
   rw[List.drop_length] at hss
   have HOK:=mK hss.ok
   have HA:=mK hss.ha
   have HW:=mK (show N1.wt<=1048576 by have:=hss.wt;omega)
   have HE:=mK hss.eq
   clear hss
   go_wp2_with (go_at_call 200;refine(x54 HN.o HOK.o HW.o HA.o).mono ?_;rintro e w1 ⟨rfl,hn⟩;have HN1:=mK hn;clear hn)
   go_end0
   refine⟨rfl,?_⟩
   have e1:=HE.o
   rw[x40] at e1
   rw[<- e1]
   exact HL.o.start _ _ HN1.o
/-- The net as it is read. -/
def NetV (w:World) (nb:Nat) (N:NetD):Prop:=∃ At ct Ab cb An cn,w.heap[nb]?=some (.cells #[.slice At N.tos.length ct,.slice Ab N.bys.length cb,.slice An N.nx.length cn] 229 (0,0))/\intR.slice.row w AnyB At N.tos/\intR.slice.row w AnyB Ab N.bys/\intR.row w AnyB An N.nx
theorem NetV.pure {nb:Nat} {N:NetD} (h:NetV w nb N) (hu:Pure w w1):NetV w1 nb N:=by
 obtain⟨At,ct,Ab,cb,An,cn,h0,h1,h2,h3⟩:=h
 exact⟨At,ct,Ab,cb,An,cn,(hu.block _ (lB h0) (fun h=>h)).trans h0,Rp.x01 h1 hu,Rp.x01 h2 hu,Rp.x01 h3 hu⟩
theorem CT.own' {M:Nat->Prop} {lab:Nat->Nat} {v:Value} {fs:List (List Int)} {vs:List Value} (h:CT w M lab v fs vs):intR.slice.own 83 w AnyB v fs:=by
 have hl:vs.length=fs.length:=by simpa using h.own.1
 refine⟨vs,h.own,fun _ _=>trivial,by simpa[Rp.slice] using hl,fun j x hx=>?_⟩
 have hj:j < vs.length:=by rw[hl];exact(List.getElem?_eq_some_iff.1 hx).1
 obtain⟨ho,_⟩:=h.each j vs[j] x (List.getElem?_eq_getElem hj) hx
 obtain⟨A,c,he,hlc,hr⟩:=Rp.x0c ho
 have e1:(vs.drop (j * intR.slice.sz)).take intR.slice.sz=[vs[j]]:=by
  show (vs.drop (j * 1)).take 1=_
  rw[Nat.mul_one,List.drop_eq_getElem_cons hj]
  rfl
 rw[e1,he]
 refine⟨A,c,rfl,hlc,Rp.x09 hr (fun k hk=>⟨trivial,?_⟩)⟩
 intro hk'
 obtain⟨inner,h7,_⟩:=ho
 exact own_ne h7 h.own (by decide) k hk hk'.symm
theorem NetS.view {B:Nat} {M:Nat->Prop} {lab:Nat->Nat} {nb:Nat} {N:NetD} {tv bv nv:Value} {vs:List Value} (h:NetS w B M lab nb N tv bv nv vs):NetV w nb N:=by
 obtain⟨At,ct,rfl,_,h1⟩:=Rp.x0c h.ct.own'
 obtain⟨Ab,cb,rfl,_,h2⟩:=Rp.x0c h.cb.own
 obtain⟨An,cn,rfl,_,h3⟩:=Rp.x0c h.cn.own
 exact⟨At,ct,Ab,cb,An,cn,h.blk,Rp.x09 h1 (fun _ _=>trivial),Rp.x09 h2 (fun _ _=>trivial),Rp.x09 h3 (fun _ _=>trivial)⟩
def netE:NetD:=⟨[],[],[]⟩
theorem netE_ok:netE.Ok:=⟨rfl,rfl,fun p q hq=>by simp[netE] at hq,fun p h=>by simp[netE] at h⟩
theorem netE_new (w:World):NetR (w.alloc (.cells #[.slice none 0 0,.slice none 0 0,.slice none 0 0] 229)) w.heap.size (fun k=>k=w.heap.size) w.heap.size netE:=by
 refine⟨fun _=>0,.slice none 0 0,.slice none 0 0,.slice none 0 0,[],⟨heap_alloc_new _ _,⟨rfl,rfl⟩,fun k hk=>⟨by omega,by simp;omega⟩,⟨World.ownsRow_nil _ _ _ _,fun k hk=>by simp[Value.ownBlock] at hk,fun i u x hu _=>by simp at hu⟩,⟨Rp.x0v _ _ _ _,fun k hk=>by simp[Value.ownBlock] at hk⟩,⟨Rp.x0v _ _ _ _,fun k hk=>by simp[Value.ownBlock] at hk⟩⟩⟩
theorem net0_eq:netE.place.place=net0:=rfl
theorem bool_info:(Tryz.prog.info? 4).map (fun i=>(i.zero,i.size,i.bytes))=some (some (.bool false),1,1):=by kernel_rfl
/-- A row of bools of the call's own. -/
abbrev BoolO (w:World) (F:Nat->Prop) (v:Value) (xs:List Bool):Prop:=Rp.bool.own 4 w F v xs
theorem bool_own {v:Value} {xs:List Bool}:BoolO w F v xs ↔ w.ownsRow 0 4 1 v xs.length (xs.map .bool)/\∀ k,v.ownBlock=some k->F k:=by
 constructor
 ·rintro ⟨inner,h1,h2,h3⟩
  have he:inner=xs.map .bool:=by
   have hil:inner.length=xs.length:=h1.1.trans (Nat.mul_one _)
   refine List.ext_getElem (by simp[hil]) (fun j hj1 hj2=>?_)
   have h4:=h3.2 j xs[j] (List.getElem?_eq_getElem (by omega))
   rw[show Rp.bool.sz=1 from rfl,Nat.mul_one,List.drop_eq_getElem_cons hj1] at h4
   have h5:[inner[j]]=[Value.bool xs[j]]:=h4
   simpa using h5
  rw[<- he]
  exact⟨h1,h2⟩
 ·rintro ⟨h1,h2⟩
  refine⟨_,h1,h2,⟨by simp[show Rp.bool.sz=1 from rfl],fun j x hx=>?_⟩⟩
  obtain⟨hj,rfl⟩:=List.getElem?_eq_some_iff.1 hx
  rw[show Rp.bool.sz=1 from rfl,Nat.mul_one,List.drop_eq_getElem_cons (by simpa using hj)]
  show [_]=[_]
  simp
theorem bool_set {g cap:Nat} {xs:List Bool} (h:BoolO w F (.slice (some ⟨g,0,none⟩) xs.length cap) xs) {i:Nat} (hi:i < xs.length) (b:Bool):BoolO (w.setCell ⟨g,i,none⟩ (.bool b)) F (.slice (some ⟨g,0,none⟩) (xs.set i b).length cap) (xs.set i b):=by
 obtain⟨h1,h2⟩:=bool_own.1 h
 refine bool_own.2 ⟨?_,h2⟩
 rw[List.length_set,List.map_set]
 exact x5b h1 hi _
theorem bool_form {v:Value} {xs:List Bool} (h:BoolO w F v xs) (h0:0 < xs.length):∃ g cap,v=.slice (some ⟨g,0,none⟩) xs.length cap/\F g/\g < w.heap.size:=by
 obtain⟨h1,h2⟩:=bool_own.1 h
 obtain⟨g,cap,rfl,_,h3⟩:=h1.form h0
 exact⟨g,cap,rfl,h2 g rfl,h3⟩
theorem bool_cell {g cap:Nat} {xs:List Bool} (h:BoolO w F (.slice (some ⟨g,0,none⟩) xs.length cap) xs) {i:Nat} {b:Bool} (hi:xs[i]?=some b):w.cell? ⟨g,i,none⟩=some (.bool b)/\w.frozen? ⟨g,i,none⟩=false:=by
 obtain⟨h1,_⟩:=bool_own.1 h
 obtain⟨u,h3,h4,h5,_⟩:=own_cell h1 (i:=i) (List.getElem?_eq_some_iff.1 hi).1
 rw[List.getElem?_map,hi] at h3
 cases h3
 exact⟨h4,h5⟩
def falses (l:List Bool):Nat:=l.count false
theorem falses_set:∀ {l:List Bool} {i:Nat},l[i]?=some false->falses (l.set i true)+1=falses l
 | b :: r,0,h=>by simp at h;subst h;simp[falses]
 | b :: r,i+1,h=>by
   have:=falses_set (l:=r) (i:=i) (by simpa using h)
   unfold falses at *
   rw[List.set_cons_succ,List.count_cons,List.count_cons]
   omega
structure Spr (N:NetD) (xs out:List Bool):Prop where
 len:out.length=N.nx.length
 sub:∀ j,xs.getD j false=true->out.getD j false=true
 snd:∀ j,out.getD j false=true->∃ i,xs.getD i false=true/\Rch N.E i [] j
theorem x55 {α:Type} {l:List α} {i:Nat} {x d:α} (h:l[i]?=some x):l.getD i d=x:=by simp[List.getD,h]
theorem set_true {out:List Bool} {q j:Nat} (h:out.getD j false=true):(out.set q true).getD j false=true:=by
 rw[x47]
 split
 ·rfl
 ·exact h
theorem Spr.set {N:NetD} {xs out:List Bool} (h:Spr N xs out) {k q:Nat} (hk:out.getD k false=true) (hq:(q:Int) ∈ N.tos.getD k []):Spr N xs (out.set q true) where
 len:=by rw[List.length_set];exact h.len
 sub:=fun j hj=>set_true (h.sub j hj)
 snd:=fun j hj=>by
  rw[x47] at hj
  split at hj
  ·rename_i hc
   obtain⟨i,hi,hr⟩:=h.snd k hk
   exact⟨i,hi,hr.trans (Rch.one (.inl ⟨rfl,hc.1 ▸ hq⟩))⟩
  ·exact h.snd j hj
/-- All ways of the places below k are followed. -/
def ClsTo (N:NetD) (out:List Bool) (k:Nat):Prop:=∀ p,p < k->out.getD p false=true->∀ y ∈ N.tos.getD p [],out.getD y.toNat false=true
/-- What spread says. -/
structure SpreadR (N:NetD) (xs out:List Bool):Prop where
 len:out.length=N.nx.length
 iff:∀ j,out.getD j false=true ↔ ∃ i,xs.getD i false=true/\Rch N.E i [] j
theorem rch_eps {N:NetD} {i j:Nat} {u:List Int} (h:Rch N.E i u j):u=[]->∀ out:List Bool,ClsTo N out N.nx.length->N.Ok->out.getD i false=true->out.getD j false=true:=by
 induction h with
 | nil p=>intro _ out _ _ h;exact h
 | cons he hr ih=>
   intro hu out hc hok hi
   have h1:=(List.append_eq_nil_iff.1 hu)
   refine ih h1.2 out hc hok ?_
   have hlt:=(Ok.lt hok he).1
   rcases he with ⟨_,hm⟩ | ⟨t,ht,_⟩
   ·have:=hc _ hlt hi _ hm
    simpa using this
   ·rw[h1.1] at ht;cases ht
theorem Spr.done {N:NetD} {xs out:List Bool} (h:Spr N xs out) (hok:N.Ok) (hc:ClsTo N out N.nx.length):SpreadR N xs out:=
 ⟨h.len,fun j=>⟨h.snd j,fun ⟨i,hi,hr⟩=>rch_eps hr rfl out hc hok (h.sub i hi)⟩⟩
theorem bool_at {xs:List Bool} (h:Rp.bool.row w F A xs) {j:Nat} {x:Bool} (hx:xs[j]?=some x) :
 ∃ b o,A=some ⟨b,o,none⟩/\F b/\b < w.heap.size/\w.cell? ⟨b,o+j,none⟩=some (.bool x):=by
 obtain⟨b,o,cs,hA,hF,hb,hr,hc⟩:=Rp.x42 h hx
 have hr':cs=[.bool x]:=hr
 subst hr'
 have:=hc 0 _ rfl
 rw[show (Rp.bool.sz)=1 from rfl,Nat.mul_one] at this
 exact⟨b,o,hA,hF,hb,this⟩
theorem bool_form2 {v:Value} {xs:List Bool} {n:Nat} (h:BoolO w F v xs) (hn:xs.length=n) (h0:0 < n):∃ g cap,v=.slice (some ⟨g,0,none⟩) n cap/\F g/\g < w.heap.size:=by
 subst hn
 exact bool_form h h0
theorem x5u {g cap n:Nat} {xs:List Bool} (h:BoolO w F (.slice (some ⟨g,0,none⟩) n cap) xs) (hn:xs.length=n) {i:Nat} {b:Bool} (hi:xs[i]?=some b):w.cell? ⟨g,i,none⟩=some (.bool b)/\w.frozen? ⟨g,i,none⟩=false:=by
 subst hn
 exact bool_cell h hi
theorem bool_set2 {g cap n:Nat} {xs:List Bool} (h:BoolO w F (.slice (some ⟨g,0,none⟩) n cap) xs) (hn:xs.length=n) {i:Nat} (hi:i < n) (b:Bool):BoolO (w.setCell ⟨g,i,none⟩ (.bool b)) F (.slice (some ⟨g,0,none⟩) n cap) (xs.set i b):=by
 subst hn
 have:=bool_set h hi b
 rw[List.length_set] at this
 exact this
theorem NetV.tos {nb:Nat} {N:NetD} (h:NetV w nb N) (ok:N.Ok) {k:Nat} {x:List Int} (hx:N.tos[k]?=some x) :
 ∃ b o ct A1 c1,w.cell? ⟨nb,0,none⟩=some (.slice (some ⟨b,o,none⟩) N.nx.length ct)/\w.cell? ⟨b,o+k,none⟩=some (.slice A1 x.length c1)/\intR.row w AnyB A1 x:=by
 obtain⟨At,ct,Ab,cb,An,cn,h0,h1,h2,h3⟩:=h
 obtain⟨b,o,A1,c1,rfl,_,h4,h5⟩:=tyrow_at h1 hx
 rw[ok.tl] at h0
 exact⟨b,o,ct,A1,c1,by unfold World.cell?;simp only[h0];rfl,h4,h5⟩
theorem NetV.tos0 {nb:Nat} {N:NetD} (h:NetV w nb N) (ok:N.Ok):∃ At ct,w.cell? ⟨nb,0,none⟩=some (.slice At N.nx.length ct):=by
 obtain⟨At,ct,Ab,cb,An,cn,h0,h1,h2,h3⟩:=h
 rw[ok.tl] at h0
 exact⟨At,ct,by unfold World.cell?;simp only[h0];rfl⟩
theorem take_step {x:List Int} {q:Nat} {y:Int} (hy:x[q]?=some y) {z:Int} (hz:z ∈ x.take (q+1)):z ∈ x.take q\/z=y:=by
 rw[List.take_add_one,hy] at hz
 simpa using hz
theorem spread_calls {nb:Nat} {N:NetD} {xs:List Bool} (hN:NetV w nb N) (ok:N.Ok) (hx:Rp.bool.row w F A xs) (hl:xs.length=N.nx.length) (h0:0 < N.nx.length) (hb:N.nx.length<=1048576) (hrow:∀ x ∈ N.tos,x.length<=1048576) :
 Calls Tryz.prog 201 #[.pointer (some ⟨nb,0,none⟩),.slice A N.nx.length c] w fun r w'=>(∃ v out,r=.returned v/\BoolO w' (fun k=>w.heap.size<=k) v out/\SpreadR N xs out)/\Pure w w':=by
 have HN:=mK hN
 have HK:=mK ok
 have HX:=mK hx
 have HL:=mK hl
 have HR:=mK hrow
 have HB1:=mK (show xs.length<=1048576 by omega)
 clear hN ok hx hl hrow
 go_enter Tryz.func201,Tryz.ntmps201
 go_wp2_with (at_builtin;refine Rp.x1i Rp.bool (c:=c) (Rp.own_empty0 (F:=fun q=>w.heap.size<=q) Rp.bool (heap_alloc_new w _) (Nat.le_refl _)) (Rp.x1q (Rp.x01 HX.o (rU.alloc _)) (fun _ _ h=>h)) (Fz:=fun _=>False) (fun _ h=>h.elim) rfl _ _ 180 (.bool false) 1 rfl Tryz.underlying180 bool_info rfl (by decide) (by decide) rfl (by rw[HL.o];rfl) (by have:=HB1.o;simp only[List.length_nil];omega) ?_;intro v1 w1 ho1 hu1 hat;simp only[List.nil_append] at ho1;apply As.o)
 refine⟨?_⟩
 have HO1:As (BoolO w1 (fun k=>w.heap.size<=k) v1 xs):=⟨Rp.x3a ho1 (fun q hq=>by
  rcases hq with hq | hq | hq
  ·exact hq.1
  ·exact hq.elim
  ·rcases hat with hat | ⟨b,hb,hle⟩
   ·rw[hat] at hq;simp[Value.ownBlock] at hq;omega
   ·rw[hb] at hq;injection hq with hq;simp at hle;omega)⟩
 have HP1:As (Pure w w1):=⟨Upd.trans (rU.alloc _) hu1 (fun k hk h=>by simp[Value.ownBlock] at h;omega)⟩
 obtain⟨g,cap,rfl,hgF,hgl⟩:=bool_form2 HO1.o HL.o h0
 clear ho1 hu1 hat hgl
 go_wp2
 go_loopg [6] (falses xs+1) (fun gg m wr=>∃ (out:List Bool) (more:Bool),m=.bool more/\falses out+more.toNat<=gg/\As (Spr N xs out)/\As (more=false->ClsTo N out N.nx.length)/\As (BoolO wr (fun k=>w.heap.size<=k) (.slice (some ⟨g,0,none⟩) N.nx.length cap) out)/\As (Pure w wr))
 case atStart=>exact⟨xs,true,rfl,by simp,⟨⟨HL.o,fun _ h=>h,fun j h=>⟨j,h,.nil j⟩⟩⟩,⟨fun h=>by cases h⟩,HO1,HP1⟩
 case round=>
  obtain⟨out,more,rfl,hm,HS,HC,HO,HP⟩:=hrel
  cases more with
  | false=>
    go_wp2
    go_ret
    exact⟨⟨_,rfl,out,HO.o,HS.o.done HK.o (HC.o (by simp))⟩,HP.o⟩
  | true=>
    obtain⟨g1,rfl⟩:∃ m,gk=m+1:=⟨gk - 1,by simp at hm;omega⟩
    have HM:As (falses out<=g1):=⟨by simp at hm;omega⟩
    clear hm
    go_wp2
    go_loopg [7,6] N.nx.length (fun g2 i m wx=>∃ (k:Nat) (out1:List Bool) (m1:Bool),k+g2=N.nx.length/\i=.int .i64 k/\m=.bool m1/\As (falses out1+m1.toNat<=g1)/\As (Spr N xs out1)/\As (m1=false->ClsTo N out1 k)/\As (BoolO wx (fun k=>w.heap.size<=k) (.slice (some ⟨g,0,none⟩) N.nx.length cap) out1)/\As (Pure w wx))
    case atStart=>exact⟨0,out,false,by omega,rfl,rfl,⟨HM.o⟩,HS,⟨fun _ p hp=>absurd hp (by omega)⟩,HO,HP⟩
    case round=>
     obtain⟨k,out1,m1,hk,rfl,rfl,HF1,HS1,HC1,HOx,HPx⟩:=hrel
     obtain⟨At,ct,q0⟩:=(HN.o.pure HPx.o).tos0 HK.o
     by_cases hlt:k < N.nx.length
     ·obtain⟨x,hx⟩:∃ x,N.tos[k]?=some x:=⟨_,List.getElem?_eq_getElem (by rw[HK.o.tl];exact hlt)⟩
      obtain⟨g2,rfl⟩:=sC1 (by omega:0 < gk)
      have hxl:=HR.o x (List.mem_of_getElem? hx)
      have HX2:=mK hx
      have HKK:=mK hk
      clear hk hx
      go_wp2
      go_loopg [8,6] x.length (fun g3 j m wy=>∃ (q:Nat) (out2:List Bool) (m2:Bool),q+g3=x.length/\j=.int .i64 q/\m=.bool m2/\As (falses out2+m2.toNat<=g1)/\As (Spr N xs out2)/\As (m2=false->ClsTo N out2 k/\∀ y ∈ x.take q,out2.getD k false=true->out2.getD y.toNat false=true)/\As (BoolO wy (fun k=>w.heap.size<=k) (.slice (some ⟨g,0,none⟩) N.nx.length cap) out2)/\As (Pure w wy))
      case atStart=>exact⟨0,out1,m1,by omega,rfl,rfl,HF1,HS1,⟨fun h=>⟨HC1.o h,fun y hy=>by simp at hy⟩⟩,HOx,HPx⟩
      case round=>
       obtain⟨q,out2,m2,hq,rfl,rfl,HF2,HS2,HC2,HOy,HPy⟩:=hrel
       obtain⟨bt,ot,ct2,A1,c1,t0,t1,hr1⟩:=(HN.o.pure HPy.o).tos HK.o HX2.o
       obtain⟨bk,hbk⟩:∃ b,out2[k]?=some b:=⟨_,List.getElem?_eq_getElem (by rw[HS2.o.len];exact hlt)⟩
       obtain⟨u0,u1⟩:=x5u HOy.o HS2.o.len hbk
       have HR1:=mK hr1
       have HBK:=mK (x55 (d:=false) hbk)
       have HQ:=mK hq
       clear q0 hr1 hbk hq
       cases bk with
       | false=>
         go_wp2
         go_roundg g2
         case measure=>omega
         case rel=>exact⟨k+1,out2,m2,by have:=HKK.o;omega,by go_num,rfl,HF2,HS2,⟨fun h p hp hpt=>by
          rcases Nat.lt_succ_iff_lt_or_eq.1 hp with hp | rfl
          ·exact(HC2.o h).1 p hp hpt
          ·rw[HBK.o] at hpt;cases hpt⟩,HOy,HPy⟩
       | true=>
         by_cases hlt2:q < x.length
         ·obtain⟨y,hy⟩:=gS hlt2
          obtain⟨g3,rfl⟩:∃ m,gk=m+1:=⟨gk - 1,by have:=HQ.o;omega⟩
          obtain⟨by0,oy,rfl,_,_,y0⟩:=int_at HR1.o hy
          have hmem:y ∈ N.tos.getD k []:=by rw[x55 HX2.o];exact List.mem_of_getElem? hy
          obtain⟨hy1,hy2⟩:=HK.o.tgt k y hmem
          obtain⟨z,rfl⟩:∃ z:Nat,y=z:=⟨y.toNat,by omega⟩
          obtain⟨bz,hbz⟩:∃ b,out2[z]?=some b:=⟨_,List.getElem?_eq_getElem (by rw[HS2.o.len];omega)⟩
          obtain⟨v0,v1⟩:=x5u HOy.o HS2.o.len hbz
          have HME:=mK hmem
          have HBZ:=mK hbz
          have HY:=mK hy
          have hzl:z < N.nx.length:=by omega
          have hgl:=(Rp.x03 HOy.o g rfl).2
          clear hmem hbz hy
          cases bz with
          | false=>
            go_wp2
            go_roundg g3
            case measure=>omega
            case rel=>exact⟨q+1,out2.set z true,true,by have:=HQ.o;omega,by go_num,rfl,⟨by
             have h1:=falses_set HBZ.o
             have h2:=HF2.o
             show falses (out2.set z true)+1<=g1
             omega⟩,⟨HS2.o.set HBK.o HME.o⟩,⟨fun h=>by cases h⟩,⟨bool_set2 HOy.o HS2.o.len hzl true⟩,⟨HPy.o.trans (Upd.x1v (S:=fun k=>k=g) _ (p:=⟨g,z,none⟩) rfl _) (fun k hk h=>by have:=hgF;omega)⟩⟩
          | true=>
            go_wp2
            go_roundg g3
            case measure=>omega
            case rel=>exact⟨q+1,out2,m2,by have:=HQ.o;omega,by go_num,rfl,HF2,HS2,⟨fun h=>⟨(HC2.o h).1,fun y hy ht=>by
             rcases take_step HY.o hy with hy | rfl
             ·exact(HC2.o h).2 y hy ht
             ·simpa using x55 (d:=false) HBZ.o⟩⟩,HOy,HPy⟩
         ·have hql:q=x.length:=by have:=HQ.o;omega
          subst hql
          go_wp2
          go_roundg g2
          case measure=>omega
          case rel=>exact⟨k+1,out2,m2,by have:=HKK.o;omega,by go_num,rfl,HF2,HS2,⟨fun h p hp hpt=>by
           rcases Nat.lt_succ_iff_lt_or_eq.1 hp with hp | rfl
           ·exact(HC2.o h).1 p hp hpt
           ·intro y hy
            rw[x55 HX2.o] at hy
            have h2:=(HC2.o h).2 y
            rw[List.take_length] at h2
            exact h2 hy hpt⟩,HOy,HPy⟩
     ·have hkl:k=N.nx.length:=by omega
      subst hkl
      go_wp2
      go_roundg g1
      case measure=>omega
      case rel=>exact⟨out1,m1,rfl,HF1.o,HS1,HC1,HOx,HPx⟩
inductive PW (r:St):Int->List Int->Int->Prop
 | nil (x:Int):PW r x [] x
 | cons {x y z t:Int} {w:List Int}:y ∈ r.2.getD x.toNat []->t ∈ r.1.getD y.toNat []->PW r y w z->PW r x (t :: w) z
theorem PW.trans {r:St} {x y z:Int} {u v:List Int} (h:PW r x u y) (h':PW r y v z):PW r x (u ++ v) z:=by
 induction h with
 | nil x=>exact h'
 | cons h1 h2 _ ih=>exact .cons h1 h2 (ih h')
theorem PW.mono {r r':St} (h1:∀ i a,a ∈ r.1.getD i []->a ∈ r'.1.getD i []) (h2:∀ i a,a ∈ r.2.getD i []->a ∈ r'.2.getD i []) {x z:Int} {w:List Int} (h:PW r x w z):PW r' x w z:=by
 induction h with
 | nil x=>exact .nil x
 | cons a b _ ih=>exact .cons (h2 _ _ a) (h1 _ _ b) ih
def AccL (r:St) (p:Part) (w:List Int):Prop:=(w=[]/\p.none=true)\/∃ y t w' z,w=t :: w'/\y ∈ p.first/\t ∈ r.1.getD y.toNat []/\PW r y w' z/\z ∈ p.last
structure Glu (s r:St) (p:Part) (L:List Int->Prop):Prop where
 len0:s.1.length=s.2.length
 len:r.1.length=r.2.length
 le:s.1.length<=r.1.length
 old1:∀ i,i < s.1.length->r.1.getD i []=s.1.getD i []
 old2:∀ i,i < s.1.length->r.2.getD i []=s.2.getD i []
 first:∀ y ∈ p.first,(s.1.length:Int)<=y/\y < r.1.length
 last:∀ y ∈ p.last,(s.1.length:Int)<=y/\y < r.1.length
 row:∀ x:Int,(s.1.length:Int)<=x->x < r.1.length->∀ y ∈ r.2.getD x.toNat [],(s.1.length:Int)<=y/\y < r.1.length
 some:∃ w,L w
 none:p.none=true->L []
 word:∀ w,L w->AccL r p w
 sound:∀ T:List Int->Prop,∃ K:Int->List Int->Prop,(∀ x ∈ p.last,∀ v,T v->K x v) /\
  (∀ x y t v,(s.1.length:Int)<=x->x < r.1.length->y ∈ r.2.getD x.toNat []->t ∈ r.1.getD y.toNat []->K y v->K x (t :: v)) /\
  (∀ y t v,y ∈ p.first->t ∈ r.1.getD y.toNat []->K y v->∃ u v',t :: v=u ++ v'/\L u/\T v')
 trim:∀ x:Int,(s.1.length:Int)<=x->x < r.1.length->∃ w z,PW r x w z/\z ∈ p.last
theorem getD_none {α:Type} (l:List α) (d:α) (i:Nat) (h:l.length<=i):l.getD i d=d:=by simp[List.getD,List.getElem?_eq_none h]
theorem mem_old {s r:List (List Int)} {n:Nat} (hs:s.length=n) (h:∀ i,i < n->r.getD i []=s.getD i []) (i:Nat) (a:Int) (ha:a ∈ s.getD i []):a ∈ r.getD i []:=by
 rcases Nat.lt_or_ge i n with hi | hi
 ·rw[h i hi];exact ha
 ·rw[getD_none s [] i (by omega)] at ha
  cases ha
theorem Glu.imp {s r:St} {p:Part} {L M:List Int->Prop} (h:Glu s r p L) (hL:∀ w,L w ↔ M w):Glu s r p M:=by
 have:L=M:=funext fun w=>propext (hL w)
 exact this ▸ h
theorem glu_empty {s:St} (h:s.1.length=s.2.length):Glu s s ⟨true,[],[]⟩ (fun w=>w=[]) where
 len0:=h
 len:=h
 le:=Nat.le_refl _
 old1:=fun _ _=>rfl
 old2:=fun _ _=>rfl
 first:=fun y hy=>by cases hy
 last:=fun y hy=>by cases hy
 row:=fun x h1 h2=>by omega
 some:=⟨[],rfl⟩
 none:=fun _=>rfl
 word:=fun w hw=>.inl ⟨hw,rfl⟩
 sound:=fun T=>⟨fun _ _=>True,(fun x hx=>by cases hx),(fun _ _ _ _ _ _ _ _ _=>trivial),(fun y t v hy=>by cases hy)⟩
 trim:=fun x h1 h2=>by omega
theorem glu_name {s:St} (h:s.1.length=s.2.length) (l:List Int) (hl:l ≠ []):Glu s (s.1 ++ [l],s.2 ++ [[]]) ⟨false,[(s.1.length:Int)],[(s.1.length:Int)]⟩ (fun w=>∃ t,w=[t]/\t ∈ l):=by
 have g1:(s.1 ++ [l]).getD s.1.length []=l:=by rw[x3j,if_pos rfl]
 have g2:(s.2 ++ [[]]).getD s.1.length []=[]:=by rw[x3j,if_pos h]
 obtain⟨t0,ht0⟩:=List.exists_mem_of_ne_nil _ hl
 refine⟨h,by simp[h],by simp,fun i hi=>?_,fun i hi=>?_,fun y hy=>?_,fun y hy=>?_,fun x h1 h2 y hy=>?_,⟨[t0],t0,rfl,ht0⟩,(fun hn=>by cases hn),?_,fun T=>⟨fun _=>T,?_,?_,?_⟩,fun x h1 h2=>?_⟩
 ·rw[x3j,if_neg (by omega)]
 ·rw[x3j,if_neg (by omega)]
 ·rw[List.mem_singleton.1 hy];simp;omega
 ·rw[List.mem_singleton.1 hy];simp;omega
 ·simp at h2
  have:x=(s.1.length:Int):=by omega
  subst this
  simp only[Int.toNat_natCast] at hy
  rw[g2] at hy
  cases hy
 ·rintro w ⟨t,rfl,ht⟩
  exact .inr ⟨_,t,[],_,rfl,List.mem_singleton.2 rfl,by simp only[Int.toNat_natCast];rw[g1];exact ht,.nil _,List.mem_singleton.2 rfl⟩
 ·intro x hx v hv;exact hv
 ·intro x y t v h1 h2 hy
  simp at h2
  have:x=(s.1.length:Int):=by omega
  subst this
  simp only[Int.toNat_natCast] at hy
  rw[g2] at hy
  cases hy
 ·intro y t v hy ht hk
  rw[List.mem_singleton.1 hy] at ht
  simp only[Int.toNat_natCast] at ht
  rw[g1] at ht
  exact⟨[t],v,rfl,⟨t,rfl,ht⟩,hk⟩
 ·simp at h2
  have:x=(s.1.length:Int):=by omega
  subst this
  exact⟨[],_,.nil _,List.mem_singleton.2 rfl⟩
theorem glu_never {s:St} {r:St} {p:Part} {L:List Int->Prop} (h:Glu s r p L):Glu s r ⟨false || p.none,[] ++ p.first,[] ++ p.last⟩ L:=by
 simpa using h
theorem path_pw {r:St} {p:Part} {w:List Int} {x:Int} (hf:∀ y ∈ p.first,0<=y) (hr:∀ i,∀ y ∈ r.2.getD i [],0<=y) (h:Path r.1 r.2 p w x) :
 (w=[]/\x=-1)\/(0<=x/\∃ y t w',w=t :: w'/\y ∈ p.first/\t ∈ r.1.getD y.toNat []/\PW r y w' x):=by
 induction h with
 | nil=>exact .inl ⟨rfl,rfl⟩
 | snoc w x y t _ h2 h3 ih=>
   right
   rcases ih with ⟨rfl,rfl⟩ | ⟨hx,y0,t0,w',rfl,h4,h5,h6⟩
   ·unfold x19 at h2
    rw[if_pos rfl] at h2
    exact⟨hf y h2,y,t,[],rfl,h2,h3,.nil y⟩
   ·unfold x19 at h2
    rw[if_neg (by omega)] at h2
    exact⟨hr _ y h2,y0,t0,w' ++ [t],by simp,h4,h5,h6.trans (.cons h2 h3 (.nil y))⟩
theorem pw_path {r:St} {p:Part} (hr:∀ i,∀ y ∈ r.2.getD i [],0<=y) {y z:Int} {v:List Int} (h:PW r y v z):∀ u,0<=y->Path r.1 r.2 p u y->Path r.1 r.2 p (u ++ v) z:=by
 induction h with
 | nil x=>intro u _ hu;rwa [List.append_nil]
 | @cons x y z t w h1 h2 _ ih=>
   intro u hx hu
   have:=ih (u ++ [t]) (hr _ y h1) (.snoc u x y t hu (by unfold x19;rw[if_neg (by omega)];exact h1) h2)
   simpa using this
theorem PW.split {r:St} {x z:Int} {w:List Int} (h:PW r x w z):∀ u v,w=u ++ v->∃ y,PW r x u y/\PW r y v z:=by
 induction h with
 | nil x=>
   intro u v h
   obtain⟨rfl,rfl⟩:=List.append_eq_nil_iff.1 h.symm
   exact⟨x,.nil x,.nil x⟩
 | @cons x y z t w h1 h2 hr ih=>
   intro u v h
   cases u with
   | nil=>
     refine⟨x,.nil x,?_⟩
     rw[<- (show t :: w=v by simpa using h)]
     exact .cons h1 h2 hr
   | cons t' u'=>
     simp only[List.cons_append,List.cons.injEq] at h
     obtain⟨rfl,h⟩:=h
     obtain⟨s,h3,h4⟩:=ih u' v h
     exact⟨s,.cons h1 h2 h3,h4⟩
mutual
theorem live_of (g:List Grp):∀ (e:Ex) (i:Int),e.okB i=true->e.x2p g=true->liveE (typesOf g) e
 | .mk k nm l,i,h,hn=>by
   rw[Ex.x2p] at hn
   rw[Ex.okB] at h
   rw[liveE]
   by_cases h1:k=1
   ·rw[if_neg (by omega),if_pos h1]
    rw[if_pos h1] at hn
    intro he
    rw[he] at hn
    simp at hn
   ·rw[if_neg h1] at hn h
    split at h
    ·cases h
    ·rename_i hk
     simp only[Bool.and_eq_true,decide_eq_true_eq] at h
     have hs:=live_ofs g l k h.1.1.1 hn
     have hle:=h.1.2
     by_cases h0:k=0
     ·rw[if_pos h0];trivial
     ·rw[if_neg h0,if_neg h1]
      have hne:l ≠ []:=by
       intro he
       subst he
       unfold x23 at hle
       rw[if_neg h0] at hle
       split at hle <;> simp at hle
      split
      ·exact hs
      ·split
       ·exact⟨hne,hs⟩
       ·exact⟨hne,hs⟩
theorem live_ofs (g:List Grp):∀ (l:List Ex) (i:Int),Ex.oksB i l=true->Ex.x57 g l=true->x1p (typesOf g) l
 | [],_,_,_=>by rw[x1p];trivial
 | x :: r,i,h,hn=>by
   rw[Ex.oksB,Bool.and_eq_true] at h
   rw[Ex.x57,Bool.and_eq_true] at hn
   rw[x1p]
   exact⟨live_of g x i h.1 hn.1,live_ofs g r i h.2 hn.2⟩
end
theorem x5v {e:Ex} {g:List Grp} (h:x0k e g=0):liveE (typesOf g) e:=by
 obtain⟨⟨_,_,h1⟩,_,h2⟩:=(check_iff e g).1 h
 exact live_of g e 0 h1 h2
theorem Rp.row_here6 {α:Type} {d:Rp α} {xs:List α} (h:d.row w F A xs):d.row w (fun k=>k < w.heap.size) A xs:=Rp.x1d (fun _ _ hl=>⟨hl,hl,rfl⟩) h
theorem grp_info6:(Tryz.prog.info? 85).map (fun i=>(i.zero,i.size,i.bytes))=some (some (.agg #[.string ⟨#[]⟩,.slice none 0 0]),2,40):=by kernel_rfl
theorem fits_parts {x:Spec} (h:fitsB x=true):¬ x.marks < 0/\¬ x.marks > 7/\¬ x.least < 0/\¬ x.least > x.most/\¬ x.most > 15/\(x.leaf=true->x.expr=⟨#[]⟩):=by
 unfold fitsB at h
 simp only[Bool.and_eq_true,decide_eq_true_eq,Bool.or_eq_true,Bool.not_eq_true'] at h
 obtain⟨⟨⟨⟨⟨h1,h2⟩,h3⟩,h4⟩,h5⟩,h6⟩:=h
 refine⟨by omega,by omega,by omega,by omega,by omega,fun hl=>?_⟩
 rcases h6 with h6 | h6
 ·rw[h6] at hl;cases hl
 ·have:x.expr.data=#[]:=Array.eq_empty_of_size_eq_zero h6
  cases x with
  | mk a b c d e f g=>cases b;simp_all
end Go.Proofs.YtofjodppljnlaaaGreatDoor
