/- My own texts, packed: Check, HouseC, RunC, MarkL, Ref4. -/
import Derived.Test.YtofjodppljnlaaaGreatDoorP12
import Derived.Lib.RuneBytes
import Derived.Laws.ShiftsVar
import Derived.Laws.BitsLemmas
set_option maxRecDepth 100000
set_option maxHeartbeats 4000000
set_option linter.unusedVariables false
set_option linter.unusedSimpArgs false
variable {w w1 W:Go.World} {F G:Nat → Prop} {A B:Option Go.Addr} {cb c:Nat}
namespace Go.Proofs.YtofjodppljnlaaaGreatDoor
open Go.RowKit
theorem SchemaCheck_calls {rs:List (Spec × Ex)} {gs:List Grp} {l:List Tok} (h:SchR w cb rs gs) (hok:SchOk rs gs) (hr:tokR.row w F A l) (hb:l.length<=1048576 * 4) :
 Calls Tryz.prog 15 #[.pointer (some ⟨cb,0,none⟩),.slice A l.length c] w fun e w'=>e=.returned (.tuple #[.int .i64 (x12 rs gs l).1,.int .i64 (x12 rs gs l).2])/\Pure w w':=by
 by_cases hf:(x0a l).2=0
 ·exact schemaCheck_main h hok hr hb hf
 ·exact schemaCheck_flat h hok hr hb hf
theorem x2w:x02.length=8:=by kernel_rfl
theorem x3y:SchOk x02 x07:=by
 refine⟨fun h=>?_,?_,fun p hp=>?_,?_,fun x hx=>?_⟩
 ·have:=x2w
  rw[h] at this
  cases this
 ·rw[x2w];decide
 ·have h:x02.all (fun p=>decide (p.2.wt<=1048576 * 4))=true:=by kernel_rfl
  simpa using List.all_eq_true.1 h p hp
 ·have h:decide (x07.length<=1048576)=true:=by kernel_rfl
  exact of_decide_eq_true h
 ·have h:x07.all (fun x=>decide (x.types.length<=1048576))=true:=by kernel_rfl
  simpa using List.all_eq_true.1 h x hx
abbrev x0d (l:List Tok):Int × Int:=x12 x02 x07 l
theorem x3g {l:List Tok} (h:SchR w cb x02 x07) (hr:tokR.row w F A l) (hb:l.length<=1048576 * 4) :
 Calls Tryz.prog 15 #[.pointer (some ⟨cb,0,none⟩),.slice A l.length c] w fun e w'=>e=.returned (.tuple #[.int .i64 (x0d l).1,.int .i64 (x0d l).2])/\Pure w w':=SchemaCheck_calls h x3y hr hb
theorem awake_nil:x0d []=(0,9):=by kernel_rfl
theorem one_path {ty:List Int} {nn:Bool}:∀ (w:List Int) (x:Int),Path [ty] [[0]] ⟨nn,[0],[0]⟩ w x ↔ (w=[]/\x=-1)\/(w ≠ []/\x=0/\∀ t ∈ w,t ∈ ty):=by
 refine rev_ind (fun x=>?_) (fun w t ih x=>?_)
 ·constructor
  ·exact fun h=>.inl ⟨rfl,h.nil_inv⟩
  ·rintro (⟨_,rfl⟩ | ⟨h,_⟩)
   ·exact .nil
   ·exact absurd rfl h
 ·constructor
  ·intro h
   obtain⟨y,h1,h2,h3⟩:=h.snoc_inv
   have hx:x=0:=by
    rcases(ih y).1 h1 with ⟨_,rfl⟩ | ⟨_,rfl,_⟩
    ·simpa[x19] using h2
    ·simpa[x19] using h2
   subst hx
   refine .inr ⟨by simp,rfl,fun u hu=>?_⟩
   rcases List.mem_append.1 hu with hu | hu
   ·rcases(ih y).1 h1 with ⟨rfl,_⟩ | ⟨_,_,h4⟩
    ·cases hu
    ·exact h4 u hu
   ·rw[List.mem_singleton.1 hu]
    simpa using h3
  ·rintro (⟨h,_⟩ | ⟨_,rfl,h⟩)
   ·simp at h
   ·have ht:t ∈ ty:=h t (by simp)
    by_cases hw:w=[]
    ·subst hw
     exact .snoc [] (-1) 0 t .nil (by simp[x19]) (by simpa using ht)
    ·exact .snoc w 0 0 t ((ih 0).2 (.inr ⟨hw,rfl,fun u hu=>h u (by simp[hu])⟩)) (by simp[x19]) (by simpa using ht)
theorem none_path {p:Part} (hp:p.first=[]):∀ (w:List Int) (x:Int),Path [] [] p w x ↔ (w=[]/\x=-1):=by
 refine rev_ind (fun x=>?_) (fun w t ih x=>?_)
 ·constructor
  ·exact fun h=>⟨rfl,h.nil_inv⟩
  ·rintro ⟨_,rfl⟩
   exact .nil
 ·constructor
  ·intro h
   obtain⟨y,h1,h2,h3⟩:=h.snoc_inv
   simp at h3
  ·rintro ⟨h,_⟩
   simp at h
def tyOf (g:List Grp) (e:Ex):List Int:=(mcT g e).headD []
def nnOf (g:List Grp) (e:Ex):Bool:=(mcP g e).none
structure Sig (g:List Grp) (e:Ex):Prop where
 live:∀ w:List Int,w.length<=x18 e g w ↔ ∀ t ∈ w,t ∈ tyOf g e
 acc:∀ w:List Int,x0n e g w=true ↔ (w=[]->nnOf g e=true)/\∀ t ∈ w,t ∈ tyOf g e
theorem begins_iff {g:List Grp} {e:Ex} (hc:x0k e g=0) (w:List Int):w.length<=x18 e g w ↔ LiveE e g w:=by
 rw[begins_eq hc,<- run_full hc]
 have:=(run_spec hc w).2.1
 omega
theorem sig_one {g:List Grp} {e:Ex} (hc:x0k e g=0) {ty:List Int} {nn:Bool} (h1:mcT g e=[ty]) (h2:mcF g e=[[0]]) (h3:mcP g e=⟨nn,[0],[0]⟩):Sig g e:=by
 have hty:tyOf g e=ty:=by unfold tyOf;rw[h1];rfl
 have hnn:nnOf g e=nn:=by unfold nnOf;rw[h3]
 have hp:∀ w x,Path (mcT g e) (mcF g e) (mcP g e) w x ↔ (w=[]/\x=-1)\/(w ≠ []/\x=0/\∀ t ∈ w,t ∈ ty):=by
  rw[h1,h2,h3]
  exact one_path
 refine⟨fun w=>?_,fun w=>?_⟩
 ·rw[begins_iff hc,hty]
  constructor
  ·rintro ⟨x,hx⟩ t ht
   rcases(hp w x).1 hx with ⟨rfl,_⟩ | ⟨_,_,h⟩
   ·cases ht
   ·exact h t ht
  ·intro h
   by_cases hw:w=[]
   ·exact⟨-1,(hp w _).2 (.inl ⟨hw,rfl⟩)⟩
   ·exact⟨0,(hp w _).2 (.inr ⟨hw,rfl,h⟩)⟩
 ·rw[accepts_iff,hty,hnn]
  constructor
  ·rintro ⟨_,x,hx,he⟩
   rcases(hp w x).1 hx with ⟨rfl,rfl⟩ | ⟨hw,rfl,h⟩
   ·refine⟨fun _=>?_,fun t ht=>by cases ht⟩
    rw[h3] at he
    simpa[endS] using he
   ·exact⟨fun e=>absurd e hw,h⟩
  ·rintro ⟨ha,h⟩
   refine⟨hc,?_⟩
   by_cases hw:w=[]
   ·exact⟨-1,(hp w _).2 (.inl ⟨hw,rfl⟩),by rw[h3];simp[endS,ha hw]⟩
   ·exact⟨0,(hp w _).2 (.inr ⟨hw,rfl,h⟩),by rw[h3];simp[endS]⟩
theorem sig_none {g:List Grp} {e:Ex} (hc:x0k e g=0) (h1:mcT g e=[]) (h2:mcF g e=[]) (h3:(mcP g e).first=[]) (h4:(mcP g e).none=true):Sig g e:=by
 have hty:tyOf g e=[]:=by unfold tyOf;rw[h1];rfl
 have hp:∀ w x,Path (mcT g e) (mcF g e) (mcP g e) w x ↔ (w=[]/\x=-1):=by
  rw[h1,h2]
  exact none_path h3
 refine⟨fun w=>?_,fun w=>?_⟩
 ·rw[begins_iff hc,hty]
  constructor
  ·rintro ⟨x,hx⟩ t ht
   rw[((hp w x).1 hx).1] at ht
   cases ht
  ·intro h
   have hw:w=[]:=List.eq_nil_iff_forall_not_mem.2 (fun t ht=>by have:=h t ht;cases this)
   exact⟨-1,(hp w _).2 ⟨hw,rfl⟩⟩
 ·rw[accepts_iff,hty]
  constructor
  ·rintro ⟨_,x,hx,he⟩
   obtain⟨rfl,_⟩:=(hp w x).1 hx
   exact⟨fun _=>h4,fun t ht=>by cases ht⟩
  ·rintro ⟨ha,h⟩
   have hw:w=[]:=List.eq_nil_iff_forall_not_mem.2 (fun t ht=>by have:=h t ht;cases this)
   exact⟨hc,-1,(hp w _).2 ⟨hw,rfl⟩,by simp[endS,h4]⟩
theorem house_check_all:((List.range 9).all fun i=>decide (x0k (x0r x02 i).2 x07=0))=true:=by kernel_rfl
theorem x56 (t:Int):∃ i:Nat,i < 9/\x0r x02 t=x0r x02 (i:Int):=by
 by_cases h:t.toNat < 9
 ·refine⟨t.toNat,h,?_⟩
  unfold x0r
  rfl
 ·refine⟨8,by omega,?_⟩
  unfold x0r
  rw[List.getElem?_eq_none (by rw[x2w];omega),List.getElem?_eq_none (by rw[x2w];decide)]
theorem sig_nat (i:Nat) (hi:i < 9):Sig x07 (x0r x02 (i:Int)).2:=by
 have hc:x0k (x0r x02 (i:Int)).2 x07=0:=by simpa using List.all_eq_true.1 house_check_all i (List.mem_range.2 hi)
 have h:i=0\/i=1\/i=2\/i=3\/i=4\/i=5\/i=6\/i=7\/i=8:=by omega
 rcases h with rfl | rfl | rfl | rfl | rfl | rfl | rfl | rfl | rfl
 ·exact sig_one hc (ty:=[1,2,3,4,5,7]) (nn:=false) (by kernel_rfl) (by kernel_rfl) (by kernel_rfl)
 ·exact sig_one hc (ty:=[0]) (nn:=true) (by kernel_rfl) (by kernel_rfl) (by kernel_rfl)
 ·exact sig_one hc (ty:=[0]) (nn:=true) (by kernel_rfl) (by kernel_rfl) (by kernel_rfl)
 ·exact sig_one hc (ty:=[1,2,3,4,5,7]) (nn:=false) (by kernel_rfl) (by kernel_rfl) (by kernel_rfl)
 ·exact sig_one hc (ty:=[0]) (nn:=true) (by kernel_rfl) (by kernel_rfl) (by kernel_rfl)
 ·exact sig_one hc (ty:=[6]) (nn:=false) (by kernel_rfl) (by kernel_rfl) (by kernel_rfl)
 ·exact sig_one hc (ty:=[1,2,3,4,5,7]) (nn:=false) (by kernel_rfl) (by kernel_rfl) (by kernel_rfl)
 ·exact sig_none hc (by kernel_rfl) (by kernel_rfl) (by kernel_rfl) (by kernel_rfl)
 ·exact sig_none hc (by kernel_rfl) (by kernel_rfl) (by kernel_rfl) (by kernel_rfl)
theorem house_sig (t:Int):Sig x07 (x0r x02 t).2:=by
 obtain⟨i,hi,h⟩:=x56 t
 rw[h]
 exact sig_nat i hi
/-- flat.Check's depth. -/
def fcRun:Nat->List Tok->Option Nat
 | n,[]=>some n
 | n,x :: r=>if x0p x=false then none else if x.k=2 then (if n=0 then none else fcRun (n - 1) r) else if x.k=1 then (if n=32 then none else fcRun (n+1) r) else fcRun n r
theorem fcGo_run:∀ (l:List Tok) (k n:Nat),(fcGo k n l).2=0 ↔ fcRun n l=some 0:=by
 intro l
 induction l with
 | nil=>
   intro k n
   unfold fcGo fcRun
   by_cases h:n=0 <;> simp[h]
 | cons x r ih=>
   intro k n
   unfold fcGo fcRun
   by_cases hr:x0p x=false
   ·simp[hr]
   ·rw[if_neg hr]
    by_cases h2:x.k=2
    ·rw[if_pos h2]
     by_cases h0:n=0
     ·simp[h0,h2]
     ·rw[if_neg h0,if_neg (by simp[h0,hr]),if_neg (by omega),if_pos h2]
      exact ih _ _
    ·rw[if_neg (by simp[h2,hr])]
     simp only[if_neg h2]
     by_cases h1:x.k=1
     ·simp only[if_pos h1]
      by_cases h3:n=32
      ·simp[h3]
      ·simp only[if_neg h3]
       exact ih _ _
     ·simp only[if_neg h1]
      exact ih _ _
theorem fcRun_app:∀ (a b:List Tok) (n:Nat),fcRun n (a ++ b)=(fcRun n a).bind (fun m=>fcRun m b):=by
 intro a b
 induction a with
 | nil=>intro n;rfl
 | cons x r ih=>
   intro n
   rw[List.cons_append,fcRun,fcRun]
   split
   ·rfl
   ·split
    ·split
     ·rfl
     ·exact ih _
    ·split
     ·split
      ·rfl
      ·exact ih _
     ·exact ih _
section
variable (rs:List (Spec × Ex)) (gs:List Grp)
/-- The levels behind some tokens. -/
def ckRun:Lev->List Lev->List Tok->Option (Lev × List Lev)
 | top,below,[]=>some (top,below)
 | top,below,x :: r=>
   if x.k=2 then (match below with | []=>none | p :: q=>if x0n top.1.2 gs top.2=true then ckRun p q r else none)
   else if x36 rs gs top x=true then
    (if x.k=1 then ckRun (x0r rs x.t,[]) ((top.1,top.2 ++ [x.t]) :: below) r else ckRun (top.1,top.2 ++ [x.t]) below r)
   else none
end
section
variable {rs:List (Spec × Ex)} {gs:List Grp}
theorem x1f (top:Lev) (below:List Lev) (x:Tok) (r:List Tok):ckRun rs gs top below (x :: r) =
 if x.k=2 then (match below with | []=>none | p :: q=>if x0n top.1.2 gs top.2=true then ckRun rs gs p q r else none)
 else if x36 rs gs top x=true then
  (if x.k=1 then ckRun rs gs (x0r rs x.t,[]) ((top.1,top.2 ++ [x.t]) :: below) r else ckRun rs gs (top.1,top.2 ++ [x.t]) below r)
 else none:=by
 rw[ckRun.eq_def]
theorem x5l:∀ (a b:List Tok) (top:Lev) (below:List Lev),ckRun rs gs top below (a ++ b)=(ckRun rs gs top below a).bind (fun s=>ckRun rs gs s.1 s.2 b):=by
 intro a b
 induction a with
 | nil=>intro top below;rfl
 | cons x r ih=>
   intro top below
   rw[List.cons_append,x1f,x1f]
   split
   ·cases below with
    | nil=>rfl
    | cons p q=>
      simp only
      split
      ·exact ih _ _
      ·rfl
   ·split
    ·split
     ·exact ih _ _
     ·exact ih _ _
    ·rfl
/-- What Check says, as a run. -/
theorem ckGo_run:∀ (l:List Tok) (k:Nat) (top:Lev) (below:List Lev),fcRun below.length l=some 0->((ckGo rs gs k top below l).2=0 ↔ ∃ t,ckRun rs gs top below l=some (t,[])/\x0n t.1.2 gs t.2=true):=by
 intro l
 induction l with
 | nil=>
   intro k top below hf
   simp only[fcRun,Option.some.injEq] at hf
   obtain rfl:below=[]:=List.eq_nil_of_length_eq_zero hf
   rw[ck_end]
   constructor
   ·intro h
    refine⟨top,rfl,?_⟩
    by_cases ha:x0n top.1.2 gs top.2=true
    ·exact ha
    ·simp only[if_neg ha] at h
     omega
   ·rintro ⟨t,h,ha⟩
    simp only[ckRun,Option.some.injEq,Prod.mk.injEq] at h
    obtain⟨rfl,_⟩:=h
    simp only[if_pos ha]
 | cons x r ih=>
   intro k top below hf
   unfold fcRun at hf
   split at hf
   ·cases hf
   ·by_cases h2:x.k=2
    ·rw[if_pos h2] at hf
     cases below with
     | nil=>simp at hf
     | cons p q=>
       rw[if_neg (by simp)] at hf
       cases ha:x0n top.1.2 gs top.2
       ·rw[ck_noclose h2 ha,x1f,if_pos h2]
        simp[ha]
       ·rw[ck_close h2 ha,x1f,if_pos h2,ih (k+1) p q (by simpa using hf)]
        simp only[ha,if_true]
    ·rw[if_neg h2] at hf
     cases hs:x36 rs gs top x
     ·rw[ck_bad h2 hs,x1f,if_neg h2]
      simp[hs]
     ·by_cases h1:x.k=1
      ·rw[if_pos h1] at hf
       split at hf
       ·cases hf
       ·rw[ck_open h1 hs,x1f,if_neg h2,if_pos hs,if_pos h1]
        exact ih _ _ _ (by simpa using hf)
      ·rw[if_neg h1] at hf
       rw[ck_leaf h2 h1 hs,x1f,if_neg h2,if_pos hs,if_neg h1]
       exact ih _ _ _ hf
end
abbrev hRun (top:Lev) (below:List Lev) (l:List Tok):Option (Lev × List Lev):=ckRun x02 x07 top below l
abbrev hAcc (t:Lev):Bool:=x0n t.1.2 x07 t.2
abbrev hTop:Lev:=(x0r x02 0,[])
/-- What it is for a document to be the house's. -/
theorem x4w (l:List Tok):(x0d l).2=0 ↔ l.length<=2048/\fcRun 0 l=some 0/\∃ t,hRun hTop [] l=some (t,[])/\hAcc t=true:=by
 unfold x0d x12
 by_cases hl:l.length > 2048
 ·have h1:(x0a l).2 ≠ 0:=by unfold x0a;rw[if_pos hl];decide
  rw[if_neg h1]
  constructor
  ·exact fun h=>absurd h h1
  ·rintro ⟨h,_⟩
   omega
 ·have h1:x0a l=fcGo 0 0 l:=by unfold x0a;rw[if_neg hl]
  by_cases hf:(x0a l).2=0
  ·rw[if_pos hf]
   rw[h1,fcGo_run] at hf
   rw[ckGo_run l 0 hTop [] hf]
   constructor
   ·exact fun h=>⟨by omega,hf,h⟩
   ·exact fun h=>h.2.2
  ·rw[if_neg hf]
   constructor
   ·exact fun h=>absurd h hf
   ·rintro ⟨_,h,_⟩
    rw[h1,fcGo_run] at hf
    exact absurd h hf
abbrev tyR (r:Spec × Ex):List Int:=tyOf x07 r.2
/-- A level of the house whose word may be so far. -/
def Wd (a:Lev):Prop:=(∃ t,a.1=x0r x02 t)/\∀ t ∈ a.2,t ∈ tyR a.1
theorem Wd.sig {a:Lev} (h:Wd a):Sig x07 a.1.2:=by
 obtain⟨⟨t,ht⟩,_⟩:=h
 rw[ht]
 exact house_sig t
theorem wd_new (t:Int):Wd (x0r x02 t,[]):=⟨⟨t,rfl⟩,fun t ht=>by cases ht⟩
theorem x61 {a:Lev} (h:Wd a) (x:Tok):x36 x02 x07 a x=true ↔ mayT x02 a.1.1 x=true/\x.t ∈ tyR a.1:=by
 unfold x36
 rw[Bool.and_eq_true,decide_eq_true_eq]
 have:=h.sig.live (a.2 ++ [x.t])
 rw[List.length_append,List.length_singleton] at this
 rw[this]
 constructor
 ·exact fun ⟨h1,h2⟩=>⟨h1,h2 x.t (by simp)⟩
 ·exact fun ⟨h1,h2⟩=>⟨h1,fun t ht=>by
   rcases List.mem_append.1 ht with ht | ht
   ·exact h.2 t ht
   ·rw[List.mem_singleton.1 ht];exact h2⟩
theorem Wd.snoc {a:Lev} (h:Wd a) {t:Int} (ht:t ∈ tyR a.1):Wd (a.1,a.2 ++ [t]):=⟨h.1,fun u hu=>by
 rcases List.mem_append.1 hu with hu | hu
 ·exact h.2 u hu
 ·rw[List.mem_singleton.1 hu];exact ht⟩
theorem acc_snoc {a:Lev} (h:Wd a) (hn:a.2 ≠ []):hAcc a=true:=(h.sig.acc a.2).2 ⟨fun e=>absurd e hn,h.2⟩
/-- Two stacks of the same rules, alike but for the words. -/
inductive Rl:Lev->List Lev->Lev->List Lev->Prop
 | bot {a b:Lev}:a.1=b.1->Wd a->Wd b->Rl a [] b []
 | up {a b p p':Lev} {q q':List Lev}:a.1=b.1->Wd a->Wd b->hAcc a=hAcc b->Rl p q p' q'->Rl a (p :: q) b (p' :: q')
theorem Rl.snoc {a b:Lev} {q q':List Lev} (h:Rl a q b q') {t:Int} (ht:t ∈ tyR a.1):Rl (a.1,a.2 ++ [t]) q (b.1,b.2 ++ [t]) q':=by
 cases h with
 | bot h1 h2 h3=>exact .bot h1 (h2.snoc ht) (h3.snoc (by rw[<- h1];exact ht))
 | up h1 h2 h3 _ h5=>exact .up h1 (h2.snoc ht) (h3.snoc (by rw[<- h1];exact ht)) (by rw[acc_snoc (h2.snoc ht) (by simp),acc_snoc (h3.snoc (by rw[<- h1];exact ht)) (by simp)]) h5
theorem Rl.wd {a b:Lev} {q q':List Lev} (h:Rl a q b q'):a.1=b.1/\Wd a/\Wd b:=by
 cases h with
 | bot h1 h2 h3=>exact⟨h1,h2,h3⟩
 | up h1 h2 h3 _ _=>exact⟨h1,h2,h3⟩
/-- Stacks that are alike run alike. -/
theorem run_rl:∀ (l:List Tok) {a b t:Lev} {q q' z:List Lev},Rl a q b q'->hRun a q l=some (t,z)->∃ t' z',hRun b q' l=some (t',z')/\Rl t z t' z':=by
 intro l
 induction l with
 | nil=>
   intro a b t q q' z h hr
   simp only[hRun,ckRun,Option.some.injEq,Prod.mk.injEq] at hr
   obtain⟨rfl,rfl⟩:=hr
   exact⟨b,q',rfl,h⟩
 | cons x r ih=>
   intro a b t q q' z h hr
   unfold hRun at hr ⊢
   rw[x1f] at hr ⊢
   obtain⟨h1,h2,h3⟩:=h.wd
   by_cases hk:x.k=2
   ·rw[if_pos hk] at hr ⊢
    cases h with
    | bot=>cases hr
    | up _ _ _ h4 h5=>
      simp only at hr ⊢
      split at hr
      ·rename_i ha
       have hb:x0n b.1.2 x07 b.2=true:=h4.symm.trans ha
       rw[if_pos hb]
       exact ih h5 hr
      ·cases hr
   ·rw[if_neg hk] at hr ⊢
    split at hr
    ·rename_i hs
     have hs2:=(x61 h2 x).1 hs
     rw[if_pos ((x61 h3 x).2 (by rw[<- h1];exact hs2))]
     split at hr
     ·rename_i hk1
      rw[if_pos hk1]
      exact ih (.up rfl (wd_new _) (wd_new _) rfl (h.snoc hs2.2)) hr
     ·rename_i hk1
      rw[if_neg hk1]
      exact ih (h.snoc hs2.2) hr
    ·cases hr
structure StepD where
 k:Int
 fr:Int
 tt:Int
 gf:Int
 gt:Int
 ins:Int
 sl:List Tok
 mark:Int
def StepD.val (s:StepD) (A:Option Addr) (c:Nat):Value:=.agg #[.int .i64 s.k,.int .i64 s.fr,.int .i64 s.tt,.int .i64 s.gf,.int .i64 s.gt,.int .i64 s.ins,.slice A s.sl.length c,.int .i64 s.mark]
/-- One that puts tokens between two places. -/
def repl (a b:Int) (l:List Tok):StepD:=⟨0,a,b,0,0,0,l,0⟩
def x10 (m:Int):Prop:=m=1\/m=2\/m=4
instance (m:Int):Decidable (x10 m):=by unfold x10;infer_instance
/-- What a step of its kind must be. -/
def StepD.kindOk (s:StepD):Prop:=
 (s.k=1/\s.fr<=s.gf/\s.gf < s.gt/\s.gt<=s.tt/\0<=s.ins/\s.ins<=s.sl.length/\s.mark=0) \/
 (s.k=0/\s.mark=0/\s.gf=0/\s.gt=0/\s.ins=0) \/
 ((s.k=2\/s.k=3)/\s.fr < s.tt/\x10 s.mark/\s.sl=[]/\s.gf=0/\s.gt=0/\s.ins=0)
instance (s:StepD):Decidable s.kindOk:=by unfold StepD.kindOk;infer_instance
def StepD.ok (s:StepD):Prop:=0<=s.fr/\s.fr<=s.tt/\s.tt<=2048/\s.kindOk/\∀ x ∈ s.sl,x0p x=true
instance (s:StepD):Decidable s.ok:=by unfold StepD.ok;infer_instance
def x0q (s:StepD):Int:=if s.sl.length > 2048 then 2 else if s.ok then 0 else 1
/-- A mark put to a set, or taken from it. -/
def turnM (k m set:Int):Int:=
 if k=3 then (if (m=1/\(set=1\/set=3))\/(m=2/\(set=2\/set=3))\/(m=4/\set=4) then set - m else set)
 else if set=4\/m=4 then 4 else if (m=1/\(set=1\/set=3))\/(m=2/\(set=2\/set=3)) then set else set+m
def turnT (k m:Int) (x:Tok):Tok:=if x.k=0 then ⟨x.k,x.t,x.n,turnM k m x.m⟩ else x
def x0t (l:List Tok) (s:StepD):List Tok:=
 if s.k=0 then l.take s.fr.toNat ++ s.sl ++ l.drop s.tt.toNat
 else if s.k=1 then l.take s.fr.toNat ++ s.sl.take s.ins.toNat ++ (l.take s.gt.toNat).drop s.gf.toNat ++ s.sl.drop s.ins.toNat ++ l.drop s.tt.toNat
 else l.take s.fr.toNat ++ ((l.take s.tt.toNat).drop s.fr.toNat).map (turnT s.k s.mark) ++ l.drop s.tt.toNat
def x15 (l:List Tok) (s:StepD):Int:=
 if (x0a l).2 ≠ 0 then (x0a l).2
 else if x0q s ≠ 0 then x0q s
 else if s.tt > l.length then 1
 else if (x0a (x0t l s)).2=3 then 4 else (x0a (x0t l s)).2
/-- A step at a document that stays valid. -/
def x08 (l:List Tok) (s:StepD):Int:=if x15 l s ≠ 0 then x15 l s else (x0d (x0t l s)).2
theorem step_err_zero {l:List Tok} {s:StepD}:x15 l s=0 ↔ (x0a l).2=0/\x0q s=0/\s.tt<=l.length/\(x0a (x0t l s)).2=0:=by
 unfold x15
 constructor
 ·intro h
  split at h
  ·omega
  ·split at h
   ·omega
   ·split at h
    ·omega
    ·split at h
     ·omega
     ·omega
 ·rintro ⟨h1,h2,h3,h4⟩
  rw[if_neg (by omega),if_neg (by omega),if_neg (by omega),if_neg (by omega)]
  exact h4
theorem x27 {s:StepD}:x0q s=0 ↔ s.sl.length<=2048/\s.ok:=by
 unfold x0q
 constructor
 ·intro h
  split at h
  ·omega
  ·split at h
   ·rename_i h1 h2
    exact⟨by omega,h2⟩
   ·omega
 ·rintro ⟨h1,h2⟩
  rw[if_neg (by omega),if_pos h2]
/-- Is a mark in a set? -/
def bitP (set m:Int):Prop:=(m=1/\(set=1\/set=3))\/(m=2/\(set=2\/set=3))\/(m=4/\set=4)
instance (set m:Int):Decidable (bitP set m):=by unfold bitP;infer_instance
def placeV (m:Int):Int:=if m=1 then 0 else if m=2 then 1 else if m=4 then 2 else 3
theorem place_calls (m:Int) (w:World):Calls Tryz.prog 174 #[.int .i64 m] w fun r w'=>r=.returned (.int .i64 (placeV m))/\w'=w:=by
 by_cases h1:m=1
 ·subst h1
  go_enter Tryz.func174,Tryz.ntmps174
  go_wp2
  refine wp_loop_rounds 1 ?_
  rw[rounds_succ]
  go_wp2
  go_ret
  exact⟨rfl,rfl⟩
 ·by_cases h2:m=2
  ·subst h2
   go_enter Tryz.func174,Tryz.ntmps174
   go_wp2
   refine wp_loop_rounds 2 ?_
   rw[rounds_succ]
   go_wp2
   rw[rounds_succ]
   go_wp2
   go_ret
   exact⟨rfl,rfl⟩
  ·by_cases h4:m=4
   ·subst h4
    go_enter Tryz.func174,Tryz.ntmps174
    go_wp2
    refine wp_loop_rounds 3 ?_
    rw[rounds_succ]
    go_wp2
    rw[rounds_succ]
    go_wp2
    rw[rounds_succ]
    go_wp2
    go_ret
    exact⟨rfl,rfl⟩
   ·have hv:placeV m=3:=by unfold placeV;rw[if_neg h1,if_neg h2,if_neg h4]
    rw[hv]
    have e1:(m == 1)=false:=by simpa using h1
    have e2:(m == 2)=false:=by simpa using h2
    have e4:(m == 4)=false:=by simpa using h4
    clear h1 h2 h4 hv
    go_enter Tryz.func174,Tryz.ntmps174
    go_wp2
    refine wp_loop_rounds 4 ?_
    rw[rounds_succ]
    go_wp2
    rw[rounds_succ]
    go_wp2
    rw[rounds_succ]
    go_wp2
    rw[rounds_succ]
    go_wp2
    go_ret
    exact⟨rfl,rfl⟩
def mayV (set m:Int):Int:=if ¬ x10 m then 1 else if ¬ (0<=set/\set<=4) then 4 else 0
theorem place_three (m:Int):(placeV m == 3)=!decide (x10 m):=by
 by_cases h:x10 m
 ·rcases h with rfl | rfl | rfl <;> decide
 ·have h1:m ≠ 1/\m ≠ 2/\m ≠ 4:=by unfold x10 at h;omega
  simp[placeV,h1,h]
theorem mmay_calls (set m:Int) (w:World):Calls Tryz.prog 140 #[.int .i64 set,.int .i64 m] w fun r w'=>r=.returned (.int .i64 (mayV set m))/\w'=w:=by
 have hp:=place_three m
 by_cases h1:x10 m
 ·have hd:decide (x10 m)=true:=by simpa using h1
  rw[hd] at hp
  by_cases h2:0<=set/\set<=4
  ·have hb:markB set=true:=decide_eq_true (show MarkP set from h2)
   have hv:mayV set m=0:=by unfold mayV;rw[if_neg (by simpa using h1),if_neg (by simpa using h2)]
   rw[hv]
   have HR:=mK (x4a set)
   rw[hb] at HR
   have HP:=mK (place_calls m)
   generalize placeV m=pv at *
   clear h1 h2 hd hb hv
   go_enter Tryz.func140,Tryz.ntmps140
   go_wp2_with (first | (go_at_call 174;refine(HP.o _).mono ?_;rintro e w' ⟨rfl,rfl⟩) | (go_at_call 148;refine(HR.o _).mono ?_;rintro e w' ⟨rfl,rfl⟩))
   go_ret
   exact⟨rfl,rfl⟩
  ·have hb:markB set=false:=decide_eq_false (show ¬ MarkP set from h2)
   have hv:mayV set m=4:=by unfold mayV;rw[if_neg (by simpa using h1),if_pos h2]
   rw[hv]
   have HR:=mK (x4a set)
   rw[hb] at HR
   have HP:=mK (place_calls m)
   generalize placeV m=pv at *
   clear h1 h2 hd hb hv
   go_enter Tryz.func140,Tryz.ntmps140
   go_wp2_with (first | (go_at_call 174;refine(HP.o _).mono ?_;rintro e w' ⟨rfl,rfl⟩) | (go_at_call 148;refine(HR.o _).mono ?_;rintro e w' ⟨rfl,rfl⟩))
   go_ret
   exact⟨rfl,rfl⟩
 ·have hd:decide (x10 m)=false:=by simpa using h1
  rw[hd] at hp
  have hv:mayV set m=1:=by unfold mayV;rw[if_pos h1]
  rw[hv]
  have HP:=mK (place_calls m)
  generalize placeV m=pv at *
  clear h1 hd hv
  go_enter Tryz.func140,Tryz.ntmps140
  go_wp2_with (go_at_call 174;refine(HP.o _).mono ?_;rintro e w' ⟨rfl,rfl⟩)
  go_ret
  exact⟨rfl,rfl⟩
def hasP (set m:Int):Prop:=x10 m/\(0<=set/\set<=4)/\bitP set m
instance (set m:Int):Decidable (hasP set m):=by unfold hasP;infer_instance
theorem x5i {set m:Int}:mayV set m=0 ↔ x10 m/\0<=set/\set<=4:=by
 unfold mayV
 constructor
 ·intro h
  split at h
  ·omega
  ·rename_i h1
   split at h
   ·omega
   ·rename_i h2
    exact⟨by simpa using h1,by omega⟩
 ·rintro ⟨h1,h2⟩
  rw[if_neg (by simpa using h1),if_neg (by simpa using h2)]
theorem five {set:Int} (h:0<=set/\set<=4):set=0\/set=1\/set=2\/set=3\/set=4:=by omega
theorem Has_calls (set m:Int) (w:World):Calls Tryz.prog 90 #[.int .i64 set,.int .i64 m] w fun r w'=>r=.returned (.bool (decide (hasP set m)))/\w'=w:=by
 have HM:=mK (mmay_calls set m)
 by_cases h:mayV set m=0
 ·rw[h] at HM
  obtain⟨h1,h2⟩:=x5i.1 h
  clear h
  rcases h1 with rfl | rfl | rfl <;> rcases five h2 with rfl | rfl | rfl | rfl | rfl
  all_goals
   clear h2
   go_enter Tryz.func90,Tryz.ntmps90
   go_wp2_with (go_at_call 140;refine(HM.o _).mono ?_;rintro e w' ⟨rfl,rfl⟩)
   go_ret
   exact⟨by first | rfl | (congr 2;decide),rfl⟩
 ·have hv:decide (hasP set m)=false:=by
   rw[decide_eq_false_iff_not]
   exact fun h9=>h (x5i.2 ⟨h9.1,h9.2.1⟩)
  rw[hv]
  have e:(mayV set m == 0)=false:=by simpa using h
  generalize mayV set m=mv at *
  clear h hv
  go_enter Tryz.func90,Tryz.ntmps90
  go_wp2_with (go_at_call 140;refine(HM.o _).mono ?_;rintro e w' ⟨rfl,rfl⟩)
  go_ret
  exact⟨rfl,rfl⟩
def listL (set:Int) (k:Nat):List Int:=(([1,2,4]:List Int).take k).filter (fun m=>decide (hasP set m))
theorem listL_len (set:Int) (k:Nat):(listL set k).length<=3:=by
 unfold listL
 refine Nat.le_trans (List.length_filter_le _ _) ?_
 rw[List.length_take]
 simp
 omega
theorem list_one (set:Int):((listL set 3).length=1) ↔ x10 set:=by
 by_cases h:0<=set/\set<=4
 ·rcases five h with rfl | rfl | rfl | rfl | rfl <;> decide
 ·have h1:∀ m,decide (hasP set m)=false:=fun m=>decide_eq_false (fun h2=>h h2.2.1)
  have h2:listL set 3=[]:=by
   unfold listL
   rw[List.filter_eq_nil_iff]
   intro a _
   rw[h1]
   simp
  rw[h2]
  unfold x10
  constructor
  ·intro h3;cases h3
  ·intro h3;omega
theorem x5o (set:Int) (w:World):Calls Tryz.prog 152 #[.int .i64 set] w fun r w'=>(∃ A c,r=.returned (.slice A (listL set 3).length c))/\Pure w w':=by
 have HM:=mK (fun m w=>Has_calls set m w)
 go_enter Tryz.func152,Tryz.ntmps152
 go_wp2
 go_loopg [3,4] 3 (fun gg v kv wr=>∃ k:Nat,k+gg=3/\kv=.int .i64 k/\As (intRS.own 3 wr (fun q=>w.heap.size<=q) v (listL set k)/\Pure w wr))
 case atStart=>exact⟨0,by omega,rfl,⟨Rp.x0v _ _ _ _,Upd.refl _ _⟩⟩
 case round=>
  obtain⟨k,hk,rfl,HS⟩:=hrel
  have hcase:k=3\/∃ m:Int,(k=0/\m=1\/k=1/\m=2\/k=2/\m=4):=by
   rcases(by omega:k=0\/k=1\/k=2\/k=3) with h | h | h | h
   ·exact .inr ⟨1,.inl ⟨h,rfl⟩⟩
   ·exact .inr ⟨2,.inr (.inl ⟨h,rfl⟩)⟩
   ·exact .inr ⟨4,.inr (.inr ⟨h,rfl⟩)⟩
   ·exact .inl h
  rcases hcase with rfl | ⟨m,hm⟩
  ·obtain⟨A,c,rfl,_,_⟩:=Rp.x0c HS.o.1
   go_wp2
   go_ret
   exact⟨⟨_,_,rfl⟩,HS.o.2⟩
  ·obtain⟨ho,hp⟩:=HS.o
   have HO:=mK ho
   have HP:=mK hp
   have hll:=listL_len set k
   obtain⟨g1,rfl⟩:=sC1 (by omega:0 < gk)
   have HMM:=mK (HM.o m)
   have HLS:=mK (show listL set (k+1)=listL set k ++ (if decide (hasP set m)=true then [m] else []) by
    unfold listL
    rcases hm with ⟨rfl,rfl⟩ | ⟨rfl,rfl⟩ | ⟨rfl,rfl⟩
    all_goals
     rw[List.take_add_one,List.filter_append]
     congr 1
     simp[List.filter_cons])
   clear ho hp HS
   cases hb:decide (hasP set m)
   ·rw[hb] at HMM HLS
    have HLS2:=mK (show listL set (k+1)=listL set k by rw[HLS.o];simp)
    clear hb HLS
    rcases hm with ⟨rfl,rfl⟩ | ⟨rfl,rfl⟩ | ⟨rfl,rfl⟩
    ·go_wp2_with (go_at_call 90;refine(HMM.o _).mono ?_;rintro e w' ⟨rfl,rfl⟩)
     go_roundg g1
     case measure=>omega
     case rel=>exact⟨1,by omega,by first | rfl | go_num,⟨by rw[HLS2.o];exact HO.o,HP.o⟩⟩
    ·go_wp2_with (go_at_call 90;refine(HMM.o _).mono ?_;rintro e w' ⟨rfl,rfl⟩)
     go_roundg g1
     case measure=>omega
     case rel=>exact⟨2,by omega,by first | rfl | go_num,⟨by rw[HLS2.o];exact HO.o,HP.o⟩⟩
    ·go_wp2_with (go_at_call 90;refine(HMM.o _).mono ?_;rintro e w' ⟨rfl,rfl⟩)
     go_roundg g1
     case measure=>omega
     case rel=>exact⟨3,by omega,by first | rfl | go_num,⟨by rw[HLS2.o];exact HO.o,HP.o⟩⟩
   ·rw[hb] at HMM HLS
    have HLS2:=mK (show listL set (k+1)=listL set k ++ [m] by rw[HLS.o];simp)
    clear hb HLS
    rcases hm with ⟨rfl,rfl⟩ | ⟨rfl,rfl⟩ | ⟨rfl,rfl⟩
    ·go_wp2_with (first | (go_at_call 90;refine(HMM.o _).mono ?_;rintro e w' ⟨rfl,rfl⟩) | (at_builtin;refine Rp.x0o intRS HO.o (1:Int) [.int .i64 1] rfl (Fp:=fun _=>False) (G:=fun q=>w.heap.size<=q) (fun _ h=>h.elim) (fun _ h _=>h) (fun q hq=>by have:=HP.o.size;omega) rfl _ _ 83 _ 8 rfl Tryz.underlying83 x1n rfl (by decide) (by decide) rfl (by simp[Act.eval]) (by omega) ?_;intro v1 w1 ho1 hu1;have HO1:=mK ho1;have HU1:=mK (Upd.trans HP.o hu1 (fun q hq h=>by have:=Rp.x03 HO.o q h;omega));clear ho1 hu1))
     go_roundg g1
     case measure=>omega
     case rel=>exact⟨1,by omega,by first | rfl | go_num,⟨by rw[HLS2.o];exact HO1.o,HU1.o⟩⟩
    ·go_wp2_with (first | (go_at_call 90;refine(HMM.o _).mono ?_;rintro e w' ⟨rfl,rfl⟩) | (at_builtin;refine Rp.x0o intRS HO.o (2:Int) [.int .i64 2] rfl (Fp:=fun _=>False) (G:=fun q=>w.heap.size<=q) (fun _ h=>h.elim) (fun _ h _=>h) (fun q hq=>by have:=HP.o.size;omega) rfl _ _ 83 _ 8 rfl Tryz.underlying83 x1n rfl (by decide) (by decide) rfl (by simp[Act.eval]) (by omega) ?_;intro v1 w1 ho1 hu1;have HO1:=mK ho1;have HU1:=mK (Upd.trans HP.o hu1 (fun q hq h=>by have:=Rp.x03 HO.o q h;omega));clear ho1 hu1))
     go_roundg g1
     case measure=>omega
     case rel=>exact⟨2,by omega,by first | rfl | go_num,⟨by rw[HLS2.o];exact HO1.o,HU1.o⟩⟩
    ·go_wp2_with (first | (go_at_call 90;refine(HMM.o _).mono ?_;rintro e w' ⟨rfl,rfl⟩) | (at_builtin;refine Rp.x0o intRS HO.o (4:Int) [.int .i64 4] rfl (Fp:=fun _=>False) (G:=fun q=>w.heap.size<=q) (fun _ h=>h.elim) (fun _ h _=>h) (fun q hq=>by have:=HP.o.size;omega) rfl _ _ 83 _ 8 rfl Tryz.underlying83 x1n rfl (by decide) (by decide) rfl (by simp[Act.eval]) (by omega) ?_;intro v1 w1 ho1 hu1;have HO1:=mK ho1;have HU1:=mK (Upd.trans HP.o hu1 (fun q hq h=>by have:=Rp.x03 HO.o q h;omega));clear ho1 hu1))
     go_roundg g1
     case measure=>omega
     case rel=>exact⟨3,by omega,by first | rfl | go_num,⟨by rw[HLS2.o];exact HO1.o,HU1.o⟩⟩
theorem x4u {l:List Tok} (hr:tokR.row w F A l) (hb:l.length<=1048576 * 4) :
 Calls Tryz.prog 68 #[.slice A l.length c] w fun e w'=>e=.returned (.tuple #[.int .i64 (x0a l).1,.int .i64 (x0a l).2])/\Pure w w':=by
 by_cases hbig:l.length > 2048
 ·have he:x0a l=(0,2):=by unfold x0a;rw[if_pos hbig]
  rw[he]
  have hgt:((l.length:Int) > 2048):=by omega
  clear hbig
  go_enter Tryz.func68,Tryz.ntmps68
  go_wp2
  go_ret2
  exact⟨rfl,Upd.refl _ _⟩
 ·have hE:x0a l=fcGo 0 0 l:=by unfold x0a;rw[if_neg hbig]
  rw[hE]
  have hgt:¬ ((l.length:Int) > 2048):=by omega
  have HR:=mK hr
  clear hr hbig hE
  generalize hT:fcGo 0 0 l=T
  go_enter Tryz.func68,Tryz.ntmps68
  go_wp2
  go_loopg [4,5] l.length (fun g d i wr=>∃ k n:Nat,k+g=l.length/\d=.int .i64 n/\i=.int .i64 k/\n<=32/\As (fcGo k n (l.drop k)=T)/\As (Pure w wr))
  case atStart=>exact⟨0,0,by omega,rfl,rfl,by omega,⟨hT⟩,⟨Upd.refl _ _⟩⟩
  case round=>
   obtain⟨k,n,hk,rfl,rfl,hn,HS,HP⟩:=hrel
   by_cases hlt:k < l.length
   ·obtain⟨g1,rfl⟩:=sC1 (by omega:0 < gk)
    obtain⟨x,hx⟩:=gS hlt
    obtain⟨b,o,rfl,hF,hbl,c0,c1,c2,c3⟩:=x0j (Rp.x01 HR.o HP.o) hx
    have hst:=HS.o
    rw[drop_cons hx] at hst
    unfold fcGo at hst
    have HK:=mK hk
    have HFR:=mK (fun W (b:Bool) (h:x0p x=b)=>x4q h W)
    have hbb:b < wr.heap.size:=hbl
    have HTC:=mK (fun v (hu:Pure wr v)=>(hu.cell (b:=b) (o:=o+k * 4) hbb (fun h=>h)).trans c0)
    clear hx hk HS hF
    cases hrt:x0p x
    ·rw[if_pos (.inl hrt)] at hst
     subst hst
     have HR1:=mK hrt
     clear hrt
     go_wp2_with (go_at_call 97;refine(HFR.o _ _ HR1.o).mono ?_;rintro r w1 ⟨rfl,hu⟩;have HU1:=mK hu;clear hu)
     go_ret2
     exact⟨rfl,HP.o.tt HU1.o⟩
    ·have HR1:=mK hrt
     by_cases h2:x.k=2
     ·have e1:(x.k == 1)=false:=by simp[h2]
      have e2:(x.k == 2)=true:=by simp[h2]
      by_cases h0:n=0
      ·rw[if_pos (.inr ⟨h2,h0⟩)] at hst
       subst hst h0
       clear hrt h2
       go_wp2_with (go_at_call 97;refine(HFR.o _ _ HR1.o).mono ?_;rintro r w1 ⟨rfl,hu⟩;have d0:=HTC.o _ hu;have HU1:=mK hu;clear hu)
       go_ret2
       exact⟨rfl,HP.o.tt HU1.o⟩
      ·rw[if_neg (by simp[hrt,h0]),if_neg (by omega),if_pos h2] at hst
       have HV:=mK hst
       have e3:((n:Int) == 0)=false:=by simp;omega
       have e4:decide ((32:Int) < (n:Int) - 1)=false:=by simp;omega
       have hw1:IntKind.i64.wrap ((n:Int) - 1)=(n:Int) - 1:=IntWalk.i64_in _ (by omega)
       have i3:¬ ((32:Int) < (n:Int) - 1):=by omega
       have i5:(n == 0)=false:=by simpa using h0
       have HN:=mK h0
       clear hst hrt h2 h0
       go_wp2_with (go_at_call 97;refine(HFR.o _ _ HR1.o).mono ?_;rintro r w1 ⟨rfl,hu⟩;have d0:=HTC.o _ hu;have HU1:=mK hu;clear hu)
       go_roundg g1
       case measure=>omega
       case rel=>exact⟨k+1,n - 1,by have:=HK.o;omega,by congr 1;have:=HN.o;omega,by go_num,by omega,HV,⟨HP.o.tt HU1.o⟩⟩
     ·have e2:(x.k == 2)=false:=by simpa using h2
      rw[if_neg (by simp[hrt,h2])] at hst
      by_cases h1:x.k=1
      ·have e1:(x.k == 1)=true:=by simpa using h1
       rw[if_pos h1] at hst
       have hw1:IntKind.i64.wrap ((n:Int)+1)=(n:Int)+1:=IntWalk.i64_in _ (by omega)
       by_cases h32:n=32
       ·rw[if_pos h32] at hst
        subst hst h32
        clear hrt h2 h1
        go_wp2_with (go_at_call 97;refine(HFR.o _ _ HR1.o).mono ?_;rintro r w1 ⟨rfl,hu⟩;have d0:=HTC.o _ hu;have HU1:=mK hu;clear hu)
        go_ret2
        exact⟨rfl,HP.o.tt HU1.o⟩
       ·rw[if_neg h32] at hst
        have HV:=mK hst
        have i3:¬ ((32:Int) < (n:Int)+1):=by omega
        have i4:((n:Int)+1<=32):=by omega
        have HN:=mK h32
        clear hst hrt h2 h1 h32
        go_wp2_with (go_at_call 97;refine(HFR.o _ _ HR1.o).mono ?_;rintro r w1 ⟨rfl,hu⟩;have d0:=HTC.o _ hu;have HU1:=mK hu;clear hu)
        go_roundg g1
        case measure=>omega
        case rel=>exact⟨k+1,n+1,by have:=HK.o;omega,by go_num,by go_num,by have:=HN.o;omega,HV,⟨HP.o.tt HU1.o⟩⟩
      ·have e1:(x.k == 1)=false:=by simpa using h1
       rw[if_neg h1,if_neg h2] at hst
       have HV:=mK hst
       have i3:¬ ((32:Int) < (n:Int)):=by omega
       clear hst hrt h2 h1
       go_wp2_with (go_at_call 97;refine(HFR.o _ _ HR1.o).mono ?_;rintro r w1 ⟨rfl,hu⟩;have d0:=HTC.o _ hu;have HU1:=mK hu;clear hu)
       go_roundg g1
       case measure=>omega
       case rel=>exact⟨k+1,n,by have:=HK.o;omega,rfl,by go_num,hn,HV,⟨HP.o.tt HU1.o⟩⟩
   ·obtain rfl:k=l.length:=by omega
    have hst:=HS.o
    rw[List.drop_length] at hst
    unfold fcGo at hst
    clear HS
    by_cases h0:n=0
    ·subst h0
     rw[if_pos rfl] at hst
     subst hst
     go_wp2
     go_ret2
     exact⟨rfl,HP.o⟩
    ·rw[if_neg h0] at hst
     subst hst
     have i3:(0:Int) < (n:Int):=by omega
     have i4:0 < n:=by omega
     go_wp2
     go_ret2
     exact⟨rfl,HP.o⟩
theorem open4_calls {l:List Tok} {at':Int} (hr:tokR.row w F A l) (hb:l.length<=1048576 * 4) (hlc:l.length<=c) :
 Calls Tryz.prog 137 #[.slice A l.length c,.int .i64 at'] w fun e w'=>∃ v,e=.returned v/\intRS.own 3 w' (fun k=>w.heap.size<=k) v (x1w l at')/\Pure w w':=by
 have HR:=mK hr
 clear hr
 by_cases h1:at' > l.length
 ·have HE:=mK (show x1w l at'=[] by unfold x1w;rw[if_pos h1])
  have h2:decide (at'<=(l.length:Int))=false:=decide_eq_false (by omega)
  have h3:decide ((0:Int) < at')=true:=decide_eq_true (by omega)
  clear h1
  by_cases hz:l.length=0
  ·have hz2:decide ((0:Int) < (l.length:Int))=false:=decide_eq_false (by omega)
   have hz3:decide (0 < l.length)=false:=decide_eq_false (by omega)
   go_enter Tryz.func137,Tryz.ntmps137
   go_wp2
   go_loopg [5,6] 0 (fun g v i wr=>i=.int .i64 0/\v=.slice none 0 0/\As (wr=w))
   case atStart=>exact⟨rfl,rfl,⟨rfl⟩⟩
   case round=>
    obtain⟨rfl,rfl,HW⟩:=hrel
    obtain rfl:=HW.o
    go_wp2
    go_ret
    exact⟨_,rfl,by rw[HE.o];exact Rp.x0v _ _ _ _,Upd.refl _ _⟩
  ·have hz2:decide ((0:Int) < (l.length:Int))=true:=decide_eq_true (by omega)
   have hz3:decide (0 < l.length)=true:=decide_eq_true (by omega)
   go_enter Tryz.func137,Tryz.ntmps137
   go_wp2
   go_loopg [5,6] 0 (fun g v i wr=>i=.int .i64 0/\v=.slice none 0 0/\As (wr=w))
   case atStart=>exact⟨rfl,rfl,⟨rfl⟩⟩
   case round=>
    obtain⟨rfl,rfl,HW⟩:=hrel
    obtain rfl:=HW.o
    go_wp2
    go_ret
    exact⟨_,rfl,by rw[HE.o];exact Rp.x0v _ _ _ _,Upd.refl _ _⟩
 ·have HE:=mK (show x1w l at'=stkGo 0 (l.take (max at' 0).toNat) [] by unfold x1w;rw[if_neg h1])
  by_cases hneg:at'<=0
  ·have hE:x1w l at'=[]:=by rw[HE.o,show (max at' 0).toNat=0 by omega];rfl
   have HE2:=mK hE
   have hmx:decide ((0:Int) < at')=false:=by simp;omega
   clear HE hE h1 hneg
   go_enter Tryz.func137,Tryz.ntmps137
   go_wp2
   go_loopg [5,6] 0 (fun g v i wr=>i=.int .i64 0/\v=.slice none 0 0/\As (wr=w))
   case atStart=>exact⟨rfl,rfl,⟨rfl⟩⟩
   case round=>
    obtain⟨rfl,rfl,HW⟩:=hrel
    obtain rfl:=HW.o
    go_wp2
    go_ret
    exact⟨_,rfl,by rw[HE2.o];exact Rp.x0v _ _ _ _,Upd.refl _ _⟩
  ·obtain⟨m,rfl⟩:∃ m:Nat,at'=m:=⟨at'.toNat,by omega⟩
   have hml:m<=l.length:=by omega
   have hml2:m<=c:=by omega
   have hmx:max (m:Int) 0=m:=by omega
   rw[hmx,Int.toNat_natCast] at HE
   have hle:decide ((m:Int)<=(l.length:Int))=true:=by simp;omega
   have hle2:decide (m<=l.length)=true:=by simp;omega
   clear hneg h1 hmx
   go_enter Tryz.func137,Tryz.ntmps137
   go_wp2
   go_loopg [5,6] m (fun g v i wr=>∃ k:Nat,k+g=m/\i=.int .i64 k/\As (StkRel w wr l m k v))
   case atStart=>exact⟨0,by omega,rfl,⟨[],Rp.x0v _ _ _ _,by simp,by simp,Upd.refl _ _⟩⟩
   case round=>
    obtain⟨k,hk,rfl,HS⟩:=hrel
    by_cases hlt:k < m
    ·obtain⟨s,hown,hsl,hse,hp⟩:=HS.o
     obtain⟨x,hx⟩:∃ x,l[k]?=some x:=⟨_,List.getElem?_eq_getElem (by omega)⟩
     have hx2:(l.take m)[k]?=some x:=by rw[List.getElem?_take,if_pos hlt];exact hx
     obtain⟨b,o,rfl,hFb,hbw,d0w,_,_,_⟩:=x0j HR.o hx
     have HD:=mK (fun v (hu:Pure w v)=>(hu.cell (b:=b) (o:=o+k * 4) hbw (fun h=>h)).trans d0w)
     have d0:=HD.o _ hp
     obtain⟨g1,rfl⟩:=sC1 (by omega:0 < gk)
     have hkl:k < l.length:=by omega
     have hkl2:decide ((k:Int) < (l.length:Int))=true:=by simp;omega
     have HX:=mK (And.intro hx2 (And.intro hsl hse))
     have HO:=mK hown
     have HP:=mK hp
     have HK:=mK hk
     clear hx hx2 hse hown hp hk HS d0w hFb hbw
     by_cases h1:x.k=1
     ·have e1:(x.k == 1)=true:=by simp[h1]
      have e2:(x.k == 2)=false:=by simp[h1]
      have HST:=mK (show x1b k x s=s ++ [(k:Int)] by unfold x1b;rw[if_pos h1])
      clear h1
      go_wp2_with (at_builtin;refine Rp.x0o intRS HO.o (k:Int) [.int .i64 k] rfl (Fp:=fun _=>False) (G:=fun q=>w.heap.size<=q) (fun _ h=>h.elim) (fun _ h _=>h) (fun q hq=>by have:=HP.o.size;omega) rfl _ _ 83 _ 8 rfl Tryz.underlying83 x1n rfl (by decide) (by decide) rfl (by simp[Act.eval]) (by omega) ?_;intro v1 w1 ho1 hu1;have HO1:=mK ho1;have HU1:=mK (Upd.trans HP.o hu1 (fun q hq h=>by have:=Rp.x03 HO.o q h;omega));have d0':=HD.o _ HU1.o;clear ho1 hu1)
      go_roundg g1
      case measure=>omega
      case rel=>exact⟨k+1,by have:=HK.o;omega,by go_num,⟨StkRel.step HX.o.1 HX.o.2.1 HX.o.2.2 (by rw[HST.o];exact HO1.o) HU1.o⟩⟩
     ·have e1:(x.k == 1)=false:=by simp[h1]
      by_cases h2:x.k=2
      ·have e2:(x.k == 2)=true:=by simp[h2]
       have HST:=mK (show x1b k x s=s.dropLast by unfold x1b;rw[if_neg h1,if_pos h2])
       clear h1 h2
       by_cases hs:s=[]
       ·subst hs
        rcases Rp.own_nil_val HO.o with rfl | ⟨a,cc,rfl⟩
        all_goals
         go_wp2
         go_roundg g1
         case measure=>omega
         case rel=>exact⟨k+1,by have:=HK.o;omega,by go_num,⟨StkRel.step HX.o.1 HX.o.2.1 HX.o.2.2 (by rw[HST.o];exact HO.o) HP.o⟩⟩
       ·obtain⟨a,cc,rfl⟩:=Rp.own_val HO.o hs
        obtain⟨n,hn⟩:∃ n,s.length=n+1:=⟨s.length - 1,by have:=List.length_pos_iff.2 hs;omega⟩
        have hcut:=Rp.own_take HO.o n (by omega)
        have hdl:s.take n=s.dropLast:=by rw[List.dropLast_eq_take,hn];rfl
        rw[hdl,<- HST.o] at hcut
        have HC:=mK hcut
        obtain⟨A1,c1,hv1,hle1,_⟩:=Rp.x0c HO.o
        simp only[Value.slice.injEq] at hv1
        have hnc:n+1<=cc:=by omega
        rw[hn]
        clear hcut hdl hs hv1 hle1
        go_wp2
        go_roundg g1
        case measure=>omega
        case rel=>exact⟨k+1,by have:=HK.o;omega,by go_num,⟨StkRel.step HX.o.1 HX.o.2.1 HX.o.2.2 HC.o HP.o⟩⟩
      ·have e2:(x.k == 2)=false:=by simp[h2]
       have HST:=mK (show x1b k x s=s by unfold x1b;rw[if_neg h1,if_neg h2])
       clear h1 h2
       go_wp2
       go_roundg g1
       case measure=>omega
       case rel=>exact⟨k+1,by have:=HK.o;omega,by go_num,⟨StkRel.step HX.o.1 HX.o.2.1 HX.o.2.2 (by rw[HST.o];exact HO.o) HP.o⟩⟩
    ·obtain rfl:k=m:=by omega
     have hkk:decide ((k:Int) < (k:Int))=false:=by simp
     go_wp2
     go_ret
     obtain⟨s,hown,hsl,hse,hp⟩:=HS.o
     refine⟨_,rfl,?_,hp⟩
     rw[List.drop_eq_nil_of_le (by rw[List.length_take];omega)] at hse
     rw[HE.o,<- hse]
     exact hown
end Go.Proofs.YtofjodppljnlaaaGreatDoor
