/- My own texts, packed: MOk, Acc, Lang, NetP, NetF. -/
import Derived.Test.YtofjodppljnlaaaGreatDoorP8
set_option maxRecDepth 100000
set_option maxHeartbeats 4000000
set_option linter.unusedVariables false
set_option linter.unusedSimpArgs false
variable {w w1 W:Go.World} {F G:Nat → Prop} {A B:Option Go.Addr} {cb c:Nat}
namespace Go.Proofs.YtofjodppljnlaaaGreatDoor
open Go.RowKit
open Go.Maps (Keyed)
theorem x4l:Keyed Tryz.prog 3:=Maps.int_keyed Tryz.underlying3
/-- Block b is a set of ints, of at most n. -/
def SetM (w:World) (b n:Nat) (S:Int->Bool):Prop:=∃ D:DataW Unit,w.ownsMap Tryz.prog 3 (plainElem Tryz.prog 4) b n D/\∀ x,(Lit.int .i64 x).wf=true->Maps.has D (.int .i64 x)=S x
theorem SetM.made (w:World):SetM (w.alloc (.map #[] 0)) w.heap.size 0 (fun _=>false):=⟨.map [],World.ownsMap_made _ _ _ _,fun x _=>rfl⟩
theorem SetM.kept {b n:Nat} {S:Int->Bool} {R:Nat->Prop} (h:SetM w b n S) (hu:Upd R w w1) (hR:¬ R b):SetM w1 b n S:=by
 obtain⟨D,hD,hS⟩:=h
 obtain⟨es,clock,h1,h2⟩:=hD
 exact⟨D,⟨es,clock,by rw[hu.block b (lB h1) hR];exact h1,h2⟩,hS⟩
theorem SetM.lt {b n:Nat} {S:Int->Bool} (h:SetM w b n S):b < w.heap.size:=by
 obtain⟨D,hD,_⟩:=h
 exact hD.lt
theorem has_put {D:DataW Unit} (hD:Maps.IsMap D) (x y:Int) (d:DataW Unit) (hx:(Lit.int .i64 x).wf=true):Maps.has (D.put (.int .i64 x) d) (.int .i64 y)=(Maps.has D (.int .i64 y) || decide (y=x)):=by
 by_cases h:y=x
 ·subst h
  rw[Maps.has_put_same hD (by trivial) d]
  simp
 ·rw[Maps.has_put_other (by simpa using h) d]
  simp[h]
/-- Which places of a list a type may come to. -/
def addS (ts:List (List Int)) (t:Int) (l:List Int) (y:Int):Bool:=l.any (fun a=>decide (a=y) && decide (t ∈ ts.getD a.toNat []))
theorem tyrow_at {R:Nat->Prop} {ts:List (List Int)} (h:intR.slice.row w R A ts) {n:Nat} {x:List Int} (hx:ts[n]?=some x) :
 ∃ b o A1 c1,A=some ⟨b,o,none⟩/\b < w.heap.size/\w.cell? ⟨b,o+n,none⟩=some (.slice A1 x.length c1)/\intR.row w R A1 x:=by
 obtain⟨b,o,cs,hA,_,hb,⟨A1,c1,rfl,_,hr⟩,hc⟩:=Rp.x42 h hx
 have:=hc 0 _ rfl
 rw[show intR.slice.sz=1 from rfl,Nat.mul_one,Nat.add_zero] at this
 exact⟨b,o,A1,c1,hA,hb,this,hr⟩
theorem addS_succ {ts:List (List Int)} {t:Int} {l:List Int} {k:Nat} {a:Int} (ha:l[k]?=some a) (y:Int):addS ts t (l.take (k+1)) y=(addS ts t (l.take k) y || (decide (a=y) && decide (t ∈ ts.getD a.toNat []))):=by
 unfold addS
 rw[List.take_add_one,ha,List.any_append]
 simp
theorem SetM.mono {b n n':Nat} {S:Int->Bool} (h:SetM w b n S) (hn:n<=n'):SetM w b n' S:=by
 obtain⟨D,hD,hS⟩:=h
 exact⟨D,hD.mono hn,hS⟩
theorem SetM.same {b n:Nat} {S S':Int->Bool} (h:SetM w b n S) (hn:∀ x,S x=S' x):SetM w b n S':=by
 have e:S=S':=funext hn
 rw[<- e]
 exact h
theorem small_list:∀ (T:Nat) (l:List Int),l.Pairwise (· ≠ ·)->(∀ x ∈ l,-1<=x/\x < T)->l.length<=T+1:=by
 intro T
 induction T with
 | zero=>
   intro l hp hl
   match l,hp,hl with
   | [],_,_=>simp
   | [x],_,_=>simp
   | x :: y :: r,hp,hl=>
     have h1:=hl x (by simp)
     have h2:=hl y (by simp)
     have h3:=(List.pairwise_cons.1 hp).1 y (by simp)
     omega
 | succ T ih=>
   intro l hp hl
   have h1:=ih (l.filter (fun x=>decide (x ≠ (T:Int)))) (hp.filter _) (fun x hx=>by
    obtain⟨ha,hb⟩:=List.mem_filter.1 hx
    have:=hl x ha
    simp at hb
    omega)
   have h2:l.length<=(l.filter (fun x=>decide (x ≠ (T:Int)))).length+1:=by
    clear ih h1 hl
    induction l with
    | nil=>simp
    | cons x r ih=>
      obtain⟨h3,h4⟩:=List.pairwise_cons.1 hp
      by_cases hx:x=(T:Int)
      ·have:r.filter (fun x=>decide (x ≠ (T:Int)))=r:=List.filter_eq_self.2 (fun y hy=>by have:=h3 y hy;simp;omega)
       rw[List.filter_cons_of_neg (by simp[hx]),this]
       simp
      ·rw[List.filter_cons_of_pos (by simp[hx])]
       have:=ih h4
       simp only[List.length_cons]
       omega
   omega
open Go.WideElems (Fit rd rg pl rd_val rd_key rg_of) in
/-- A set of places has at most so many. -/
theorem SetM.small {b n:Nat} {S:Int->Bool} (h:SetM w b n S) (T:Nat) (hT:∀ x,(Lit.int .i64 x).wf=true->S x=true->-1<=x/\x < T):SetM w b (T+1) S:=by
 obtain⟨D,hD,hS⟩:=h
 obtain⟨es',hes,hpw,_⟩:=hD.entries x4l
 obtain⟨es,clock,hb,F,hn,hDe⟩:=hD
 rw[hDe] at hes
 injection hes with hes
 have hk:∀ p ∈ es',∃ x,p.1=.int .i64 x/\(Lit.int .i64 x).wf=true:=by
  intro p hp
  rw[<- hes] at hp
  obtain⟨x,hx,rfl⟩:=List.mem_map.1 (mem_sorted.1 hp)
  obtain⟨y,hy⟩:=F.reads x hx
  rw[rg_of hy]
  obtain⟨z,_,hz,hw⟩:=Maps.keyOf_int_inv Tryz.underlying3 (rd_key hy)
  exact⟨z,hz,hw⟩
 have hlen:es'.length=es.size:=by rw[<- hes,length_sorted];simp
 let f:Lit × DataW Unit->Int:=fun p=>match p.1 with | .int _ x=>x | _=>0
 have hf:∀ p ∈ es',p.1=.int .i64 (f p):=by
  intro p hp
  obtain⟨x,hx,_⟩:=hk p hp
  simp[f,hx]
 have hs:=small_list T (es'.map f) (by
  rw[List.pairwise_map]
  exact hpw.imp_of_mem (fun {p q} hp hq hne he=>hne (by rw[hf p hp,hf q hq,he]))) (fun x hx=>by
  obtain⟨p,hp,rfl⟩:=List.mem_map.1 hx
  obtain⟨x,hx',hw⟩:=hk p hp
  have e:f p=x:=by simp[f,hx']
  rw[e]
  refine hT x hw ?_
  rw[<- hS x hw,hDe,hes,Maps.has_eq,List.any_eq_true]
  exact⟨p,hp,by rw[hx'];simp[Lit.sameKey]⟩)
 rw[List.length_map] at hs
 exact⟨D,⟨es,clock,hb,F,by omega,hDe⟩,hS⟩
end Go.Proofs.YtofjodppljnlaaaGreatDoor
namespace Go.Proofs.YtofjodppljnlaaaGreatDoor
open Go.RowKit
open Go.Maps (Keyed)
/-- Who may come behind a place; -1: the beginning. -/
def x19 (fs:List (List Int)) (p:Part) (x:Int):List Int:=if x=-1 then p.first else fs.getD x.toNat []
/-- The set behind a type. -/
def stepS (ts fs:List (List Int)) (p:Part) (S:Int->Bool) (t:Int) (y:Int):Bool:=
 (List.range (ts.length+1)).any (fun i=>S ((i:Int) - 1) && addS ts t (x19 fs p ((i:Int) - 1)) y)
theorem Upd.grownBy {q:Nat} (h:Upd (fun k=>k=q) w w1):w.grownBy w1 (some q):=
 ⟨h.os,h.tape,h.output,h.size,fun k hk hne=>h.block k hk (fun e=>hne (by rw[e]))⟩
theorem addS_in {ts:List (List Int)} {t:Int} {l:List Int} {y:Int} (h:addS ts t l y=true):y ∈ l:=by
 unfold addS at h
 obtain⟨a,ha,hb⟩:=List.any_eq_true.1 h
 simp at hb
 rw[<- hb.1];exact ha
/-- The set while the loop goes: what is left is not counted. -/
def leftS (ts fs:List (List Int)) (p:Part) (S:Int->Bool) (left:Lit->Bool) (t y:Int):Bool:=
 (List.range (ts.length+1)).any (fun i=>(S ((i:Int) - 1) && !left (.int .i64 ((i:Int) - 1))) && addS ts t (x19 fs p ((i:Int) - 1)) y)
theorem leftS_next {ts fs:List (List Int)} {p:Part} {S:Int->Bool} {left:Lit->Bool} {t x:Int} (h0:-1<=x) (h1:x < ts.length) (hS:S x=true) (y:Int) :
 (leftS ts fs p S left t y || addS ts t (x19 fs p x) y)=leftS ts fs p S (fun z=>left z && !z.sameKey (.int .i64 x)) t y:=by
 unfold leftS
 rw[Bool.eq_iff_iff,Bool.or_eq_true,List.any_eq_true,List.any_eq_true]
 constructor
 ·rintro (⟨i,hi,h⟩ | h)
  ·refine⟨i,hi,?_⟩
   simp only[Bool.and_eq_true,Bool.not_eq_true',Bool.and_eq_false_iff] at h ⊢
   exact⟨⟨h.1.1,.inl h.1.2⟩,h.2⟩
  ·refine⟨(x+1).toNat,List.mem_range.2 (by omega),?_⟩
   have e:(((x+1).toNat:Nat):Int) - 1=x:=by omega
   rw[e,hS,h]
   simp[Lit.sameKey]
 ·rintro ⟨i,hi,h⟩
  simp only[Bool.and_eq_true,Bool.not_eq_true',Bool.and_eq_false_iff] at h
  rcases h.1.2 with h2 | h2
  ·left
   refine⟨i,hi,?_⟩
   simp only[Bool.and_eq_true,Bool.not_eq_true']
   exact⟨⟨h.1.1,h2⟩,h.2⟩
  ·right
   have e:(i:Int) - 1=x:=by simpa[Lit.sameKey] using h2
   rw[<- e]
   exact h.2
theorem leftS_rng {ts fs:List (List Int)} {p:Part} {S:Int->Bool} {left:Lit->Bool} {t:Int} (hok:∀ x,∀ a ∈ x19 fs p x,0<=a/\a < ts.length) (y:Int) (h:leftS ts fs p S left t y=true):-1<=y/\y < ts.length:=by
 unfold leftS at h
 obtain⟨i,_,h⟩:=List.any_eq_true.1 h
 simp only[Bool.and_eq_true] at h
 have:=hok _ y (addS_in h.2)
 omega
theorem stepS_rng {ts fs:List (List Int)} {p:Part} {S:Int->Bool} {t:Int} (hok:∀ x,∀ a ∈ x19 fs p x,0<=a/\a < ts.length) (y:Int) (h:stepS ts fs p S t y=true):0<=y/\y < ts.length:=by
 unfold stepS at h
 obtain⟨i,_,h⟩:=List.any_eq_true.1 h
 simp only[Bool.and_eq_true] at h
 exact hok _ y (addS_in h.2)
/-- What holds at each round's head. -/
structure StepR (w:World) (N mb sb n:Nat) (D:DataW Unit) (ts fs:List (List Int)) (p:Part) (S:Int->Bool) (t:Int) (left:Lit->Bool) (g:Nat) (wr:World):Prop where
 rg:wr.ranges Tryz.prog 3 (plainElem Tryz.prog 4) sb (w.heap.size+4) n D left g
 set:SetM wr (w.heap.size+2) (ts.length+1) (leftS ts fs p S left t)
 pure:Pure w wr
 sz:w.heap.size+5<=wr.heap.size
 c0:wr.cell? ⟨w.heap.size,0,none⟩=some (.pointer (some ⟨mb,0,none⟩))
 c1:wr.cell? ⟨w.heap.size+1,0,none⟩=some (.int .i64 t)
 c3:wr.cell? ⟨w.heap.size+3,0,none⟩=some (.map (some (w.heap.size+2)))
theorem StepR.next {wr w2 w3:World} {N mb sb n g g2:Nat} {D:DataW Unit} {ts fs:List (List Int)} {p:Part} {S:Int->Bool} {t x:Int} {left:Lit->Bool} (h:StepR w N mb sb n D ts fs p S t left g wr)
 (hsb:sb < w.heap.size) (hok:∀ x,∀ a ∈ x19 fs p x,0<=a/\a < ts.length) (h0:-1<=x) (h1:x < ts.length) (hS:S x=true) (hr:w2.ranges Tryz.prog 3 (plainElem Tryz.prog 4) sb (w.heap.size+4) n D (fun z=>left z && !z.sameKey (.int .i64 x)) g2) (hu2:Upd (fun k=>k=w.heap.size+4) wr w2)
 (m:Nat) (hs:SetM w3 (w.heap.size+2) m (fun y=>leftS ts fs p S left t y || addS ts t (x19 fs p x) y)) (hu3:Upd (fun k=>k=w.heap.size+2) w2 w3) :
 StepR w N mb sb n D ts fs p S t (fun z=>left z && !z.sameKey (.int .i64 x)) g2 w3 where
 rg:=hr.kept hu3.grownBy (by simp;omega) (by simp)
 set:=(hs.same (fun y=>leftS_next h0 h1 hS y)).small ts.length (fun y _ hy=>leftS_rng hok y hy)
 pure:=(h.pure.trans hu2 (fun k hk e=>by omega)).trans hu3 (fun k hk e=>by omega)
 sz:=Nat.le_trans h.sz (Nat.le_trans hu2.size hu3.size)
 c0:=by rw[hu3.cell (by have:=h.sz;have:=hu2.size;omega) (by omega),hu2.cell (by have:=h.sz;omega) (by omega)];exact h.c0
 c1:=by rw[hu3.cell (by have:=h.sz;have:=hu2.size;omega) (by omega),hu2.cell (by have:=h.sz;omega) (by omega)];exact h.c1
 c3:=by rw[hu3.cell (by have:=h.sz;have:=hu2.size;omega) (by omega),hu2.cell (by have:=h.sz;omega) (by omega)];exact h.c3
/-- A machine that may be run. -/
structure MOk (ts fs:List (List Int)) (p:Part):Prop where
 lt:ts.length<=1000
 tl:∀ x ∈ ts,x.length<=1048576
 fl:fs.length=ts.length
 ok:∀ x,∀ a ∈ x19 fs p x,0<=a/\a < ts.length
 len:∀ x,(x19 fs p x).length<=1048576 * 1000
 last:∀ a ∈ p.last,0<=a/\a < ts.length
 ll:p.last.length<=1048576
/-- Only the beginning and places. -/
def InS (T:Nat) (S:Int->Bool):Prop:=∀ x,S x=true->-1<=x/\x < T
def emptyS (T:Nat) (S:Int->Bool):Bool:=!((List.range (T+1)).any (fun i=>S ((i:Int) - 1)))
def x1m (x:Int):Bool:=decide (x=-1)
/-- The set behind a word's longest beginning, and how long that is. -/
def runS (ts fs:List (List Int)) (p:Part):(Int->Bool)->List Int->(Int->Bool) × Nat
 | S,[]=>(S,0)
 | S,t :: r=>if emptyS ts.length (stepS ts fs p S t) then (S,0) else ((runS ts fs p (stepS ts fs p S t) r).1,(runS ts fs p (stepS ts fs p S t) r).2+1)
def endsS (p:Part) (S:Int->Bool):Bool:=(S (-1) && p.none) || p.last.any S
theorem startS_in (T:Nat):InS T x1m:=fun x h=>by simp[x1m] at h;omega
theorem stepS_in {ts fs:List (List Int)} {p:Part} (hM:MOk ts fs p) (S:Int->Bool) (t:Int):InS ts.length (stepS ts fs p S t):=fun y h=>by have:=stepS_rng hM.ok y h;omega
theorem runS_in {ts fs:List (List Int)} {p:Part} (hM:MOk ts fs p):∀ (word:List Int) (S:Int->Bool),InS ts.length S->InS ts.length (runS ts fs p S word).1:=by
 intro word
 induction word with
 | nil=>intro S h;exact h
 | cons t r ih=>
   intro S h
   unfold runS
   split
   ·exact h
   ·exact ih _ (stepS_in hM S t)
open Go.WideElems (Fit rd rg pl rd_val rd_key rg_of) in
/-- Is a set empty? -/
theorem SetM.empty {b n:Nat} {S:Int->Bool} (h:SetM w b n S) (T:Nat) (hT:InS T S) (hT2:T<=1000) :
 ∃ D:DataW Unit,w.ownsMap Tryz.prog 3 (plainElem Tryz.prog 4) b n D/\decide (Maps.size D=0)=emptyS T S:=by
 obtain⟨D,hD,hS⟩:=h
 refine⟨D,hD,?_⟩
 obtain⟨es',hes,hpw,_⟩:=hD.entries x4l
 obtain⟨es,clock,hb,F,hn,hDe⟩:=hD
 rw[hDe] at hes
 injection hes with hes
 have hk:∀ p ∈ es',∃ x,p.1=.int .i64 x/\(Lit.int .i64 x).wf=true:=by
  intro p hp
  rw[<- hes] at hp
  obtain⟨x,hx,rfl⟩:=List.mem_map.1 (mem_sorted.1 hp)
  obtain⟨y,hy⟩:=F.reads x hx
  rw[rg_of hy]
  obtain⟨z,_,hz,hw⟩:=Maps.keyOf_int_inv Tryz.underlying3 (rd_key hy)
  exact⟨z,hz,hw⟩
 have hD':D=.map es':=by rw[hDe,hes]
 rw[Bool.eq_iff_iff,decide_eq_true_eq,hD',Maps.size_eq]
 unfold emptyS
 rw[Bool.not_eq_true',List.any_eq_false]
 constructor
 ·intro h0 i hi
  have:es'=[]:=List.eq_nil_of_length_eq_zero h0
  subst this
  intro hc
  have hr:=hT _ hc
  have hw:(Lit.int .i64 ((i:Int) - 1)).wf=true:=WalkArith.wf_i64 (by omega)
  have:=hS _ hw
  rw[hD',hc] at this
  simp[Maps.has_eq] at this
 ·intro h0
  match es',hk,hD' with
  | [],_,_=>rfl
  | q :: r,hk,hD'=>
    obtain⟨x,hx,hw⟩:=hk q (by simp)
    have hh:S x=true:=by
     rw[<- hS x hw,hD',Maps.has_eq,List.any_cons,hx]
     simp[Lit.sameKey]
    have hr:=hT x hh
    exact absurd hh (by
     have:=h0 (x+1).toNat (List.mem_range.2 (by omega))
     have e:(((x+1).toNat:Nat):Int) - 1=x:=by omega
     rw[e] at this
     exact this)
/-- The element of a map's literal. -/
theorem wpList_insert_own {H:Type} {P:Program} (w:World) {ops:Array Oper} {rest:List Oper} {o:Oper} {a:Act} {Q:Exit->Act->World->Prop}
 (hg:o.guard=none) (m x v:Operand) (t:TypeId) (hop:o.op=Op.insert t m x v)
 (k e:TypeId) (K:Keyed P k) (ht:P.underlying t=some (.map k e)) (R:Value->Option (DataW H × List MemPlace)) (b n:Nat) (D:DataW H)
 (hm:a.eval m=.map (some b)) (hown:w.ownsMap P k R b n D) (hn:n < maxLen) (key val:Value) (kl:Lit) (hx:a.eval x=key) (hv:a.eval v=val) (hkey:keyOf P k key=some kl)
 (d:DataW H) (ps:List MemPlace) (hval:R val=some (d,ps))
 (hK:∀ w',w'.ownsMap P k R b (n+1) (D.put kl d)->w.grownBy w' (some b)->wpList P ops Q rest (a.put o.dst undef) w') :
 wpList P ops Q (o :: rest) a w:=by
 refine wpList_plain hg fun K' hK'=>?_
 obtain⟨w',hrun,r1,r2⟩:=hown.update K ht hn hkey hval
 unfold Oper.wp
 simp[execOp,hop,hm,hx,hv,hrun,Result.andThen]
 exact hK' _ _ (hK w' r1 r2)
/-- What ends a word at a place. -/
def endS (p:Part) (x:Int):Bool:=(decide (x=-1) && p.none) || (decide (x ≠ -1) && decide (x ∈ p.last))
theorem endsS_true {p:Part} {S:Int->Bool} {x:Int} (h:S x=true) (he:endS p x=true):endsS p S=true:=by
 unfold endS at he
 unfold endsS
 rw[Bool.or_eq_true] at he ⊢
 rcases he with he | he
 ·simp at he
  left
  rw[<- he.1,h,he.2]
  rfl
 ·simp at he
  right
  exact List.any_eq_true.2 ⟨x,he.2,h⟩
theorem endsS_false {p:Part} {S:Int->Bool} (hl:∀ a ∈ p.last,0<=a) (he:∀ x,S x=true->endS p x=false):endsS p S=false:=by
 unfold endsS
 rw[Bool.or_eq_false_iff]
 constructor
 ·cases h:S (-1)
  ·rfl
  ·have:=he _ h
   simpa[endS] using this
 ·rw[List.any_eq_false]
  intro a ha h
  have:=he a h
  have h0:=hl a ha
  simp[endS,ha] at this
  omega
structure EndR (w:World) (sb n:Nat) (D:DataW Unit) (p:Part) (S:Int->Bool) (left:Lit->Bool) (g:Nat) (wr:World):Prop where
 rg:wr.ranges Tryz.prog 3 (plainElem Tryz.prog 4) sb w.heap.size n D left g
 pure:Pure w wr
 sz:w.heap.size+1<=wr.heap.size
 no:∀ x,(Lit.int .i64 x).wf=true->S x=true->left (.int .i64 x)=false->endS p x=false
end Go.Proofs.YtofjodppljnlaaaGreatDoor
namespace Go.Proofs.YtofjodppljnlaaaGreatDoor
open Go.RowKit
/-- Followers are places. -/
def FrIn (s:St):Prop:=s.2.length=s.1.length/\∀ x ∈ s.2,∀ a ∈ x,0<=a/\a < s.1.length
theorem joinF_in {fs:List (List Int)} {last first:List Int} {n:Nat} (h:∀ x ∈ fs,∀ a ∈ x,0<=a/\a < n) (hf:∀ a ∈ first,0<=a/\a < n):∀ x ∈ joinF fs last first,∀ a ∈ x,0<=a/\a < n:=by
 unfold joinF
 induction last generalizing fs with
 | nil=>exact h
 | cons b r ih=>
   simp only[List.foldl_cons]
   refine ih (fun x hx a ha=>?_)
   rw[List.mem_iff_getElem?] at hx
   obtain⟨i,hi⟩:=hx
   rw[List.getElem?_modify] at hi
   split at hi
   ·obtain⟨y,hy,rfl⟩:=Option.map_eq_some_iff.1 hi
    rcases List.mem_append.1 ha with ha | ha
    ·exact h y (List.mem_of_getElem? hy) a ha
    ·exact hf a ha
   ·obtain⟨y,hy,rfl⟩:=Option.map_eq_some_iff.1 hi
    exact h y (List.mem_of_getElem? hy) a ha
theorem FrIn.up {s:St} {n:Nat} (h:FrIn s) (hn:s.1.length<=n):∀ x ∈ s.2,∀ a ∈ x,0<=a/\a < n:=fun x hx a ha=>by have:=h.2 x hx a ha;omega
mutual
theorem glu_fr (g:List Grp):∀ (e:Ex) (s:St),FrIn s->FrIn (glu g e s).1
 | .mk k nm l,s,hs=>by
   rw[glu]
   by_cases h0:k=0
   ·rw[if_pos h0];exact hs
   ·rw[if_neg h0]
    by_cases h1:k=1
    ·rw[if_pos h1]
     refine⟨by simp[hs.1],fun x hx a ha=>?_⟩
     rcases List.mem_append.1 hx with hx | hx
     ·have:=hs.2 x hx a ha
      simp only[List.length_append,List.length_singleton]
      omega
     ·simp at hx;subst hx;cases ha
    ·rw[if_neg h1]
     by_cases h3:k=3
     ·rw[if_pos h3];exact gluAlt_fr g l s _ hs
     ·rw[if_neg h3]
      by_cases h2:k=2
      ·rw[if_pos h2];exact gluSeq_fr g l s _ hs (by simp)
      ·rw[if_neg h2]
       have h4:=gluOne_fr g l s hs
       have h5:=gluOne_bd g l s
       refine⟨?_,?_⟩
       ·dsimp only
        split
        ·rw[x49];exact h4.1
        ·exact h4.1
       ·dsimp only
        split
        ·exact joinF_in h4.2 h5.first
        ·exact h4.2
theorem gluOne_fr (g:List Grp):∀ (l:List Ex) (s:St),FrIn s->FrIn (x2l g l s).1
 | [],s,h=>h
 | x :: _,s,h=>glu_fr g x s h
theorem gluAlt_fr (g:List Grp):∀ (l:List Ex) (s:St) (p:Part),FrIn s->FrIn (x2u g l s p).1
 | [],s,p,h=>h
 | x :: r,s,p,h=>gluAlt_fr g r _ _ (glu_fr g x s h)
theorem gluSeq_fr (g:List Grp):∀ (l:List Ex) (s:St) (p:Part),FrIn s->(∀ a ∈ p.last,0<=a)->FrIn (x2v g l s p).1
 | [],s,p,h,_=>h
 | x :: r,s,p,h,hp=>by
   have h1:=glu_fr g x s h
   have h2:=glu_bd g x s
   refine gluSeq_fr g r _ _ ⟨by rw[x49];exact h1.1,joinF_in h1.2 h2.first⟩ (fun a ha=>?_)
   rcases mem_ite_r ha with ha | ha
   ·exact hp a ha
   ·exact(h2.last a ha).1
end
mutual
/-- The types of places are those of names. -/
theorem glu_ty (g:List Grp) (Q:List Int->Prop) (hQ:∀ nm,Q (typesOf g nm)):∀ (e:Ex) (s:St),(∀ x ∈ s.1,Q x)->∀ x ∈ (glu g e s).1.1,Q x
 | .mk k nm l,s,hs=>by
   rw[glu]
   by_cases h0:k=0
   ·rw[if_pos h0];exact hs
   ·rw[if_neg h0]
    by_cases h1:k=1
    ·rw[if_pos h1]
     intro x hx
     rcases List.mem_append.1 hx with hx | hx
     ·exact hs x hx
     ·simp at hx;subst hx;exact hQ nm
    ·rw[if_neg h1]
     by_cases h3:k=3
     ·rw[if_pos h3];exact gluAlt_ty g Q hQ l s _ hs
     ·rw[if_neg h3]
      by_cases h2:k=2
      ·rw[if_pos h2];exact gluSeq_ty g Q hQ l s _ hs
      ·rw[if_neg h2];exact gluOne_ty g Q hQ l s hs
theorem gluOne_ty (g:List Grp) (Q:List Int->Prop) (hQ:∀ nm,Q (typesOf g nm)):∀ (l:List Ex) (s:St),(∀ x ∈ s.1,Q x)->∀ x ∈ (x2l g l s).1.1,Q x
 | [],s,h=>h
 | x :: _,s,h=>glu_ty g Q hQ x s h
theorem gluAlt_ty (g:List Grp) (Q:List Int->Prop) (hQ:∀ nm,Q (typesOf g nm)):∀ (l:List Ex) (s:St) (p:Part),(∀ x ∈ s.1,Q x)->∀ x ∈ (x2u g l s p).1.1,Q x
 | [],s,p,h=>h
 | x :: r,s,p,h=>gluAlt_ty g Q hQ r _ _ (glu_ty g Q hQ x s h)
theorem gluSeq_ty (g:List Grp) (Q:List Int->Prop) (hQ:∀ nm,Q (typesOf g nm)):∀ (l:List Ex) (s:St) (p:Part),(∀ x ∈ s.1,Q x)->∀ x ∈ (x2v g l s p).1.1,Q x
 | [],s,p,h=>h
 | x :: r,s,p,h=>gluSeq_ty g Q hQ r _ _ (glu_ty g Q hQ x s h)
end
theorem typesOf_mem (g:List Grp) (nm:ByteArray):typesOf g nm=[]\/∃ x ∈ g,typesOf g nm=x.types:=by
 induction g with
 | nil=>exact .inl rfl
 | cons x r ih=>
   unfold typesOf
   split
   ·exact .inr ⟨x,by simp,rfl⟩
   ·rcases ih with ih | ⟨y,hy,h⟩
    ·exact .inl ih
    ·exact .inr ⟨y,by simp[hy],h⟩
theorem long_types {g:List Grp} (h:longB g=false):∀ x ∈ g,x.types.length<=16/\∀ t ∈ x.types,0<=t/\t < 16:=by
 unfold longB at h
 rw[Bool.or_eq_false_iff,List.any_eq_false] at h
 intro x hx
 have:=h.2 x hx
 unfold grpB at this
 rw[Bool.not_eq_true,Bool.or_eq_false_iff,List.any_eq_false] at this
 refine⟨by have:=this.1;simp at this;exact this,fun t ht=>?_⟩
 have:=this.2 t ht
 unfold outB at this
 simp at this
 exact this
/-- The machine of a tree. -/
abbrev mcT (g:List Grp) (e:Ex):List (List Int):=(glu g e ([],[])).1.1
abbrev mcF (g:List Grp) (e:Ex):List (List Int):=(glu g e ([],[])).1.2
abbrev mcP (g:List Grp) (e:Ex):Part:=(glu g e ([],[])).2
theorem mc_ok {g:List Grp} {e:Ex} (h:x0k e g=0):MOk (mcT g e) (mcF g e) (mcP g e):=by
 obtain⟨h1,h2,_⟩:=x6f h
 obtain⟨hcnt,_⟩:=exprCheck_zero h1
 have hb:=glu_bd g e ([],[])
 have hf:=glu_fr g e ([],[]) ⟨rfl,by simp⟩
 have hfb:=glu_fb g e ([],[]) 0 (by simp) hcnt
 have ht:=glu_ty g (fun x=>x.length<=16) (fun nm=>by
  rcases typesOf_mem g nm with h | ⟨x,hx,h⟩
  ·rw[h];simp
  ·rw[h];exact(long_types h2 x hx).1) e ([],[]) (by simp)
 have hhi:=hb.hi
 simp only[List.length_nil,Nat.zero_add] at hhi
 refine⟨by show (glu g e ([],[])).1.1.length<=1000;omega,fun x hx=>by have:=ht x hx;omega,hf.1,fun x a ha=>?_,fun x=>?_,hb.last,by have:=hb.ll;show (glu g e ([],[])).2.last.length<=_;omega⟩
 ·unfold x19 at ha
  split at ha
  ·exact hb.first a ha
  ·cases hx:(mcF g e)[x.toNat]? with
   | none=>simp[List.getD,hx] at ha
   | some y=>simp[List.getD,hx] at ha;exact hf.2 y (List.mem_of_getElem? hx) a ha
 ·unfold x19
  split
  ·have:=hb.fl;show (glu g e ([],[])).2.first.length<=_;omega
  ·cases hx:(mcF g e)[x.toNat]? with
   | none=>simp[List.getD,hx]
   | some y=>simp[List.getD,hx];have:=hfb y (List.mem_of_getElem? hx);omega
/-- What reg.Accepts, Begins, Nexts say. -/
def x2b (e:Ex) (g:List Grp) (word:List Int):(Int->Bool) × Nat:=runS (mcT g e) (mcF g e) (mcP g e) x1m word
def x0n (e:Ex) (g:List Grp) (word:List Int):Bool:=decide (x0k e g=0) && (decide ((x2b e g word).2=word.length) && endsS (mcP g e) (x2b e g word).1)
def x18 (e:Ex) (g:List Grp) (word:List Int):Nat:=if x0k e g=0 then (x2b e g word).2 else 0
theorem runS_le (ts fs:List (List Int)) (p:Part):∀ (word:List Int) (S:Int->Bool),(runS ts fs p S word).2<=word.length:=by
 intro word
 induction word with
 | nil=>intro S;exact Nat.le_refl _
 | cons t r ih=>
   intro S
   unfold runS
   split
   ·exact Nat.zero_le _
   ·exact Nat.succ_le_succ (ih _)
open Go.Maps (Keyed)
theorem add_calls {N mb bm bt bo ob n:Nat} {ts fs:List (List Int)} {p:Part} {t:Int} {S:Int->Bool} {l:List Int} (hM:Mac w N mb ts fs p) (hNo:N<=ob) (hm:w.cell? ⟨bm,0,none⟩=some (.pointer (some ⟨mb,0,none⟩))) (ht:w.cell? ⟨bt,0,none⟩=some (.int .i64 t)) (ho:w.cell? ⟨bo,0,none⟩=some (.map (some ob)))
 (hlm:bm < w.heap.size) (hltt:bt < w.heap.size) (hlo:bo < w.heap.size) (hne:∀ k,k=mb\/k=bm\/k=bt\/k=bo->k ≠ ob) (hS:SetM w ob n S) (hr:intR.row w F A l) (hF:∀ k,F k->k < N) (hrng:∀ a ∈ l,0<=a/\a < ts.length) (hb:l.length<=1048576 * 1000) (hn:n+l.length<=1048576 * 1048576) (htl:∀ x ∈ ts,x.length<=1048576) (hts:ts.length<=1048576) :
 Calls Tryz.prog 194 #[.slice A l.length c,.pointer (some ⟨bm,0,none⟩),.pointer (some ⟨bt,0,none⟩),.pointer (some ⟨bo,0,none⟩)] w fun r w'=>r=.returned (.tuple #[])/\SetM w' ob (n+l.length) (fun y=>S y || addS ts t l y)/\Upd (fun k=>k=ob) w w':=by
 have HM:=mK hM
 have HR:=mK hr
 have HG:=mK hrng
 have HS:=mK hS
 have HTL:=mK htl
 have HNE:=mK hne
 have HC:=mK (And.intro hm (And.intro ht ho))
 clear hM hr hrng hS htl hne hm ht ho
 go_enter Tryz.func194,Tryz.ntmps194
 go_wp2
 go_loopg [9] l.length (fun g i wr=>∃ k:Nat,k+g=l.length/\i=.int .i64 k/\As (SetM wr ob (n+k) (fun y=>S y || addS ts t (l.take k) y)/\Upd (fun k=>k=ob) w wr))
 case atStart=>exact⟨0,by omega,rfl,⟨by simpa[addS] using HS.o,Upd.refl _ _⟩⟩
 case round=>
  obtain⟨k,hk,rfl,HP⟩:=hrel
  obtain⟨hset,hu⟩:=HP.o
  by_cases hlt:k < l.length
  ·obtain⟨x,hx⟩:=gS hlt
   obtain⟨g1,rfl⟩:=sC1 (by omega:0 < gk)
   obtain⟨b,o,rfl,hFb,hbb,d0⟩:=int_at (Rp.x0f HR.o hu (fun q _ hq he=>by have:=hF q hq;omega)) hx
   obtain⟨hx0,hx1⟩:=HG.o x (List.mem_of_getElem? hx)
   obtain⟨a,rfl⟩:∃ a:Nat,x=a:=⟨x.toNat,by omega⟩
   obtain⟨hmN,hNw,At,ct,Ag,cg,Af,cf,Al,cl,hbk,hty,_,_,_⟩:=HM.o.upd hu (fun q hq=>by omega)
   obtain⟨y,hy⟩:∃ y,ts[a]?=some y:=⟨_,List.getElem?_eq_getElem (by omega)⟩
   obtain⟨tb,to1,A1,c1,rfl,htb,d1,hyr⟩:=tyrow_at hty hy
   have hyl:=HTL.o y (List.mem_of_getElem? hy)
   have m0:wr.cell? ⟨mb,0,none⟩=some (.slice (some ⟨tb,to1,none⟩) ts.length ct):=by unfold World.cell?;simp only[hbk];rfl
   obtain⟨hcm,hct,hco⟩:=HC.o
   have k1:wr.cell? ⟨bm,0,none⟩=some (.pointer (some ⟨mb,0,none⟩)):=(hu.cell hlm (HNE.o bm (by simp))).trans hcm
   have k2:wr.cell? ⟨bt,0,none⟩=some (.int .i64 t):=(hu.cell hltt (HNE.o bt (by simp))).trans hct
   have k3:wr.cell? ⟨bo,0,none⟩=some (.map (some ob)):=(hu.cell hlo (HNE.o bo (by simp))).trans hco
   have HS1:=mK hset
   have HU1:=mK hu
   have HYR:=mK hyr
   have HAS:=mK (fun z=>addS_succ (ts:=ts) (t:=t) hx z)
   have hgd:ts.getD ((a:Int).toNat) []=y:=by simp[List.getD,hy]
   rw[hgd] at HAS
   have HK:=mK hk
   have ha1:(a:Int) < (ts.length:Int):=by omega
   have HQ:=mK (show wr.drew.cell? ⟨bm,0,none⟩=some (.pointer (some ⟨mb,0,none⟩))/\wr.drew.cell? ⟨mb,0,none⟩=some (.slice (some ⟨tb,to1,none⟩) ts.length ct)/\wr.drew.cell? ⟨tb,to1+a,none⟩=some (.slice A1 y.length c1)/\wr.drew.cell? ⟨bt,0,none⟩=some (.int .i64 t) from⟨k1,m0,d1,k2⟩)
   clear hk hx hset hu hyr hty hbk hy k1 k2 m0 hcm hct hco hgd
   cases hq:decide (t ∈ y)
   ·rw[hq] at HAS
    go_wp2
    refine wp_region_held_drew (S:=(fun v=>v.cell? ⟨bm,0,none⟩=some (.pointer (some ⟨mb,0,none⟩))/\v.cell? ⟨mb,0,none⟩=some (.slice (some ⟨tb,to1,none⟩) ts.length ct)/\v.cell? ⟨tb,to1+a,none⟩=some (.slice A1 y.length c1)/\v.cell? ⟨bt,0,none⟩=some (.int .i64 t))) (by kernel_rfl) ?_ (fun hHeld=>?_)
    ·exact HQ.o
    refine zH 0 ?_
    refine zH 1 ?_
    refine zH 2 ?_
    refine zH 3 ?_
    (try simp only[Act.put,sA,sB,sC])
    refine zH 4 ?_
    refine zH 5 ?_
    refine zH 6 ?_
    refine zH 7 ?_
    (try simp only[Act.put,sA,sB,sC])
    refine wpAnyH_ready (rs:=[8]) (by kernel_rfl) (by simp) (AllReadyH.cons (by exact opAt rfl) (fun K hK=>?_) AllReadyH.nil)
    go_simp
    (go_at_call 167;refine(x4z t (Rp.x01 HYR.o ((Upd.refl (fun _=>False) wr).drew)) (by omega)).mono ?_;rintro e w1 ⟨rfl,rfl⟩;rw[hq])
    refine hK.out _ _ (by exact HQ.o) (fun hHeld=>?_)
    clear hK K
    (try simp only[Act.put,sA,sB,sC])
    refine wpAnyH_done (by kernel_rfl) ?_ _
    go_wp2
    go_roundg g1
    case measure=>omega
    case rel=>exact⟨k+1,by have:=HK.o;omega,by go_num,⟨((HS1.o.mono (Nat.le_succ _)).same (fun z=>by rw[HAS.o z];simp)).kept ((Upd.refl (fun _=>False) wr).drew) (fun h=>h),HU1.o.drew⟩⟩
   ·rw[hq] at HAS
    obtain⟨D,hD,hSD⟩:=HS1.o
    have HD:=mK hD
    have HSD:=mK hSD
    have HWF:=mK (WalkArith.wf_i64 (n:=(a:Int)) (by omega))
    have k3d:wr.drew.cell? ⟨bo,0,none⟩=some (.map (some ob)):=k3
    clear hD hSD
    go_wp2
    refine wp_region_held_drew (S:=(fun v=>v.cell? ⟨bm,0,none⟩=some (.pointer (some ⟨mb,0,none⟩))/\v.cell? ⟨mb,0,none⟩=some (.slice (some ⟨tb,to1,none⟩) ts.length ct)/\v.cell? ⟨tb,to1+a,none⟩=some (.slice A1 y.length c1)/\v.cell? ⟨bt,0,none⟩=some (.int .i64 t))) (by kernel_rfl) ?_ (fun hHeld=>?_)
    ·exact HQ.o
    refine zH 0 ?_
    refine zH 1 ?_
    refine zH 2 ?_
    refine zH 3 ?_
    (try simp only[Act.put,sA,sB,sC])
    refine zH 4 ?_
    refine zH 5 ?_
    refine zH 6 ?_
    refine zH 7 ?_
    (try simp only[Act.put,sA,sB,sC])
    refine wpAnyH_ready (rs:=[8]) (by kernel_rfl) (by simp) (AllReadyH.cons (by exact opAt rfl) (fun K hK=>?_) AllReadyH.nil)
    go_simp
    (go_at_call 167;refine(x4z t (Rp.x01 HYR.o ((Upd.refl (fun _=>False) wr).drew)) (by omega)).mono ?_;rintro e w1 ⟨rfl,rfl⟩;rw[hq])
    refine hK.out _ _ (by exact HQ.o) (fun hHeld=>?_)
    clear hK K
    (try simp only[Act.put,sA,sB,sC])
    refine wpAnyH_done (by kernel_rfl) ?_ _
    go_wp2_with (at_mapUpdate;refine wpList_mapUpdate_own _ rfl _ _ _ 175 rfl 3 4 x4l Tryz.underlying175 _ ob (n+k) D rfl HD.o.drew (by unfold maxLen;omega) _ _ _ rfl rfl (Maps.keyOf_int_mk Tryz.underlying3 HWF.o) _ [] (plainElem_bool Tryz.underlying4 true) ?_;intro w1 hown1 hg1)
    go_roundg g1
    case measure=>omega
    case rel=>
     refine⟨k+1,by have:=HK.o;omega,by go_num,⟨⟨_,hown1,fun z hz=>?_⟩,Upd.trans (HU1.o.drew) (Upd.x3o (S:=fun q=>q=ob) hg1 (fun q hq=>by injection hq with hq;exact hq.symm)) (fun _ _ h=>h)⟩⟩
     rw[has_put (World.ownsMap.isMap HD.o) _ _ _ HWF.o,HSD.o z hz]
     show _=(S z || addS ts t (List.take (k+1) l) z)
     rw[HAS.o z]
     have e1:decide (z=(a:Int))=decide ((a:Int)=z):=by rw[Bool.eq_iff_iff];simp[eq_comm]
     rw[e1,Bool.and_true,Bool.or_assoc]
  ·have hkl:k=l.length:=by omega
   subst hkl
   rw[List.take_length] at hset
   have HS1:=mK hset
   have HU1:=mK hu
   clear hset hu HP
   go_wp2
   go_end0
   exact⟨rfl,HS1.o,HU1.o⟩
theorem step_calls {N mb sb n:Nat} {ts fs:List (List Int)} {p:Part} {t:Int} {S:Int->Bool} (hM:Mac w N mb ts fs p) (hS:SetM w sb n S) (hts:ts.length<=1000) (htl:∀ x ∈ ts,x.length<=1048576) (hfl:fs.length=ts.length)
 (hrg:∀ x,(Lit.int .i64 x).wf=true->S x=true->-1<=x/\x < ts.length) (hok:∀ x,∀ a ∈ x19 fs p x,0<=a/\a < ts.length) (hlen:∀ x,(x19 fs p x).length<=1048576 * 1000) :
 Calls Tryz.prog 166 #[.pointer (some ⟨mb,0,none⟩),.map (some sb),.int .i64 t] w fun r w'=>∃ ob,r=.returned (.map (some ob))/\SetM w' ob (ts.length+1) (stepS ts fs p S t)/\Pure w w':=by
 have hsb:=hS.lt
 obtain⟨D,hD,hSD⟩:=hS
 have HD:=mK hD
 have HSD:=mK hSD
 have HM0:=mK hM
 have HOK:=mK hok
 have HLN:=mK hlen
 have HTL:=mK htl
 have HRG0:=mK hrg
 have hmN:=hM.1
 have hNw:=hM.2.1
 clear hD hSD hM hok hlen htl hrg
 have hmm:=@run_makeMap Tryz.prog
 go_enter Tryz.func166,Tryz.ntmps166
 go_wp2_with (at_range;refine wpList_range_own _ rfl _ 175 rfl 3 4 x4l Tryz.underlying175 _ sb n D rfl (((HD.o.alloc _).alloc _).alloc _ |>.alloc _) ?_;intro w0 hrg0 hg0 hs0;apply As.o)
 refine⟨?_⟩
 go_wp2
 have hb4:((((w.alloc (.cells #[.pointer (some ⟨mb,0,none⟩)] 172)).alloc (.cells #[.int .i64 t] 3)).alloc (.map #[] 0)).alloc (.cells #[.map (some (w.heap.size+1+1))] 175)).heap.size=w.heap.size+4:=by simp
 go_loopg [9] (Maps.size D) (fun g kv wr=>∃ left,As (StepR w N mb sb n D ts fs p S t left g wr))
 case atStart=>
  have hp4:Pure ((((w.alloc (.cells #[.pointer (some ⟨mb,0,none⟩)] 172)).alloc (.cells #[.int .i64 t] 3)).alloc (.map #[] 0)).alloc (.cells #[.map (some (w.heap.size+1+1))] 175)) w0:=Upd.x3o hg0 (fun k hk=>by cases hk)
  have hw4:Pure w ((((w.alloc (.cells #[.pointer (some ⟨mb,0,none⟩)] 172)).alloc (.cells #[.int .i64 t] 3)).alloc (.map #[] 0)).alloc (.cells #[.map (some (w.heap.size+1+1))] 175)):=((aU.alloc _).alloc _).alloc _
  have hmade:=SetM.made ((w.alloc (.cells #[.pointer (some ⟨mb,0,none⟩)] 172)).alloc (.cells #[.int .i64 t] 3))
  have e2:((w.alloc (.cells #[.pointer (some ⟨mb,0,none⟩)] 172)).alloc (.cells #[.int .i64 t] 3)).heap.size=w.heap.size+2:=by simp
  rw[e2] at hmade
  refine⟨Maps.has D,⟨⟨by rw[<- hb4];exact hrg0,?_,hw4.tt hp4,by rw[hs0,hb4];omega,?_,?_,?_⟩⟩⟩
  ·refine((hmade.kept (R:=fun _=>False) (aU.tt hp4) (fun h=>h))).mono (Nat.zero_le _) |>.same (fun y=>?_)
   unfold leftS
   rw[eq_comm,List.any_eq_false]
   intro i hi
   have hlt:=List.mem_range.1 hi
   rw[HSD.o _ (WalkArith.wf_i64 (by omega))]
   simp
  ·refine(hp4.cell (by simp;try omega) (fun h=>h)).trans ?_
   have hh:=(Below.heap_alloc (((w.alloc (.cells #[.pointer (some ⟨mb,0,none⟩)] 172)).alloc (.cells #[.int .i64 t] 3)).alloc (.map #[] 0)) (.cells #[.map (some (w.heap.size+1+1))] 175) w.heap.size (by simp;try omega)).trans ((Below.heap_alloc _ _ _ (by simp;try omega)).trans ((Below.heap_alloc _ _ _ (by simp)).trans (heap_alloc_new w _)))
   unfold World.cell?;simp only[hh];rfl
  ·refine(hp4.cell (by simp;try omega) (fun h=>h)).trans ?_
   have hh:=(Below.heap_alloc (((w.alloc (.cells #[.pointer (some ⟨mb,0,none⟩)] 172)).alloc (.cells #[.int .i64 t] 3)).alloc (.map #[] 0)) (.cells #[.map (some (w.heap.size+1+1))] 175) (w.heap.size+1) (by simp;try omega)).trans ((Below.heap_alloc _ _ _ (by simp)).trans (heap_alloc2_new w _ _))
   unfold World.cell?;simp only[hh];rfl
  ·refine(hp4.cell (by simp;try omega) (fun h=>h)).trans ?_
   have hh:=heap_alloc_new (((w.alloc (.cells #[.pointer (some ⟨mb,0,none⟩)] 172)).alloc (.cells #[.int .i64 t] 3)).alloc (.map #[] 0)) (.cells #[.map (some (w.heap.size+1+1))] 175)
   rw[show (((w.alloc (.cells #[.pointer (some ⟨mb,0,none⟩)] 172)).alloc (.cells #[.int .i64 t] 3)).alloc (.map #[] 0)).heap.size=w.heap.size+3 by simp] at hh
   unfold World.cell?;simp only[hh];rfl
 case round=>
  obtain⟨left,HR⟩:=hrel
  have invV:∀ (v:Value) (y:DataW Unit × List MemPlace),plainElem Tryz.prog 4 v=some y->∃ c:Bool,v=.bool c:=by
   intro v y hv
   cases v <;> simp[plainElem,Tryz.underlying4] at hv
   exact⟨_,rfl⟩
  go_wp2_with (at_next;refine wpList_next_ranges _ rfl _ rfl 3 x4l (plainElem Tryz.prog 4) (fun x:Int=>Value.int .i64 x) (fun c:Bool=>Value.bool c) (fun key kl hk=>by obtain⟨x,rfl,_⟩:=Maps.keyOf_int_inv Tryz.underlying3 hk;exact⟨x,rfl⟩) invV sb (w.heap.size+4) n D left gk rfl HR.o.rg (fun h0 hl=>As.o ?_) (fun x c kl y w2 cnt2 hkey hlk hv hat hrg2 hlt hgr hsz hen=>As.o ?_))
  ·refine⟨?_⟩
   have HLF:=mK hl
   have c3:=HR.o.c3
   clear hl
   go_wp2
   go_ret
   refine⟨w.heap.size+2,rfl,HR.o.set.same (fun y=>by simp[stepS,leftS,HLF.o]),HR.o.pure⟩
  ·refine⟨?_⟩
   obtain⟨x',ex,rfl,hwx⟩:=Maps.keyOf_int_inv Tryz.underlying3 hkey
   cases ex
   have hSx:S x=true:=by rw[<- HSD.o x hwx];exact Maps.has_true_of_atKey hat
   obtain⟨hx0,hx1⟩:=HRG0.o x hwx hSx
   have hu2:Upd (fun k=>k=w.heap.size+4) wr w2:=Upd.x3o hgr (fun k hk=>by injection hk with hk;exact hk.symm)
   have hM2:Mac w2 N mb ts fs p:=((HM0.o.pure HR.o.pure).upd hu2 (fun k hk=>by omega))
   have c0:w2.cell? ⟨w.heap.size,0,none⟩=some (.pointer (some ⟨mb,0,none⟩)):=(hu2.cell (by have:=HR.o.sz;omega) (by omega)).trans HR.o.c0
   have c1:w2.cell? ⟨w.heap.size+1,0,none⟩=some (.int .i64 t):=(hu2.cell (by have:=HR.o.sz;omega) (by omega)).trans HR.o.c1
   have c3:w2.cell? ⟨w.heap.size+3,0,none⟩=some (.map (some (w.heap.size+2))):=(hu2.cell (by have:=HR.o.sz;omega) (by omega)).trans HR.o.c3
   have hset2:SetM w2 (w.heap.size+2) (ts.length+1) (leftS ts fs p S left t):=HR.o.set.kept hu2 (by omega)
   have hsz2:w.heap.size+5<=w2.heap.size:=Nat.le_trans HR.o.sz hu2.size
   have hlx:=HLN.o x
   have HSX:=mK hSx
   have HRG2:=mK hrg2
   have HU2:=mK hu2
   have HEN:=mK hen
   have hADD:=fun (A:Option Addr) (cc:Nat) (hrow:intR.row w2 (fun k=>k < N) A (x19 fs p x))=>add_calls (c:=cc) hM2 (by omega:N<=w.heap.size+2) c0 c1 c3 (by omega) (by omega) (by omega) (by omega) hset2 hrow (fun _ h=>h) (HOK.o x) hlx (by omega) HTL.o (by omega)
   have HADD:=mK hADD
   obtain⟨_,_,At,ct,Ag,cg,Af,cf,Al,cl,hbk,hty,hfo,hfi,hla⟩:=hM2
   clear hkey hlk hv hat hrg2 hgr hsz hu2 hset2 hADD hSx
   by_cases hx:x=-1
   ·subst hx
    have hnx:x19 fs p (-1)=p.first:=rfl
    have m3:w2.cell? ⟨mb,3,none⟩=some (.slice Af p.first.length cf):=by unfold World.cell?;simp only[hbk];rfl
    have HA2:=mK (HADD.o Af cf (by rw[hnx];exact hfi))
    rw[hnx] at HA2
    clear HADD hbk hty hfo hfi hla
    go_wp2_with (go_at_call 194;refine HA2.o.mono ?_;rintro e w3 ⟨rfl,hs3,hu3⟩)
    go_roundg cnt2
    case measure=>omega
    case rel=>exact⟨_,⟨HR.o.next hsb HOK.o hx0 hx1 HSX.o HRG2.o HU2.o _ hs3 hu3⟩⟩
   ·obtain⟨a,rfl⟩:∃ a:Nat,x=a:=⟨x.toNat,by omega⟩
    obtain⟨y,hy⟩:∃ y,fs[a]?=some y:=⟨_,List.getElem?_eq_getElem (by omega)⟩
    have hnx:x19 fs p (a:Int)=y:=by
     unfold x19
     rw[if_neg hx]
     simp[List.getD,hy]
    have hne:((a:Int) == -1)=false:=by simp
    have ha1:(a:Int) < (fs.length:Int):=by omega
    have m1:w2.cell? ⟨mb,1,none⟩=some (.slice Ag fs.length cg):=by unfold World.cell?;simp only[hbk];rfl
    obtain⟨tb,to1,A1,c1',rfl,htb,d1,hyr⟩:=tyrow_at hfo hy
    have HA2:=mK (HADD.o A1 c1' (by rw[hnx];exact hyr))
    have HNX:=mK hnx
    rw[hnx] at HA2
    clear HADD hbk hty hfo hfi hla hx hy hyr hnx
    go_wp2_with (go_at_call 194;refine HA2.o.mono ?_;rintro e w3 ⟨rfl,hs3,hu3⟩)
    go_roundg cnt2
    case measure=>omega
    case rel=>exact⟨_,⟨HR.o.next hsb HOK.o hx0 hx1 HSX.o HRG2.o HU2.o _ (by rw[HNX.o];exact hs3) hu3⟩⟩
open Go.WideElems (Fit rd rg pl rd_val rd_key rg_of) in
theorem run_calls {N mb:Nat} {ts fs:List (List Int)} {p:Part} {word:List Int} (hM:Mac w N mb ts fs p) (hO:MOk ts fs p) (hr:intR.row w F A word) (hb:word.length<=1048576 * 4) :
 Calls Tryz.prog 129 #[.pointer (some ⟨mb,0,none⟩),.slice A word.length c] w fun r w'=>∃ sb,r=.returned (.tuple #[.map (some sb),.int .i64 ((runS ts fs p x1m word).2:Nat)])/\SetM w' sb (ts.length+1) (runS ts fs p x1m word).1/\Pure w w':=by
 have HM:=mK hM
 have HO:=mK hO
 have HR:=mK hr
 have hlt0:=hO.lt
 clear hM hO hr
 have hmm:=@run_makeMap Tryz.prog
 have hmade:=World.ownsMap_made (H:=Unit) w Tryz.prog 3 (plainElem Tryz.prog 4)
 have HMADE:=mK hmade
 have HWF:=mK (WalkArith.wf_i64 (n:=(-1:Int)) (by omega))
 clear hmade
 go_enter Tryz.func129,Tryz.ntmps129
 go_wp2_with (refine wpList_insert_own _ rfl _ _ _ 175 rfl 3 4 x4l Tryz.underlying175 _ w.heap.size 0 _ rfl HMADE.o (by unfold maxLen;omega) _ _ _ rfl rfl (Maps.keyOf_int_mk Tryz.underlying3 HWF.o) _ [] (plainElem_bool Tryz.underlying4 true) (fun w1 hown1 hg1=>As.o ?_))
 refine⟨?_⟩
 have hset1:SetM w1 w.heap.size (ts.length+1) x1m:=by
  refine SetM.mono (n:=0+1) ⟨_,hown1,fun z hz=>?_⟩ (by omega)
  rw[has_put (World.ownsMap.isMap HMADE.o) _ _ _ HWF.o]
  simp[Maps.has_eq,x1m]
 have hu1:Pure w w1:=(Upd.alloc1 (fun _=>False) w (.map #[] 0)).trans (Upd.x3o (S:=fun q=>q=w.heap.size) hg1 (fun q hq=>by injection hq with hq;exact hq.symm)) (fun q hq h=>by omega)
 have HI:=mK (And.intro hset1 hu1)
 clear hset1 hu1 hown1 hg1
 go_wp2
 go_loopg [6,14] word.length (fun g s i wr=>∃ (k sb:Nat) (S:Int->Bool),k+g=word.length/\i=.int .i64 k/\s=.map (some sb)/\As (SetM wr sb (ts.length+1) S/\Pure w wr/\InS ts.length S/\runS ts fs p x1m word=((runS ts fs p S (word.drop k)).1,(runS ts fs p S (word.drop k)).2+k)))
 case atStart=>exact⟨0,w.heap.size,x1m,by omega,rfl,rfl,⟨HI.o.1,HI.o.2,startS_in _,rfl⟩⟩
 case round=>
  obtain⟨k,sb,S,hk,rfl,rfl,HP⟩:=hrel
  by_cases hlt:k < word.length
  ·obtain⟨x,hx⟩:=gS hlt
   obtain⟨g1,rfl⟩:=sC1 (by omega:0 < gk)
   obtain⟨b,o,rfl,hFb,hbb,d0⟩:=int_at (Rp.x01 HR.o HP.o.2.1) hx
   have HK:=mK hk
   have HD:=mK (int_drop hx)
   have HC:=mK (step_calls (t:=x) (HM.o.pure HP.o.2.1) HP.o.1 hlt0 HO.o.tl HO.o.fl (fun y _ hy=>HP.o.2.2.1 y hy) HO.o.ok HO.o.len)
   clear hk hx
   go_wp2_with (go_at_call 166;refine HC.o.mono ?_;rintro e w2 ⟨ob,rfl,hs2,hu2⟩;apply As.o)
   refine⟨?_⟩
   obtain⟨D,hD,hemp⟩:=hs2.empty ts.length (stepS_in HO.o S x) hlt0
   have HS2:=mK (And.intro hs2 hu2)
   have HDD:=mK hD
   clear hs2 hu2 hD
   cases hq:emptyS ts.length (stepS ts fs p S x)
   ·have hsz:((Maps.size D:Int) == 0)=false:=by
     rw[hq] at hemp
     simpa using hemp
    have HQ:=mK hq
    clear hemp hq
    go_wp2_with (at_len;refine wpList_len_own _ rfl _ 175 rfl 3 4 Tryz.underlying175 _ ob (ts.length+1) D rfl HDD.o ?_)
    go_roundg g1
    case measure=>omega
    case rel=>
     refine⟨k+1,ob,_,by have:=HK.o;omega,by go_num,rfl,⟨HS2.o.1,HP.o.2.1.tt HS2.o.2,stepS_in HO.o S x,?_⟩⟩
     rw[HP.o.2.2.2,HD.o,runS,if_neg (by rw[HQ.o];simp)]
     simp only[Prod.mk.injEq,true_and]
     omega
   ·have hsz:((Maps.size D:Int) == 0)=true:=by
     rw[hq] at hemp
     simpa using hemp
    have HQ:=mK hq
    clear hemp hq
    go_wp2_with (at_len;refine wpList_len_own _ rfl _ 175 rfl 3 4 Tryz.underlying175 _ ob (ts.length+1) D rfl HDD.o ?_)
    have e1:runS ts fs p x1m word=(S,k):=by
     rw[HP.o.2.2.2,HD.o,runS,if_pos HQ.o]
     simp
    go_ret2
    refine⟨sb,?_,?_,HP.o.2.1.tt HS2.o.2⟩
    ·rw[e1];rfl
    ·rw[e1]
     exact HP.o.1.kept HS2.o.2 (fun h=>h)
  ·obtain rfl:k=word.length:=by omega
   have e1:runS ts fs p x1m word=(S,word.length):=by
    rw[HP.o.2.2.2,List.drop_length,runS]
    simp
   have HE:=mK e1
   clear e1
   go_wp2
   go_ret2
   refine⟨sb,?_,?_,HP.o.2.1⟩
   ·rw[HE.o];rfl
   ·rw[HE.o]
    exact HP.o.1
theorem ends_calls {N mb sb n:Nat} {ts fs:List (List Int)} {p:Part} {S:Int->Bool} (hM:Mac w N mb ts fs p) (hO:MOk ts fs p) (hS:SetM w sb n S) (hI:InS ts.length S) :
 Calls Tryz.prog 130 #[.pointer (some ⟨mb,0,none⟩),.map (some sb)] w fun r w'=>r=.returned (.bool (endsS p S))/\Pure w w':=by
 have hsb:=hS.lt
 have hlt0:=hO.lt
 obtain⟨D,hD,hSD⟩:=hS
 have HD:=mK hD
 have HSD:=mK hSD
 have HM:=mK hM
 have HO:=mK hO
 have HI:=mK hI
 have hmN:=hM.1
 have hNw:=hM.2.1
 have hll:=hO.ll
 clear hD hSD hM hO hI
 go_enter Tryz.func130,Tryz.ntmps130
 go_wp2_with (at_range;refine wpList_range_own _ rfl _ 175 rfl 3 4 x4l Tryz.underlying175 _ sb n D rfl HD.o (fun w0 hrg0 hg0 hs0=>As.o ?_))
 refine⟨?_⟩
 go_wp2
 go_loopg [5] (Maps.size D) (fun g kv wr=>∃ left,As (EndR w sb n D p S left g wr))
 case atStart=>
  refine⟨Maps.has D,⟨⟨hrg0,Upd.x3o hg0 (fun k hk=>by cases hk),by omega,fun x hx h1 h2=>?_⟩⟩⟩
  rw[HSD.o x hx,h1] at h2
  cases h2
 case round=>
  obtain⟨left,HR⟩:=hrel
  have invV:∀ (v:Value) (y:DataW Unit × List MemPlace),plainElem Tryz.prog 4 v=some y->∃ c:Bool,v=.bool c:=by
   intro v y hv
   cases v <;> simp[plainElem,Tryz.underlying4] at hv
   exact⟨_,rfl⟩
  go_wp2_with (at_next;refine wpList_next_ranges _ rfl _ rfl 3 x4l (plainElem Tryz.prog 4) (fun x:Int=>Value.int .i64 x) (fun c:Bool=>Value.bool c) (fun key kl hk=>by obtain⟨x,rfl,_⟩:=Maps.keyOf_int_inv Tryz.underlying3 hk;exact⟨x,rfl⟩) invV sb w.heap.size n D left gk rfl HR.o.rg (fun h0 hl=>As.o ?_) (fun x c kl y w2 cnt2 hkey hlk hv hat hrg2 hlt hgr hsz hen=>As.o ?_))
  ·refine⟨?_⟩
   have e1:endsS p S=false:=endsS_false (fun a ha=>(HO.o.last a ha).1) (fun x hx=>HR.o.no x (WalkArith.wf_i64 (by have:=HI.o x hx;omega)) hx (hl _))
   have HE:=mK e1
   clear hl e1
   go_wp2
   go_ret
   exact⟨by rw[HE.o];rfl,HR.o.pure⟩
  ·refine⟨?_⟩
   obtain⟨x',ex,rfl,hwx⟩:=Maps.keyOf_int_inv Tryz.underlying3 hkey
   cases ex
   have hSx:S x=true:=by rw[<- HSD.o x hwx];exact Maps.has_true_of_atKey hat
   obtain⟨hx0,hx1⟩:=HI.o x hSx
   have hu2:Upd (fun k=>k=w.heap.size) wr w2:=Upd.x3o hgr (fun k hk=>by injection hk with hk;exact hk.symm)
   have hp2:Pure w w2:=HR.o.pure.trans hu2 (fun k hk h=>by omega)
   have hM2:Mac w2 N mb ts fs p:=HM.o.pure hp2
   obtain⟨_,_,At,ct,Ag,cg,Af,cf,Al,cl,hbk,hty,hfo,hfi,hla⟩:=hM2
   have m2:w2.cell? ⟨mb,2,none⟩=some (.bool p.none):=by unfold World.cell?;simp only[hbk];rfl
   have m4:w2.cell? ⟨mb,4,none⟩=some (.slice Al p.last.length cl):=by unfold World.cell?;simp only[hbk];rfl
   have HLA:=mK hla
   have HSX:=mK hSx
   have HRG2:=mK hrg2
   have HP2:=mK (And.intro hp2 (Nat.le_trans HR.o.sz hu2.size))
   have hnext:endS p x=false->EndR w sb n D p S (fun z=>left z && !z.sameKey (.int .i64 x)) cnt2 w2:=fun he=>⟨HRG2.o,HP2.o.1,HP2.o.2,fun z hz h1 h2=>by
    by_cases hzx:z=x
    ·rw[hzx];exact he
    ·refine HR.o.no z hz h1 ?_
     simpa[Lit.sameKey,hzx] using h2⟩
   have HNX:=mK hnext
   clear hkey hlk hv hat hrg2 hgr hsz hu2 hp2 hSx hbk hty hfo hfi hla hnext
   by_cases hx:x=-1
   ·subst hx
    cases hn:p.none
    ·rw[hn] at m2
     go_wp2
     go_roundg cnt2
     case measure=>omega
     case rel=>exact⟨_,⟨HNX.o (by simp[endS,hn])⟩⟩
    ·rw[hn] at m2
     go_wp2
     go_ret
     exact⟨by rw[endsS_true HSX.o (by simp[endS,hn])];rfl,HP2.o.1⟩
   ·have hne:(x == -1)=false:=by simpa using hx
    have hne2:(x != -1)=true:=by simpa using hx
    cases hq:decide (x ∈ p.last)
    ·have HE:=mK (show endS p x=false by simp[endS,hx];simpa using hq)
     go_wp2_with (go_at_call 167;refine(x4z x HLA.o (by omega)).mono ?_;rintro e w3 ⟨rfl,rfl⟩;rw[hq])
     go_roundg cnt2
     case measure=>omega
     case rel=>exact⟨_,⟨HNX.o HE.o⟩⟩
    ·have HE:=mK (show endS p x=true by simp[endS,hx];simpa using hq)
     go_wp2_with (go_at_call 167;refine(x4z x HLA.o (by omega)).mono ?_;rintro e w3 ⟨rfl,rfl⟩;rw[hq])
     go_ret
     exact⟨by rw[endsS_true HSX.o HE.o];rfl,HP2.o.1⟩
end Go.Proofs.YtofjodppljnlaaaGreatDoor
namespace Go.Proofs.YtofjodppljnlaaaGreatDoor
open Go.RowKit
/-- What made needs. -/
structure MadeC (w:World) (A Bg:Option Addr) (e:Ex) (g:List Grp):Prop where
 hr:exR.row w (fun k=>k < w.heap.size) A e.l
 hg:grpR.row w (fun k=>k < w.heap.size) Bg g
 wt:e.wt<=1048576 * 4
 gl:g.length<=1048576
 gt:∀ x ∈ g,x.types.length<=1048576
theorem MadeC.pure {Bg:Option Addr} {e:Ex} {g:List Grp} (h:MadeC w A Bg e g) (hu:Pure w w1):MadeC w1 A Bg e g:=
 ⟨Rp.x09 (Rp.x01 h.hr hu) (fun k hk=>Nat.lt_of_lt_of_le hk hu.size),Rp.x09 (Rp.x01 h.hg hu) (fun k hk=>Nat.lt_of_lt_of_le hk hu.size),h.wt,h.gl,h.gt⟩
theorem MadeC.noC {Bg:Option Addr} {e:Ex} {g:List Grp} {d:Nat} (h:MadeC w A Bg e g) (hc:x0k e g ≠ 0):Calls Tryz.prog 128 #[.agg #[.int .i64 e.k,.string e.name,.slice A e.l.length c],.slice Bg g.length d] w fun r w'=>r=.returned (.pointer none)/\Pure w w':=
 made_none h.hr h.hg h.wt h.gl h.gt hc
theorem MadeC.yesC {Bg:Option Addr} {e:Ex} {g:List Grp} {d:Nat} (h:MadeC w A Bg e g) (hc:x0k e g=0):Calls Tryz.prog 128 #[.agg #[.int .i64 e.k,.string e.name,.slice A e.l.length c],.slice Bg g.length d] w fun r w'=>∃ mb,r=.returned (.pointer (some ⟨mb,0,none⟩))/\Mac w' w'.heap.size mb (mcT g e) (mcF g e) (mcP g e)/\Pure w w':=
 made_some h.hr h.hg (fun _ h=>h) (fun _ h=>h) h.wt h.gl h.gt hc
theorem begins_calls {Bg Aw:Option Addr} {d cw:Nat} {e:Ex} {g:List Grp} {word:List Int} (hm:MadeC w A Bg e g) (hw:intR.row w F Aw word) (hb:word.length<=1048576 * 4) :
 Calls Tryz.prog 65 #[e.val A c,.slice Bg g.length d,.slice Aw word.length cw] w fun r w'=>r=.returned (.int .i64 (x18 e g word:Nat))/\Pure w w':=by
 have HM:=mK hm
 have HW:=mK hw
 obtain⟨k0,nm,l⟩:=e
 show Calls Tryz.prog 65 #[.agg #[.int .i64 k0,.string nm,.slice A l.length c],.slice Bg g.length d,.slice Aw word.length cw] w _
 by_cases hc:x0k (.mk k0 nm l) g=0
 ·have HMC:=mK (fun (W:World) (hu:Pure w W)=>(HM.o.pure hu).yesC (c:=c) (d:=d) hc)
  have hO:=mc_ok hc
  have HO:=mK hO
  have HE:=mK (show x18 (.mk k0 nm l) g word=(x2b (.mk k0 nm l) g word).2 by unfold x18;rw[if_pos hc])
  have HRR:=mK (show x2b (.mk k0 nm l) g word=runS (mcT g (.mk k0 nm l)) (mcF g (.mk k0 nm l)) (mcP g (.mk k0 nm l)) x1m word from rfl)
  clear hm hw hc hO
  generalize mcT g (.mk k0 nm l)=ts at *
  generalize mcF g (.mk k0 nm l)=fs at *
  generalize mcP g (.mk k0 nm l)=p at *
  generalize x2b (.mk k0 nm l) g word=rr at *
  generalize x18 (.mk k0 nm l) g word=acc at *
  obtain⟨S,n⟩:=rr
  go_enter Tryz.func65,Tryz.ntmps65
  go_wp2_with (go_at_call 128;refine(HMC.o _ aU).mono ?_;rintro e w1 ⟨mb,rfl,hmac,hu⟩;have HU:=mK (Upd.trans aP hu (fun _ _ h=>h));have HMAC:=mK hmac;clear hmac hu;apply As.o)
  refine⟨?_⟩
  have HRUN:=mK (run_calls (c:=cw) HMAC.o HO.o (Rp.x01 HW.o HU.o) hb)
  rw[<- HRR.o] at HRUN
  go_wp2_with (go_at_call 129;refine HRUN.o.mono ?_;rintro e w2 ⟨sb,rfl,hset,hu2⟩;have HS2:=mK (And.intro hset hu2);clear hset hu2)
  go_ret
  refine⟨?_,HU.o.tt HS2.o.2⟩
  rw[HE.o]
  rfl
 ·have HMC:=mK (fun (W:World) (hu:Pure w W)=>(HM.o.pure hu).noC (c:=c) (d:=d) hc)
  have HE:=mK (show x18 (.mk k0 nm l) g word=0 by unfold x18;rw[if_neg hc])
  clear hm hw hc
  go_enter Tryz.func65,Tryz.ntmps65
  go_wp2_with (go_at_call 128;refine(HMC.o _ aU).mono ?_;rintro e w1 ⟨rfl,hu⟩;have HU:=mK (Upd.trans aP hu (fun _ _ h=>h));clear hu)
  go_ret
  exact⟨by rw[HE.o];rfl,HU.o⟩
theorem accepts_calls {Bg Aw:Option Addr} {d cw:Nat} {e:Ex} {g:List Grp} {word:List Int} (hm:MadeC w A Bg e g) (hw:intR.row w F Aw word) (hb:word.length<=1048576 * 4) :
 Calls Tryz.prog 66 #[e.val A c,.slice Bg g.length d,.slice Aw word.length cw] w fun r w'=>r=.returned (.bool (x0n e g word))/\Pure w w':=by
 have HM:=mK hm
 have HW:=mK hw
 obtain⟨k0,nm,l⟩:=e
 show Calls Tryz.prog 66 #[.agg #[.int .i64 k0,.string nm,.slice A l.length c],.slice Bg g.length d,.slice Aw word.length cw] w _
 by_cases hc:x0k (.mk k0 nm l) g=0
 ·have HMC:=mK (fun (W:World) (hu:Pure w W)=>(HM.o.pure hu).yesC (c:=c) (d:=d) hc)
  have hO:=mc_ok hc
  have HO:=mK hO
  have HE:=mK (show x0n (.mk k0 nm l) g word=(decide ((x2b (.mk k0 nm l) g word).2=word.length) && endsS (mcP g (.mk k0 nm l)) (x2b (.mk k0 nm l) g word).1) by unfold x0n;rw[hc];simp)
  have HRR:=mK (show x2b (.mk k0 nm l) g word=runS (mcT g (.mk k0 nm l)) (mcF g (.mk k0 nm l)) (mcP g (.mk k0 nm l)) x1m word from rfl)
  have hle:=runS_le (mcT g (.mk k0 nm l)) (mcF g (.mk k0 nm l)) (mcP g (.mk k0 nm l)) word x1m
  have HIN:=mK (runS_in hO word x1m (startS_in _))
  rw[<- HRR.o] at hle HIN
  clear hm hw hc hO
  generalize mcT g (.mk k0 nm l)=ts at *
  generalize mcF g (.mk k0 nm l)=fs at *
  generalize mcP g (.mk k0 nm l)=p at *
  generalize x2b (.mk k0 nm l) g word=rr at *
  generalize x0n (.mk k0 nm l) g word=acc at *
  obtain⟨S,n⟩:=rr
  go_enter Tryz.func66,Tryz.ntmps66
  go_wp2_with (go_at_call 128;refine(HMC.o _ aU).mono ?_;rintro e w1 ⟨mb,rfl,hmac,hu⟩;have HU:=mK (Upd.trans aP hu (fun _ _ h=>h));have HMAC:=mK hmac;clear hmac hu;apply As.o)
  refine⟨?_⟩
  have HRUN:=mK (run_calls (c:=cw) HMAC.o HO.o (Rp.x01 HW.o HU.o) hb)
  rw[<- HRR.o] at HRUN
  go_wp2_with (go_at_call 129;refine HRUN.o.mono ?_;rintro e w2 ⟨sb,rfl,hset,hu2⟩;have HS2:=mK (And.intro hset hu2);clear hset hu2;apply As.o)
  refine⟨?_⟩
  have HEND:=mK (ends_calls (HMAC.o.pure HS2.o.2) HO.o HS2.o.1 HIN.o)
  by_cases hn:n=word.length
  ·subst hn
   go_wp2_with (go_at_call 130;refine HEND.o.mono ?_;rintro e w3 ⟨rfl,hu3⟩)
   go_ret
   refine⟨?_,(HU.o.tt HS2.o.2).tt hu3⟩
   rw[HE.o]
   simp
  ·have h1:((n:Int) == (word.length:Int))=false:=by simp;omega
   have h2:(n == word.length)=false:=by simpa using hn
   go_wp2
   go_ret
   refine⟨?_,HU.o.tt HS2.o.2⟩
   rw[HE.o]
   simp[hn]
 ·have HMC:=mK (fun (W:World) (hu:Pure w W)=>(HM.o.pure hu).noC (c:=c) (d:=d) hc)
  have HE:=mK (show x0n (.mk k0 nm l) g word=false by unfold x0n;simp[hc])
  clear hm hw hc
  go_enter Tryz.func66,Tryz.ntmps66
  go_wp2_with (go_at_call 128;refine(HMC.o _ aU).mono ?_;rintro e w1 ⟨rfl,hu⟩;have HU:=mK (Upd.trans aP hu (fun _ _ h=>h));clear hu)
  go_ret
  exact⟨by rw[HE.o];rfl,HU.o⟩
/-- A word leads to a place. -/
inductive Path (ts fs:List (List Int)) (p:Part):List Int->Int->Prop
 | nil:Path ts fs p [] (-1)
 | snoc (w:List Int) (x y t:Int):Path ts fs p w x->y ∈ x19 fs p x->t ∈ ts.getD y.toNat []->Path ts fs p (w ++ [t]) y
theorem Path.nil_inv {ts fs:List (List Int)} {p:Part} {y:Int} (h:Path ts fs p [] y):y=-1:=by
 generalize hw:([]:List Int)=w at h
 cases h with
 | nil=>rfl
 | snoc w x y t _ _ _=>simp at hw
theorem Path.snoc_inv {ts fs:List (List Int)} {p:Part} {w:List Int} {t y:Int} (h:Path ts fs p (w ++ [t]) y):∃ x,Path ts fs p w x/\y ∈ x19 fs p x/\t ∈ ts.getD y.toNat []:=by
 generalize hw:w ++ [t]=w' at h
 cases h with
 | nil=>simp at hw
 | snoc w1 x y t1 h1 h2 h3=>
   obtain⟨rfl,rfl⟩:w=w1/\t=t1:=by
    have:=List.append_inj' hw rfl
    exact⟨this.1,by simpa using this.2⟩
   exact⟨x,h1,h2,h3⟩
def foldS (ts fs:List (List Int)) (p:Part) (S:Int->Bool) (word:List Int):Int->Bool:=word.foldl (fun S t=>stepS ts fs p S t) S
theorem stepS_iff {ts fs:List (List Int)} {p:Part} {S:Int->Bool} (hI:InS ts.length S) (t y:Int):stepS ts fs p S t y=true ↔ ∃ x,S x=true/\y ∈ x19 fs p x/\t ∈ ts.getD y.toNat []:=by
 unfold stepS addS
 rw[List.any_eq_true]
 constructor
 ·rintro ⟨i,hi,h⟩
  rw[Bool.and_eq_true,List.any_eq_true] at h
  obtain⟨h1,a,ha,h2⟩:=h
  simp at h2
  obtain⟨rfl,h3⟩:=h2
  exact⟨_,h1,ha,by simpa[List.getD] using h3⟩
 ·rintro ⟨x,h1,h2,h3⟩
  have:=hI x h1
  refine⟨(x+1).toNat,List.mem_range.2 (by omega),?_⟩
  have e:(((x+1).toNat:Nat):Int) - 1=x:=by omega
  rw[e,Bool.and_eq_true,List.any_eq_true]
  exact⟨h1,y,h2,by simp[h3];simpa[List.getD] using h3⟩
theorem foldS_in {ts fs:List (List Int)} {p:Part} (hM:MOk ts fs p):∀ (word:List Int) (S:Int->Bool),InS ts.length S->InS ts.length (foldS ts fs p S word):=by
 intro word
 induction word with
 | nil=>intro S h;exact h
 | cons t r ih=>intro S h;exact ih _ (stepS_in hM S t)
theorem foldS_snoc (ts fs:List (List Int)) (p:Part) (S:Int->Bool) (w:List Int) (t:Int):foldS ts fs p S (w ++ [t])=stepS ts fs p (foldS ts fs p S w) t:=by
 unfold foldS
 rw[List.foldl_append]
 rfl
theorem rev_ind {P:List Int->Prop} (h0:P []) (h1:∀ w t,P w->P (w ++ [t])):∀ w,P w:=by
 intro w
 suffices ∀ q:List Int,P q.reverse by simpa using this w.reverse
 intro q
 induction q with
 | nil=>exact h0
 | cons t q ih=>rw[List.reverse_cons];exact h1 _ _ ih
theorem foldS_iff {ts fs:List (List Int)} {p:Part} (hM:MOk ts fs p):∀ (w:List Int) (y:Int),foldS ts fs p x1m w y=true ↔ Path ts fs p w y:=by
 refine rev_ind (fun y=>?_) (fun w t ih y=>?_)
 ·constructor
  ·intro h
   have:y=-1:=by simpa[foldS,x1m] using h
   subst this
   exact .nil
  ·intro h
   rw[h.nil_inv]
   rfl
 ·rw[foldS_snoc,stepS_iff (foldS_in hM w _ (startS_in _))]
  constructor
  ·rintro ⟨x,h1,h2,h3⟩
   exact .snoc w x y t ((ih x).1 h1) h2 h3
  ·intro h
   obtain⟨x,h1,h2,h3⟩:=h.snoc_inv
   exact⟨x,(ih x).2 h1,h2,h3⟩
theorem emptyS_iff {T:Nat} {S:Int->Bool} (hI:InS T S):emptyS T S=true ↔ ∀ x,S x=false:=by
 unfold emptyS
 rw[Bool.not_eq_true',List.any_eq_false]
 constructor
 ·intro h x
  cases hx:S x
  ·rfl
  ·have h1:=hI x hx
   have:=h (x+1).toNat (List.mem_range.2 (by omega))
   have e:(((x+1).toNat:Nat):Int) - 1=x:=by omega
   rw[e] at this
   exact absurd hx this
 ·intro h i _
  rw[h]
  simp
/-- A word may go on. -/
def Live (ts fs:List (List Int)) (p:Part) (w:List Int):Prop:=∃ x,Path ts fs p w x
theorem Live.nil (ts fs:List (List Int)) (p:Part):Live ts fs p []:=⟨-1,.nil⟩
theorem Live.init {ts fs:List (List Int)} {p:Part} {w:List Int} {t:Int} (h:Live ts fs p (w ++ [t])):Live ts fs p w:=by
 obtain⟨y,h⟩:=h
 obtain⟨x,h,_⟩:=h.snoc_inv
 exact⟨x,h⟩
theorem Live.app {ts fs:List (List Int)} {p:Part} {w:List Int}:∀ v,Live ts fs p (w ++ v)->Live ts fs p w:=by
 refine rev_ind (fun h=>by simpa using h) (fun v t ih h=>?_)
 rw[<- List.append_assoc] at h
 exact ih h.init
theorem Live.take {ts fs:List (List Int)} {p:Part} {w:List Int} {k n:Nat} (h:Live ts fs p (w.take n)) (hk:k<=n):Live ts fs p (w.take k):=by
 have:w.take n=w.take k ++ (w.take n).drop k:=by
  conv=>lhs;rw[<- List.take_append_drop k (w.take n)]
  rw[List.take_take,Nat.min_eq_left hk]
 rw[this] at h
 exact Live.app _ h
theorem runS_go {ts fs:List (List Int)} {p:Part} (hM:MOk ts fs p):∀ (r w:List Int),Live ts fs p w ->
 runS ts fs p (foldS ts fs p x1m w) r=(foldS ts fs p x1m (w ++ r.take (runS ts fs p (foldS ts fs p x1m w) r).2),(runS ts fs p (foldS ts fs p x1m w) r).2) /\
 (runS ts fs p (foldS ts fs p x1m w) r).2<=r.length/\Live ts fs p (w ++ r.take (runS ts fs p (foldS ts fs p x1m w) r).2)/\((runS ts fs p (foldS ts fs p x1m w) r).2 < r.length->¬ Live ts fs p (w ++ r.take ((runS ts fs p (foldS ts fs p x1m w) r).2+1))):=by
 intro r
 induction r with
 | nil=>
   intro w hw
   refine⟨?_,Nat.le_refl _,by simpa[runS] using hw,fun h=>absurd h (Nat.lt_irrefl _)⟩
   simp[runS]
 | cons t r ih=>
   intro w hw
   have e:stepS ts fs p (foldS ts fs p x1m w) t=foldS ts fs p x1m (w ++ [t]):=(foldS_snoc ..).symm
   cases hq:emptyS ts.length (stepS ts fs p (foldS ts fs p x1m w) t)
   ·have hl:Live ts fs p (w ++ [t]):=by
     rw[<- Bool.not_eq_true,emptyS_iff (stepS_in hM _ t)] at hq
     simp only[Classical.not_forall,Bool.not_eq_false] at hq
     obtain⟨x,hx⟩:=hq
     rw[e] at hx
     exact⟨x,(foldS_iff hM _ _).1 hx⟩
    have e2:runS ts fs p (foldS ts fs p x1m w) (t :: r)=((runS ts fs p (foldS ts fs p x1m (w ++ [t])) r).1,(runS ts fs p (foldS ts fs p x1m (w ++ [t])) r).2+1):=by
     rw[runS,if_neg (by rw[hq];simp),e]
    obtain⟨h1,h2,h3,h4⟩:=ih (w ++ [t]) hl
    rw[e2]
    simp only[List.append_assoc,List.cons_append,List.nil_append] at h1 h3 h4
    refine⟨?_,by simp only[List.length_cons];omega,by simpa using h3,fun h=>by simpa using h4 (by simp at h;exact h)⟩
    simp only[List.take_succ_cons,Prod.mk.injEq,and_true]
    rw[h1]
   ·have e2:runS ts fs p (foldS ts fs p x1m w) (t :: r)=(foldS ts fs p x1m w,0):=by
     rw[runS,if_pos hq]
    rw[e2]
    refine⟨by simp,Nat.zero_le _,by simpa using hw,fun _ h=>?_⟩
    obtain⟨x,hx⟩:=h
    have hx':Path ts fs p (w ++ [t]) x:=by simpa using hx
    have:=(foldS_iff hM _ _).2 hx'
    rw[<- e,(emptyS_iff (stepS_in hM _ t)).1 hq x] at this
    cases this
/-- What a run is. -/
theorem run_spec {g:List Grp} {e:Ex} (h:x0k e g=0) (w:List Int) :
 x2b e g w=(foldS (mcT g e) (mcF g e) (mcP g e) x1m (w.take (x2b e g w).2),(x2b e g w).2)/\(x2b e g w).2<=w.length/\Live (mcT g e) (mcF g e) (mcP g e) (w.take (x2b e g w).2) /\
  ((x2b e g w).2 < w.length->¬ Live (mcT g e) (mcF g e) (mcP g e) (w.take ((x2b e g w).2+1))):=by
 have:=runS_go (mc_ok h) w [] (Live.nil _ _ _)
 simpa[x2b,foldS] using this
abbrev LiveE (e:Ex) (g:List Grp) (w:List Int):Prop:=Live (mcT g e) (mcF g e) (mcP g e) w
/-- A word of the language. -/
def AccE (e:Ex) (g:List Grp) (w:List Int):Prop:=∃ x,Path (mcT g e) (mcF g e) (mcP g e) w x/\endS (mcP g e) x=true
theorem run_eq {g:List Grp} {e:Ex} (h:x0k e g=0) (w:List Int) (n:Nat) (hn:n<=w.length) (h1:LiveE e g (w.take n)) (h2:n < w.length->¬ LiveE e g (w.take (n+1))):(x2b e g w).2=n:=by
 obtain⟨_,a,b,c⟩:=run_spec h w
 rcases Nat.lt_trichotomy (x2b e g w).2 n with hl | hl | hl
 ·exact absurd (Live.take h1 (by omega:(x2b e g w).2+1<=n)) (c (by omega))
 ·exact hl
 ·exact absurd (Live.take b (by omega:n+1<=(x2b e g w).2)) (h2 (by omega))
theorem run_full {g:List Grp} {e:Ex} (h:x0k e g=0) (w:List Int):(x2b e g w).2=w.length ↔ LiveE e g w:=by
 constructor
 ·intro hl
  have:=(run_spec h w).2.2.1
  rw[hl,List.take_length] at this
  exact this
 ·intro hl
  exact run_eq h w _ (Nat.le_refl _) (by rw[List.take_length];exact hl) (fun h=>absurd h (Nat.lt_irrefl _))
theorem accepts_iff {g:List Grp} {e:Ex} (w:List Int):x0n e g w=true ↔ x0k e g=0/\AccE e g w:=by
 unfold x0n
 rw[Bool.and_eq_true,Bool.and_eq_true,decide_eq_true_eq,decide_eq_true_eq]
 constructor
 ·rintro ⟨h,h1,h2⟩
  refine⟨h,?_⟩
  have hM:=mc_ok h
  have hS:=(run_spec h w).1
  rw[h1,List.take_length] at hS
  rw[hS] at h2
  unfold endsS at h2
  rw[Bool.or_eq_true,Bool.and_eq_true,List.any_eq_true] at h2
  rcases h2 with ⟨h3,h4⟩ | ⟨a,h3,h4⟩
  ·exact⟨-1,(foldS_iff hM _ _).1 h3,by simp[endS,h4]⟩
  ·have:=hM.last a h3
   exact⟨a,(foldS_iff hM _ _).1 h4,by simp[endS,h3];right;omega⟩
 ·rintro ⟨h,x,h1,h2⟩
  have hM:=mc_ok h
  have hl:=(run_full h w).2 ⟨x,h1⟩
  have hS:=(run_spec h w).1
  rw[hl,List.take_length] at hS
  refine⟨h,hl,?_⟩
  rw[hS]
  exact endsS_true ((foldS_iff hM _ _).2 h1) h2
theorem begins_eq {g:List Grp} {e:Ex} (h:x0k e g=0) (w:List Int):x18 e g w=(x2b e g w).2:=by unfold x18;rw[if_pos h]
def NetR (w:World) (B:Nat) (M:Nat->Prop) (nb:Nat) (N:NetD):Prop:=∃ lab tv bv nv vs,NetS w B M lab nb N tv bv nv vs
def NetGo (w wr:World) (B:Nat) (M:Nat->Prop) (nb:Nat) (N:NetD):Prop:=∃ M',NetR wr B M' nb N/\Grow M M' w.heap.size wr.heap.size/\Upd M w wr
theorem NetR.pure {w2:World} {B:Nat} {M:Nat->Prop} {nb:Nat} {N:NetD} (h:NetR w B M nb N) (hu:Pure w w2):NetR w2 B M nb N:=by
 obtain⟨lab,tv,bv,nv,vs,h⟩:=h
 exact⟨lab,tv,bv,nv,vs,h.pure hu⟩
theorem NetR.low {B:Nat} {M:Nat->Prop} {nb:Nat} {N:NetD} (h:NetR w B M nb N):∀ k,M k->B<=k/\k < w.heap.size:=by
 obtain⟨lab,tv,bv,nv,vs,h⟩:=h
 exact h.low
theorem NetGo.refl {B:Nat} {M:Nat->Prop} {nb:Nat} {N:NetD} (h:NetR w B M nb N):NetGo w w B M nb N:=⟨M,h,⟨fun _ h=>h,fun _ h=>.inl h⟩,Upd.refl _ _⟩
theorem Grow.comp {w2:World} {M M1 M2:Nat->Prop} (g1:Grow M M1 w.heap.size w1.heap.size) (u1:Upd M w w1) (g2:Grow M1 M2 w1.heap.size w2.heap.size) (u2:Upd M1 w1 w2):Grow M M2 w.heap.size w2.heap.size/\Upd M w w2:=
 ⟨⟨fun k hk=>g2.1 k (g1.1 k hk),fun k hk=>by
   rcases g2.2 k hk with h | h
   ·rcases g1.2 k h with h | h
    ·exact .inl h
    ·exact .inr ⟨h.1,Nat.lt_of_lt_of_le h.2 u2.size⟩
   ·exact .inr ⟨Nat.le_trans u1.size h.1,h.2⟩⟩,Upd.trans u1 u2 (fun k hk h=>(g1.2 k h).elim id (fun h=>absurd hk (by omega)))⟩
theorem Grow.new {M:Nat->Prop} {lo hi a b:Nat} (h1:lo<=a) (h2:b<=hi):Grow M (MNew M a b) lo hi:=⟨fun _ h=>.inl h,fun k h=>h.elim .inl (fun h=>.inr ⟨by omega,by omega⟩)⟩
theorem Grow.same {M:Nat->Prop} {lo hi:Nat}:Grow M M lo hi:=⟨fun _ h=>h,fun _ h=>.inl h⟩
theorem NetGo.trans {w2:World} {B:Nat} {M:Nat->Prop} {nb:Nat} {N N':NetD} (h:NetGo w w1 B M nb N) (h2:∀ M',NetR w1 B M' nb N->NetGo w1 w2 B M' nb N'):NetGo w w2 B M nb N':=by
 obtain⟨M1,r1,g1,u1⟩:=h
 obtain⟨M2,r2,g2,u2⟩:=h2 M1 r1
 obtain⟨g,u⟩:=Grow.comp g1 u1 g2 u2
 exact⟨M2,r2,g,u⟩
def NetD.wt (N:NetD):Nat:=N.nx.length+(N.tos.map List.length).sum
theorem sum_mod (fs:List (List Int)) (a:Nat) (y:List Int):((fs.modify a (· ++ y)).map List.length).sum<=(fs.map List.length).sum+y.length:=by
 induction fs generalizing a with
 | nil=>cases a <;> simp
 | cons x r ih=>
   cases a with
   | zero=>simp;omega
   | succ a=>have:=ih a;simp at this ⊢;omega
theorem NetD.x4y (N:NetD):N.place.wt=N.wt+1:=by unfold wt place;simp;omega
theorem NetD.x4j (N:NetD) (a b:Nat):(N.free a b).wt<=N.wt+1:=by have:=sum_mod N.tos a [(b:Int)];simp only[List.length_singleton] at this;show N.nx.length+((N.tos.modify a (· ++ [(b:Int)])).map List.length).sum<=N.nx.length+(N.tos.map List.length).sum+1;omega
theorem NetD.wt_setBy (N:NetD) (c:Nat) (l:List Int) (b:Nat):(N.setBy c l b).wt=N.wt:=by unfold wt setBy;simp
theorem mem_le_sum {x:Nat}:∀ {l:List Nat},x ∈ l->x<=l.sum
 | y :: r,h=>by
   rcases List.mem_cons.1 h with rfl | h
   ·simp
   ·have:=mem_le_sum h;simp;omega
theorem NetD.wt_row {N:NetD} {a:Nat} {x:List Int} (h:N.tos[a]?=some x):x.length<=N.wt:=by
 have h1:x.length ∈ N.tos.map List.length:=List.mem_map.2 ⟨x,List.mem_of_getElem? h,rfl⟩
 have:=mem_le_sum h1
 unfold wt;omega
theorem NetS.keep {w2:World} {B:Nat} {M:Nat->Prop} {lab:Nat->Nat} {nb:Nat} {N:NetD} {tv bv nv v:Value} {vs:List Value} {j:Nat} (h:NetS w B M lab nb N tv bv nv vs) (hU:Upd (fun k=>v.ownBlock=some k) w w2) (hj:v.ownBlock=some nb->lab nb=j+1) :
 nb < w2.heap.size/\(∀ i,w2.frozen? ⟨nb,i,none⟩=false)/\w2.cell? ⟨nb,0,none⟩=some tv/\w2.cell? ⟨nb,1,none⟩=some bv/\w2.cell? ⟨nb,2,none⟩=some nv:=by
 have hb:w2.heap[nb]?=some (.cells #[tv,bv,nv] 229 (0,0)):=by rw[hU.block nb (h.low nb h.nbM.1).2 (fun e=>by have:=hj e;have:=h.nbM.2;omega)];exact h.blk
 refine⟨(lB hb),fun i=>by simp[World.frozen?,hb],?_,?_,?_⟩ <;> (unfold World.cell?;simp only[hb];rfl)
theorem nplc_calls {B:Nat} {M:Nat->Prop} {nb:Nat} {N:NetD} (h:NetR w B M nb N) (ht:N.tos.length=N.nx.length) (hby:N.bys.length=N.nx.length) (hb:N.nx.length<=1048576) :
 Calls Tryz.prog 170 #[.pointer (some ⟨nb,0,none⟩)] w fun r w'=>r=.returned (.int .i64 N.nx.length)/\NetGo w w' B M nb N.place:=by
 obtain⟨lab,tv,bv,nv,vs,hs⟩:=h
 have HS:=mK hs
 have q0:w.cell? ⟨nb,0,none⟩=some tv:=by unfold World.cell?;simp only[hs.blk];rfl
 have f0:w.frozen? ⟨nb,0,none⟩=false:=by simp[World.frozen?,hs.blk]
 obtain⟨i0,hi,hz0,hz1,hz2⟩:=info_parts slice_info
 have hnl:=(hs.low nb hs.nbM.1).2
 have HT:=mK ht
 have HBY:=mK hby
 have hb1:N.tos.length<=1048576:=by omega
 have hb2:N.bys.length<=1048576:=by omega
 clear hs ht hby
 go_enter Tryz.func170,Tryz.ntmps170
 go_wp2_with (at_builtin;refine wpList_append_own_at _ rfl _ _ 196 rfl 0 83 i0 (.slice none 0 0) 1 24 Tryz.underlying196 hi hz0 hz1 hz2 rfl (by decide) _ _ _ rfl (HS.o.ct.own.alloc _) ⟨w.heap.size,0,none⟩ 1 1 [.slice none 0 0] rfl rfl (cell_one_new _ _ _) (by simp[Value.oneCell']) (by unfold maxLen;omega) (by omega) (Nat.zero_le _) ?_;intro v1 w1 ho1 hg1 _ hat1;obtain⟨g1,cap1,rfl,_,hg1l⟩:=ho1.form (by omega);apply As.o)
 refine⟨?_⟩
 have hU1:Upd (fun k=>tv.ownBlock=some k) w w1:=Upd.x3o (World.grownBy.trans (World.grownBy_alloc w _ _) hg1) (fun k hk=>hk)
 obtain⟨hs1,hu1⟩:=NetS.to1 HS.o ho1 hU1 (hat1.imp id (fun h=>⟨_,h,by simp⟩))
 have hk1:=NetS.keep HS.o hU1 (fun e=>(HS.o.ct.inM nb e).2)
 have f1:w1.frozen? ⟨nb,0,none⟩=false:=hk1.2.1 0
 have f2:w1.frozen? ⟨nb,1,none⟩=false:=hk1.2.1 1
 have f3:w1.frozen? ⟨nb,2,none⟩=false:=hk1.2.1 2
 have q1:w1.cell? ⟨nb,1,none⟩=some bv:=hk1.2.2.2.1
 have q10:w1.cell? ⟨nb,0,none⟩=some tv:=hk1.2.2.1
 have hnl1:=hk1.1
 have HS1:=mK hs1
 have HU1:=mK hu1
 have HSZ:=mK hU1.size
 clear hs1 hu1 hk1 ho1 hg1 hat1 hU1 q0 f0
 go_wp2_with (at_builtin;refine Rp.x1i intR.slice (c:=1) ((HS1.o.pure (rU.alloc _)).cb.own) (Rp.x5j (d:=intR.slice) (F:=fun k=>k < B) (x:=[]) (cs:=[.slice none 0 0]) ⟨none,0,rfl,Nat.zero_le _,Rp.row_nil _ _ _ _⟩ (heap_alloc_new _ (.cells #[.slice none 0 0] 83))) (fun k hk _ he=>by have:=(HS1.o.low k (HS1.o.cb.inM k he.symm).1).1;omega) (by rfl) _ _ 196 (.slice none 0 0) 24 (by rfl) Tryz.underlying196 slice_info rfl (by decide) (by decide) (by rfl) (by simp[Act.eval,World.setCell]) (by simp;omega) ?_;intro v2 w2 ho2 hu2 hat2;obtain⟨A2,c2,rfl,_,_⟩:=Rp.x0c ho2;apply As.o)
 refine⟨?_⟩
 have hPa:=HS1.o.pure (rU.alloc (.cells #[.slice none 0 0] 83))
 obtain⟨hs2,hu2'⟩:=NetS.by1 hPa (Rp.x3a ho2 (fun k hk=>by
  rcases hk with ⟨h1 | h1,h2⟩ | h1 | h1
  ·exact .inl h1
  ·exact absurd h1.symm h2
  ·exact .inl h1
  ·exact .inr h1)) hu2 hat2
 have e2:(N.bys ++ [([]:List Int)]).length=N.bys.length+1:=by simp
 simp only[e2] at hs2 hu2'
 have hk2:=NetS.keep hPa hu2 (fun e=>(hPa.cb.inM nb e).2)
 have f4:w2.frozen? ⟨nb,1,none⟩=false:=hk2.2.1 1
 have f5:w2.frozen? ⟨nb,2,none⟩=false:=hk2.2.1 2
 have q4:w2.cell? ⟨nb,1,none⟩=some bv:=hk2.2.2.2.1
 have q5:w2.cell? ⟨nb,2,none⟩=some nv:=hk2.2.2.2.2
 have hnl2:=hk2.1
 have HS2:=mK hs2
 have HU2:=mK hu2'
 have HSZ2:=mK hu2.size
 clear hs2 hu2' hk2 ho2 hat2 hu2 hPa q1 q10 f1 f2 f3
 go_wp2_with (at_builtin;refine Rp.x1i intR (c:=1) ((HS2.o.pure (rU.alloc _)).cn.own) (Rp.x5j (d:=intR) (F:=fun _=>False) (x:=-1) (cs:=[.int .i64 (-1)]) rfl (heap_alloc_new _ (.cells #[.int .i64 (-1)] 3))) (fun _ h=>h.elim) (by rfl) _ _ 83 (.int .i64 0) 8 (by rfl) Tryz.underlying83 x3n rfl (by decide) (by decide) (by rfl) (by simp[Act.eval,World.setCell]) (by show (N.nx.length+1) * 8<=_;omega) ?_;intro v3 w3 ho3 hu3 hat3;obtain⟨A3,c3,rfl,_,_⟩:=Rp.x0c ho3;apply As.o)
 refine⟨?_⟩
 have hPa:=HS2.o.pure (rU.alloc (.cells #[.int .i64 (-1)] 3))
 obtain⟨hs3,hu3'⟩:=NetS.nx1 hPa ho3 hu3 hat3
 have e3:(N.nx ++ [(-1:Int)]).length=N.nx.length+1:=by simp
 simp only[e3] at hs3 hu3'
 have hk3:=NetS.keep hPa hu3 (fun e=>(hPa.cn.inM nb e).2)
 have f5:w3.frozen? ⟨nb,2,none⟩=false:=hk3.2.1 2
 have q5:w3.cell? ⟨nb,2,none⟩=some nv:=hk3.2.2.2.2
 have hnl3:=hk3.1
 have HS3:=mK hs3
 have HU3:=mK hu3'
 have HSZ3:=mK hu3.size
 clear hs3 hu3' hk3 ho3 hat3 hu3 hPa q4 f4
 have hl3:IntKind.i64.wrap ((N.nx.length:Int)+1 - 1)=N.nx.length:=by rw[show (N.nx.length:Int)+1 - 1=N.nx.length by omega];exact IntWalk.i64_in _ (by omega)
 go_wp2
 go_ret
 refine⟨by simp[hl3],?_⟩
 obtain⟨a1,b1⟩:=Grow.comp (Grow.new (b:=w1.heap.size) (Nat.le_refl _) (by simp[World.setCell])) HU1.o Grow.same (rU.alloc (.cells #[.slice none 0 0] 83))
 obtain⟨a2,b2⟩:=Grow.comp a1 b1 (Grow.new (b:=w2.heap.size) (Nat.le_refl _) (by simp[World.setCell])) HU2.o
 obtain⟨a3,b3⟩:=Grow.comp a2 b2 Grow.same (rU.alloc (.cells #[.int .i64 (-1)] 3))
 obtain⟨a4,b4⟩:=Grow.comp a3 b3 (Grow.new (b:=w3.heap.size) (Nat.le_refl _) (by simp[World.setCell])) HU3.o
 exact⟨_,⟨_,_,_,_,_,HS3.o⟩,a4,b4⟩
theorem free_calls {B:Nat} {M:Nat->Prop} {nb:Nat} {N:NetD} (h:NetR w B M nb N) {a b:Nat} (ha:a < N.tos.length) (ht:N.tos.length<=1048576) (hb:N.wt<=1048576) :
 Calls Tryz.prog 200 #[.pointer (some ⟨nb,0,none⟩),.int .i64 a,.int .i64 b] w fun r w'=>r=.returned (.tuple #[])/\NetGo w w' B M nb (N.free a b):=by
 obtain⟨lab,tv,bv,nv,vs,hs⟩:=h
 obtain⟨y,hy⟩:∃ y,N.tos[a]?=some y:=⟨_,List.getElem?_eq_getElem ha⟩
 have hyl:y.length<=1048576:=Nat.le_trans (NetD.wt_row hy) hb
 have hvl:vs.length=N.tos.length:=by simpa using hs.ct.own.1
 obtain⟨u,hu⟩:∃ u,vs[a]?=some u:=⟨_,List.getElem?_eq_getElem (by omega)⟩
 obtain⟨fb,cap,rfl,_,hfbl⟩:=hs.ct.own.form (by omega)
 have hmd:As (NetS w.drew B M lab nb N (.slice (some ⟨fb,0,none⟩) N.tos.length cap) bv nv vs):=⟨hs.pure (rU.drew)⟩
 obtain⟨hou,huM⟩:=hmd.o.ct.each a u y hu hy
 have hcur:∃ cur,w.heap[fb]?=some (.cells cur 83 (0,0))/\cur[a]?=some u:=by
  rcases hs.ct.own.2 with ⟨h,_⟩ | ⟨g,cap',cur,hv,_,hg,hle,_,hcs,htake⟩
  ·cases h
  ·simp at hv
   obtain⟨rfl,rfl⟩:=hv
   refine⟨cur,hg,?_⟩
   rw[<- htake,List.getElem?_take] at hu
   split at hu
   ·simpa using hu
   ·cases hu
 obtain⟨cur,hcb,hcn⟩:=hcur
 have q1:w.cell? ⟨nb,0,none⟩=some (.slice (some ⟨fb,0,none⟩) N.tos.length cap):=by unfold World.cell?;simp only[hs.blk];rfl
 have q2:w.cell? ⟨fb,a,none⟩=some u:=by unfold World.cell?;simp only[hcb];exact hcn
 have q3:w.frozen? ⟨fb,a,none⟩=false:=by simp[World.frozen?,hcb]
 have hnl:=(hs.low nb hs.nbM.1).2
 have HSK:As (∀ w1,Upd (fun k=>u.ownBlock=some k) w.drew w1->w1.cell? ⟨nb,0,none⟩=some (.slice (some ⟨fb,0,none⟩) N.tos.length cap)/\w1.cell? ⟨fb,a,none⟩=some u/\w1.frozen? ⟨fb,a,none⟩=false):=⟨by
  intro w1 hU
  have hfbl:=hs.ct.inM fb rfl
  have n1:¬ u.ownBlock=some nb:=fun hk=>by have:=(huM nb hk).2;have:=hs.nbM.2;omega
  have n2:¬ u.ownBlock=some fb:=fun hk=>by have:=(huM fb hk).2;omega
  exact⟨(hU.cell hnl n1).trans q1,(hU.cell (hs.low fb hfbl.1).2 n2).trans q2,(hU.frozen (hs.low fb hfbl.1).2 n2).trans q3⟩⟩
 have HOU:=mK hou
 have HY:=mK hy
 have HUU:=mK hu
 have HQ:=mK (And.intro q1 (And.intro q2 q3))
 have hnfi:(a:Int) < (N.tos.length:Int):=by omega
 have HV:=mK hvl
 clear hy hu hou hcb hcn hs q1 q2 q3 huM hvl hb
 go_enter Tryz.func200,Tryz.ntmps200
 go_wp2
 have q2:=HQ.o.2.1
 have q2d:w.drew.cell? ⟨fb,a,none⟩=some u:=q2
 refine x0m (P:=Tryz.prog) (fun w'=>w'.cell? ⟨nb,0,none⟩=some (.slice (some ⟨fb,0,none⟩) N.tos.length cap)/\w'.cell? ⟨fb,a,none⟩=some u/\w'.frozen? ⟨fb,a,none⟩=false) 16 (by kernel_rfl) ?_ (fun hHeld=>?_)
 ·first | exact HQ.o | exact HSK.o _ HU2.o | exact HSK.o _ (rU.alloc _)
 refine zT 0 ?_
 refine zT 1 ?_
 refine zT 2 ?_
 refine zT 3 ?_
 (try simp only[Act.put,sA,sB,sC])
 refine zT 4 ?_
 refine zT 5 ?_
 refine zT 6 ?_
 refine zT 7 ?_
 (try simp only[Act.put,sA,sB,sC])
 refine zT 8 ?_
 refine zT 9 ?_
 refine zT 10 ?_
 refine zT 11 ?_
 (try simp only[Act.put,sA,sB,sC])
 refine zT 12 ?_
 refine oT 13 (fun K hK=>?_)
 go_simp
 refine hK.out _ _ (fun _=>by first | exact HQ.o | exact HSK.o _ HU2.o | exact HSK.o _ (rU.alloc _)) (fun hHeld=>?_)
 replace hHeld:=hHeld (by decide)
 clear hK K
 (try simp only[Act.put,sA,sB,sC])
 refine oT 14 (fun K hK=>?_)
 refine Rp.x1g intR (c:=1) (Rp.x1s HOU.o _) (Rp.x5j (d:=intR) (F:=fun _=>False) (x:=(b:Int)) (cs:=[.int .i64 b]) rfl (heap_alloc_new _ (.cells #[.int .i64 b] 3))) (fun _ h=>h.elim) (by rfl) _ _ 83 (.int .i64 0) 8 (by rfl) Tryz.underlying83 x3n rfl (by decide) (by decide) (by rfl) (by rfl) (by simp;omega) ?_;intro v1 w2 ho1 hu2 hat;obtain⟨A1,c1,rfl,_,_⟩:=Rp.x0c ho1;have HO1:=mK ho1;have HUA:=mK hu2;have HU2:=mK (Upd.trans ((Upd.refl (fun k=>u.ownBlock=some k) w.drew).alloc (.cells #[.int .i64 b] 3)) hu2 (fun k _ h=>h));have HAT:=mK hat;obtain⟨s1,s2,s3⟩:=HSK.o w2 HU2.o;clear ho1 hu2 hat
 refine hK.out _ _ (fun _=>by first | exact HQ.o | exact HSK.o _ HU2.o | exact HSK.o _ (rU.alloc _)) (fun hHeld=>?_)
 replace hHeld:=hHeld (by decide)
 clear hK K
 (try simp only[Act.put,sA,sB,sC])
 refine zT 15 ?_
 refine oT 16 (fun K hK=>?_)
 go_simp
 refine hK.out _ _ (fun h=>absurd rfl h) (fun hHeld=>?_)
 clear hK K
 (try simp only[Act.put,sA,sB,sC])
 refine x0l (by kernel_rfl) ?_ _
 have hma:=hmd.o.pure (rU.alloc (.cells #[.int .i64 b] 3))
 obtain⟨hmn,hun⟩:=NetS.free1 hma HY.o HUU.o HO1.o HUA.o HAT.o
 have e2:(y ++ [(b:Int)]).length=y.length+1:=by simp
 rw[e2] at hmn hun
 go_wp2
 go_end0
 refine⟨rfl,?_⟩
 obtain⟨a1,b1⟩:=Grow.comp (Grow.same (lo:=w.heap.size)) (show Upd M w (w.drew.alloc (.cells #[.int .i64 b] 3)) from(rU.drew).alloc _) (Grow.new (b:=w2.heap.size) (Nat.le_refl _) (by simp[World.setCell])) hun
 exact⟨_,⟨_,_,_,_,_,hmn⟩,a1,b1⟩
end Go.Proofs.YtofjodppljnlaaaGreatDoor
