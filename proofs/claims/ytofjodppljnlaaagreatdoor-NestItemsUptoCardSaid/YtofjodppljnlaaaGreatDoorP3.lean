/- My own texts, packed: NetD, Ref5. -/
import Derived.Test.YtofjodppljnlaaaGreatDoorP1
set_option maxRecDepth 100000
set_option maxHeartbeats 4000000
set_option linter.unusedVariables false
set_option linter.unusedSimpArgs false
variable {w w1 W:Go.World} {F G:Nat → Prop} {A B:Option Go.Addr} {cb c:Nat}
namespace Go.Proofs.YtofjodppljnlaaaGreatDoor
open Go.RowKit
inductive Plus (L:List Int->Prop):List Int->Prop
 | one {u:List Int}:L u->Plus L u
 | more {u v:List Int}:L u->Plus L v->Plus L (u ++ v)
def signL (k:Int) (L:List Int->Prop) (w:List Int):Prop:=(k ≠ 5/\w=[])\/L w\/(k ≠ 6/\Plus L w)
mutual
def langE (ty:ByteArray->List Int):Ex->List Int->Prop
 | .mk k nm l,w=>if k=0 then w=[] else if k=1 then (∃ t,w=[t]/\t ∈ ty nm) else if k=2 then x3t ty l w else if k=3 then x4h ty l w else signL k (x3s ty l) w
def x3t (ty:ByteArray->List Int):List Ex->List Int->Prop
 | [],w=>w=[]
 | x :: r,w=>∃ u v,w=u ++ v/\langE ty x u/\x3t ty r v
def x4h (ty:ByteArray->List Int):List Ex->List Int->Prop
 | [],_=>False
 | x :: r,w=>langE ty x w\/x4h ty r w
def x3s (ty:ByteArray->List Int):List Ex->List Int->Prop
 | [],_=>False
 | x :: _,w=>langE ty x w
end
mutual
/-- All names have types, all signs a part. -/
def liveE (ty:ByteArray->List Int):Ex->Prop
 | .mk k nm l=>if k=0 then True else if k=1 then ty nm ≠ [] else if k=2 then x1p ty l else if k=3 then l ≠ []/\x1p ty l else l ≠ []/\x1p ty l
def x1p (ty:ByteArray->List Int):List Ex->Prop
 | []=>True
 | x :: r=>liveE ty x/\x1p ty r
end
mutual
theorem lang_some (ty:ByteArray->List Int):∀ e:Ex,liveE ty e->∃ w,langE ty e w
 | .mk k nm l,h=>by
   unfold liveE at h
   unfold langE
   by_cases h0:k=0
   ·exact⟨[],by rw[if_pos h0]⟩
   ·rw[if_neg h0] at h
    by_cases h1:k=1
    ·rw[if_pos h1] at h
     obtain⟨t,ht⟩:=List.exists_mem_of_ne_nil _ h
     exact⟨[t],by rw[if_neg h0,if_pos h1];exact⟨t,rfl,ht⟩⟩
    ·rw[if_neg h1] at h
     by_cases h2:k=2
     ·rw[if_pos h2] at h
      obtain⟨w,hw⟩:=x6e ty l h
      exact⟨w,by rw[if_neg h0,if_neg h1,if_pos h2];exact hw⟩
     ·rw[if_neg h2] at h
      by_cases h3:k=3
      ·rw[if_pos h3] at h
       obtain⟨w,hw,_⟩:=x6d ty l h.1 h.2
       exact⟨w,by rw[if_neg h0,if_neg h1,if_neg h2,if_pos h3];exact hw⟩
      ·rw[if_neg h3] at h
       obtain⟨w,_,hw⟩:=x6d ty l h.1 h.2
       exact⟨w,by rw[if_neg h0,if_neg h1,if_neg h2,if_neg h3];exact .inr (.inl hw)⟩
theorem x6e (ty:ByteArray->List Int):∀ l:List Ex,x1p ty l->∃ w,x3t ty l w
 | [],_=>⟨[],by unfold x3t;rfl⟩
 | x :: r,h=>by
   unfold x1p at h
   obtain⟨u,hu⟩:=lang_some ty x h.1
   obtain⟨v,hv⟩:=x6e ty r h.2
   exact⟨u ++ v,by unfold x3t;exact⟨u,v,rfl,hu,hv⟩⟩
theorem x6d (ty:ByteArray->List Int):∀ l:List Ex,l ≠ []->x1p ty l->∃ w,x4h ty l w/\x3s ty l w
 | [],h,_=>absurd rfl h
 | x :: r,_,h=>by
   unfold x1p at h
   obtain⟨u,hu⟩:=lang_some ty x h.1
   exact⟨u,by unfold x4h;exact .inl hu,by unfold x3s;exact hu⟩
end
theorem Plus.app {L:List Int->Prop} {u v:List Int} (h:Plus L u) (h':Plus L v):Plus L (u ++ v):=by
 induction h with
 | one h=>exact .more h h'
 | more h _ ih=>rw[List.append_assoc];exact .more h ih
structure NetD where
 tos:List (List Int)
 bys:List (List Int)
 nx:List Int
def NetD.place (N:NetD):NetD:=⟨N.tos ++ [[]],N.bys ++ [[]],N.nx ++ [-1]⟩
def NetD.free (N:NetD) (a b:Nat):NetD:=⟨N.tos.modify a (· ++ [(b:Int)]),N.bys,N.nx⟩
def NetD.setBy (N:NetD) (c:Nat) (l:List Int) (b:Nat):NetD:=⟨N.tos,N.bys.set c l,N.nx.set c (b:Int)⟩
mutual
def layE (ty:ByteArray->List Int):Ex->Nat->Nat->NetD->NetD
 | .mk k nm l,a,b,N=>
   if k=0 then N.free a b
   else if k=1 then (N.place.free a N.nx.length).setBy N.nx.length (ty nm) b
   else if k=2 then x40 ty l a b N
   else if k=3 then x3z ty l a b N
   else
    let N2:=(x3l ty l N.nx.length (N.nx.length+1) (N.place.place.free a N.nx.length)).free (N.nx.length+1) b
    let N4:=if k ≠ 6 then N2.free (N.nx.length+1) N.nx.length else N2
    if k ≠ 5 then N4.free a b else N4
def x40 (ty:ByteArray->List Int):List Ex->Nat->Nat->NetD->NetD
 | [],a,b,N=>N.free a b
 | x :: r,a,b,N=>x40 ty r N.nx.length b (layE ty x a N.nx.length N.place)
def x3z (ty:ByteArray->List Int):List Ex->Nat->Nat->NetD->NetD
 | [],_,_,N=>N
 | x :: r,a,b,N=>x3z ty r a b (layE ty x a b N)
def x3l (ty:ByteArray->List Int):List Ex->Nat->Nat->NetD->NetD
 | [],_,_,N=>N
 | x :: _,a,b,N=>layE ty x a b N
end
/-- One way. -/
def NetD.E (N:NetD) (p:Nat) (u:List Int) (q:Nat):Prop:=
 (u=[]/\(q:Int) ∈ N.tos.getD p [])\/(∃ t,u=[t]/\t ∈ N.bys.getD p []/\N.nx.getD p (-1)=(q:Int))
inductive Rch (E:Nat->List Int->Nat->Prop):Nat->List Int->Nat->Prop
 | nil (p:Nat):Rch E p [] p
 | cons {p r q:Nat} {u v:List Int}:E p u r->Rch E r v q->Rch E p (u ++ v) q
theorem Rch.trans {E:Nat->List Int->Nat->Prop} {p r q:Nat} {u v:List Int} (h:Rch E p u r) (h':Rch E r v q):Rch E p (u ++ v) q:=by
 induction h with
 | nil p=>exact h'
 | cons he _ ih=>rw[List.append_assoc];exact .cons he (ih h')
theorem Rch.one {E:Nat->List Int->Nat->Prop} {p q:Nat} {u:List Int} (h:E p u q):Rch E p u q:=by
 have:=Rch.cons h (.nil q)
 rwa [List.append_nil] at this
theorem Rch.mono {E E':Nat->List Int->Nat->Prop} (he:∀ p u q,E p u q->E' p u q) {p q:Nat} {u:List Int} (h:Rch E p u q):Rch E' p u q:=by
 induction h with
 | nil p=>exact .nil p
 | cons h1 _ ih=>exact .cons (he _ _ _ h1) ih
/-- A net that is right. -/
structure NetD.Ok (N:NetD):Prop where
 tl:N.tos.length=N.nx.length
 bl:N.bys.length=N.nx.length
 tgt:∀ p,∀ q ∈ N.tos.getD p [],0<=q/\q < N.nx.length
 nx:∀ p,N.bys.getD p [] ≠ []->0<=N.nx.getD p (-1)/\N.nx.getD p (-1) < N.nx.length
theorem getD_mod (fs:List (List Int)) (n i:Nat) (f:List Int->List Int):(fs.modify n f).getD i []=if n=i/\i < fs.length then f (fs.getD i []) else fs.getD i []:=by
 simp only[List.getD,List.getElem?_modify]
 cases hx:fs[i]? with
 | none=>
   have:=List.getElem?_eq_none_iff.1 hx
   rw[if_neg (by omega)]
   split <;> simp
 | some y=>
   have hlt:=(List.getElem?_eq_some_iff.1 hx).1
   by_cases h:n=i
   ·simp[h,hlt]
   ·simp[h]
theorem x3j {α:Type} (l:List α) (x d:α) (i:Nat):(l ++ [x]).getD i d=if i=l.length then x else l.getD i d:=by
 simp only[List.getD]
 rcases Nat.lt_trichotomy i l.length with h | h | h
 ·rw[List.getElem?_append_left h,if_neg (by omega)]
 ·subst h;simp
 ·rw[List.getElem?_append_right (by omega),if_neg (by omega),List.getElem?_eq_none (by simp;omega),List.getElem?_eq_none (by omega)]
theorem x47 {α:Type} (l:List α) (n i:Nat) (x d:α):(l.set n x).getD i d=if n=i/\i < l.length then x else l.getD i d:=by
 simp only[List.getD,List.getElem?_set]
 by_cases h:n=i
 ·subst h
  by_cases h2:n < l.length
  ·simp[h2]
  ·simp[h2]
 ·simp[h]
theorem NetD.place_E (N:NetD) (h:N.Ok) {p:Nat} {u:List Int} {q:Nat}:N.place.E p u q ↔ N.E p u q:=by
 unfold NetD.E NetD.place
 simp only[x3j]
 have e1:N.tos.length=N.nx.length:=h.tl
 have e2:N.bys.length=N.nx.length:=h.bl
 by_cases hp:p=N.nx.length
 ·have g1:N.tos.getD p []=[]:=by simp[List.getD,List.getElem?_eq_none (show N.tos.length<=p by omega)]
  have g2:N.bys.getD p []=[]:=by simp[List.getD,List.getElem?_eq_none (show N.bys.length<=p by omega)]
  rw[e1,e2,if_pos hp,if_pos hp,g1,g2]
  simp
 ·rw[e1,e2,if_neg hp,if_neg hp,if_neg hp]
theorem NetD.free_E (N:NetD) (h:N.Ok) {a b:Nat} (ha:a < N.nx.length) {p:Nat} {u:List Int} {q:Nat}:(N.free a b).E p u q ↔ N.E p u q\/(p=a/\u=[]/\q=b):=by
 unfold NetD.E NetD.free
 simp only[getD_mod]
 by_cases hp:a=p/\p < N.tos.length
 ·rw[if_pos hp,List.mem_append,List.mem_singleton]
  constructor
  ·rintro (⟨h1,h2 | h2⟩ | h1)
   ·exact .inl (.inl ⟨h1,h2⟩)
   ·exact .inr ⟨hp.1.symm,h1,by omega⟩
   ·exact .inl (.inr h1)
  ·rintro ((⟨h1,h2⟩ | h1) | ⟨h1,h2,h3⟩)
   ·exact .inl ⟨h1,.inl h2⟩
   ·exact .inr h1
   ·exact .inl ⟨h2,.inr (by omega)⟩
 ·rw[if_neg hp]
  constructor
  ·exact .inl
  ·rintro (h1 | ⟨h1,_⟩)
   ·exact h1
   ·exact absurd ⟨h1.symm,by rw[h.tl];omega⟩ hp
theorem NetD.setBy_E (N:NetD) (h:N.Ok) {c b:Nat} (hc:c < N.nx.length) (h0:N.bys.getD c []=[]) (l:List Int) {p:Nat} {u:List Int} {q:Nat}:(N.setBy c l b).E p u q ↔ N.E p u q\/(p=c/\q=b/\∃ t,u=[t]/\t ∈ l):=by
 unfold NetD.E NetD.setBy
 simp only[x47]
 rw[h.bl]
 by_cases hp:c=p/\p < N.nx.length
 ·rw[if_pos hp,if_pos hp]
  obtain⟨rfl,_⟩:=hp
  rw[h0]
  constructor
  ·rintro (h1 | ⟨t,h1,h2,h3⟩)
   ·exact .inl (.inl h1)
   ·exact .inr ⟨rfl,by omega,t,h1,h2⟩
  ·rintro ((h1 | ⟨t,h1,h2,h3⟩) | ⟨_,h1,t,h2,h3⟩)
   ·exact .inl h1
   ·cases h2
   ·exact .inr ⟨t,h2,h3,by omega⟩
 ·rw[if_neg hp,if_neg hp]
  constructor
  ·exact .inl
  ·rintro (h1 | ⟨h1,_⟩)
   ·exact h1
   ·exact absurd ⟨h1.symm,by omega⟩ hp
theorem NetD.x4f {N:NetD} (h:N.Ok):N.place.Ok:=by
 have e1:N.tos.length=N.nx.length:=h.tl
 have e2:N.bys.length=N.nx.length:=h.bl
 refine⟨by simp[NetD.place,e1],by simp[NetD.place,e2],fun p q hq=>?_,fun p hp=>?_⟩
 ·simp only[NetD.place,x3j] at hq ⊢
  split at hq
  ·cases hq
  ·have:=h.tgt p q hq
   simp
   omega
 ·simp only[NetD.place,x3j] at hp ⊢
  by_cases hpl:p=N.nx.length
  ·rw[if_pos (by omega)] at hp
   exact absurd rfl hp
  ·rw[if_neg (by omega)] at hp
   have:=h.nx p hp
   rw[if_neg hpl,List.length_append,List.length_singleton]
   omega
theorem NetD.x4s {N:NetD} (h:N.Ok) {a b:Nat} (hb:b < N.nx.length):(N.free a b).Ok:=by
 refine⟨by simp[NetD.free,h.tl],h.bl,fun p q hq=>?_,h.nx⟩
 simp only[NetD.free,getD_mod] at hq ⊢
 split at hq
 ·rcases List.mem_append.1 hq with hq | hq
  ·exact h.tgt p q hq
  ·rw[List.mem_singleton.1 hq]
   omega
 ·exact h.tgt p q hq
theorem NetD.setBy_ok {N:NetD} (h:N.Ok) {c b:Nat} (l:List Int) (hb:b < N.nx.length):(N.setBy c l b).Ok:=by
 refine⟨by simp[NetD.setBy,h.tl],by simp[NetD.setBy,h.bl],fun p q hq=>?_,fun p hp=>?_⟩
 ·simp only[NetD.setBy,List.length_set]
  exact h.tgt p q hq
 ·simp only[NetD.setBy,x47,List.length_set,h.bl] at hp ⊢
  split
  ·omega
  ·rename_i hn
   rw[if_neg hn] at hp
   exact h.nx p hp
theorem NetD.x1o (N:NetD):N.place.nx.length=N.nx.length+1:=by simp[NetD.place]
theorem NetD.x2t (N:NetD) (a b:Nat):(N.free a b).nx.length=N.nx.length:=rfl
theorem NetD.setBy_len (N:NetD) (c:Nat) (l:List Int) (b:Nat):(N.setBy c l b).nx.length=N.nx.length:=by simp[NetD.setBy]
/-- What laying a tree between two places does: it stays right; the tree's words lead from the one to the other; whoever ascribes words to the elder places so that all fits may do so with the new ones, too; from each new place a word leads to the end. -/
structure Laid (N N':NetD) (a b:Nat) (L:List Int->Prop) (live:Prop):Prop where
 ok:N'.Ok
 le:N.nx.length<=N'.nx.length
 sub:∀ p u q,N.E p u q->N'.E p u q
 word:∀ u,L u->Rch N'.E a u b
 sound:∀ K:Nat->List Int->Prop,(∀ p u q v,N.E p u q->K q v->K p (u ++ v))->(∀ u v,L u->K b v->K a (u ++ v)) ->
  ∃ K':Nat->List Int->Prop,(∀ p,p < N.nx.length->K' p=K p)/\∀ p u q v,N'.E p u q->K' q v->K' p (u ++ v)
 trim:live->∀ p,N.nx.length<=p->p < N'.nx.length->∃ v,Rch N'.E p v b
 none:∀ p,p < N.nx.length->N'.bys.getD p []=N.bys.getD p []
theorem Ok.lt {N:NetD} (h:N.Ok) {p:Nat} {u:List Int} {q:Nat} (he:N.E p u q):p < N.nx.length/\q < N.nx.length:=by
 rcases he with ⟨_,h1⟩ | ⟨t,_,h1,h2⟩
 ·have:=h.tgt p _ h1
  refine⟨?_,by omega⟩
  rcases Nat.lt_or_ge p N.nx.length with h3 | h3
  ·exact h3
  ·have:N.tos.getD p []=[]:=by simp[List.getD,List.getElem?_eq_none (show N.tos.length<=p by have:=h.tl;omega)]
   rw[this] at h1
   cases h1
 ·have hne:N.bys.getD p [] ≠ []:=fun h=>by rw[h] at h1;cases h1
  have:=h.nx p hne
  refine⟨?_,by omega⟩
  rcases Nat.lt_or_ge p N.nx.length with h3 | h3
  ·exact h3
  ·have:N.bys.getD p []=[]:=by simp[List.getD,List.getElem?_eq_none (show N.bys.length<=p by have:=h.bl;omega)]
   exact absurd this hne
/-- A way more. -/
theorem laid_free {N:NetD} (h:N.Ok) {a b:Nat} (ha:a < N.nx.length) (hb:b < N.nx.length):Laid N (N.free a b) a b (fun w=>w=[]) True:=by
 refine⟨NetD.x4s h hb,Nat.le_refl _,fun p u q he=>(NetD.free_E N h ha).2 (.inl he),fun u hu=>?_,fun K h1 h2=>⟨K,fun _ _=>rfl,fun p u q v he hv=>?_⟩,fun _ p h1 h2=>?_,fun _ _=>rfl⟩
 ·subst hu
  exact .one ((NetD.free_E N h ha).2 (.inr ⟨rfl,rfl,rfl⟩))
 ·rcases(NetD.free_E N h ha).1 he with he | ⟨rfl,rfl,rfl⟩
  ·exact h1 p u q v he hv
  ·exact h2 [] v rfl hv
 ·rw[NetD.x2t] at h2
  omega
/-- One behind the other, at the same two places: what may go from a to b. -/
theorem Laid.both {N N1 N2:NetD} {a b:Nat} {L M:List Int->Prop} {l m:Prop} (h1:Laid N N1 a b L l) (h2:Laid N1 N2 a b M m) (ha:a < N.nx.length) (hb:b < N.nx.length):Laid N N2 a b (fun w=>L w\/M w) (l/\m):=by
 refine⟨h2.ok,Nat.le_trans h1.le h2.le,fun p u q he=>h2.sub _ _ _ (h1.sub _ _ _ he),fun u hu=>?_,fun K hK hL=>?_,fun hl p hp hp2=>?_,fun p hp=>(h2.none p (Nat.lt_of_lt_of_le hp h1.le)).trans (h1.none p hp)⟩
 ·rcases hu with hu | hu
  ·exact(h1.word u hu).mono h2.sub
  ·exact h2.word u hu
 ·obtain⟨K1,e1,s1⟩:=h1.sound K hK (fun u v hu hv=>hL u v (.inl hu) hv)
  obtain⟨K2,e2,s2⟩:=h2.sound K1 s1 (fun u v hu hv=>by rw[e1 a ha];rw[e1 b hb] at hv;exact hL u v (.inr hu) hv)
  exact⟨K2,fun p hp=>(e2 p (Nat.lt_of_lt_of_le hp h1.le)).trans (e1 p hp),s2⟩
 ·rcases Nat.lt_or_ge p N1.nx.length with h | h
  ·obtain⟨v,hv⟩:=h1.trim hl.1 p hp h
   exact⟨v,hv.mono h2.sub⟩
  ·exact h2.trim hl.2 p h hp2
theorem Laid.imp {N N':NetD} {a b:Nat} {L M:List Int->Prop} {l m:Prop} (h:Laid N N' a b L l) (hL:∀ w,L w ↔ M w) (hm:m->l):Laid N N' a b M m:=
 ⟨h.ok,h.le,h.sub,fun u hu=>h.word u ((hL u).2 hu),fun K hK hM=>h.sound K hK (fun u v hu hv=>hM u v ((hL u).1 hu) hv),fun hl=>h.trim (hm hl),h.none⟩
/-- Over a new place. -/
theorem Laid.over {N N1 N2:NetD} {a b:Nat} {L M:List Int->Prop} {l m:Prop} (h0:N.Ok) (h1:Laid N.place N1 a N.nx.length L l) (h2:Laid N1 N2 N.nx.length b M m) (ha:a < N.nx.length) (hb:b < N.nx.length) (hm:m->∃ v,M v) :
 Laid N N2 a b (fun w=>∃ u v,w=u ++ v/\L u/\M v) (l/\m):=by
 have hle1:N.nx.length+1<=N1.nx.length:=by have:=h1.le;rwa [NetD.x1o] at this
 have key:m->∃ v,Rch N2.E N.nx.length v b:=fun hl=>by
  obtain⟨v,hv⟩:=hm hl
  exact⟨v,h2.word v hv⟩
 refine⟨h2.ok,by have:=h2.le;omega,fun p u q he=>h2.sub _ _ _ (h1.sub _ _ _ ((NetD.place_E N h0).2 he)),?_,fun K hK hL=>?_,fun hl p hp hp2=>?_,fun p hp=>?_⟩
 ·rintro w ⟨u,v,rfl,hu,hv⟩
  exact((h1.word u hu).mono h2.sub).trans (h2.word v hv)
 ·have hc:∀ p,p < N.nx.length->(fun w=>if p=N.nx.length then ∃ u v,w=u ++ v/\M u/\K b v else K p w)=K p:=fun p hp=>by
   funext w
   simp only[if_neg (show p ≠ N.nx.length by omega)]
  obtain⟨K1,e1,s1⟩:=h1.sound (fun p w=>if p=N.nx.length then ∃ u v,w=u ++ v/\M u/\K b v else K p w) (fun p u q v he hv=>by
   have he':=(NetD.place_E N h0).1 he
   have hlt:=Ok.lt h0 he'
   simp only[if_neg (show p ≠ N.nx.length by omega)]
   simp only[if_neg (show q ≠ N.nx.length by omega)] at hv
   exact hK p u q v he' hv) (fun u v hu hv=>by
   simp only[if_true] at hv
   obtain⟨x,y,rfl,hx,hy⟩:=hv
   simp only[if_neg (show a ≠ N.nx.length by omega)]
   rw[<- List.append_assoc]
   exact hL (u ++ x) y ⟨u,x,rfl,hu,hx⟩ hy)
  have e1b:K1 b=K b:=by rw[e1 b (by rw[NetD.x1o];omega),hc b hb]
  obtain⟨K2,e2,s2⟩:=h2.sound K1 s1 (fun u v hu hv=>by
   rw[e1 _ (by rw[NetD.x1o];omega)]
   simp only[if_true]
   rw[e1b] at hv
   exact⟨u,v,rfl,hu,hv⟩)
  exact⟨K2,fun p hp=>by rw[e2 p (by omega),e1 p (by rw[NetD.x1o];omega),hc p hp],s2⟩
 ·by_cases hc:p=N.nx.length
  ·rw[hc]
   exact key hl.2
  ·rcases Nat.lt_or_ge p N1.nx.length with h | h
   ·obtain⟨v,hv⟩:=h1.trim hl.1 p (by rw[NetD.x1o];omega) h
    obtain⟨v',hv'⟩:=key hl.2
    exact⟨v ++ v',(hv.mono h2.sub).trans hv'⟩
   ·exact h2.trim hl.2 p h hp2
 ·rw[h2.none p (by omega),h1.none p (by rw[NetD.x1o];omega)]
  simp only[NetD.place,x3j]
  rw[if_neg (by have:=h0.bl;omega)]
mutual
theorem laid_E (ty:ByteArray->List Int):∀ (e:Ex) (N:NetD) (a b:Nat),N.Ok->a < N.nx.length->b < N.nx.length->Laid N (layE ty e a b N) a b (langE ty e) (liveE ty e)
 | .mk k nm l,N,a,b,h,ha,hb=>by
   by_cases h0:k=0
   ·have e1:layE ty (.mk k nm l) a b N=N.free a b:=by rw[layE,if_pos h0]
    rw[e1]
    exact(laid_free h ha hb).imp (fun w=>by rw[langE,if_pos h0]) (fun _=>trivial)
   by_cases h1:k=1
   ·have e1:layE ty (.mk k nm l) a b N=(N.place.free a N.nx.length).setBy N.nx.length (ty nm) b:=by rw[layE,if_neg h0,if_pos h1]
    rw[e1]
    have o1:=NetD.x4f h
    have o2:(N.place.free a N.nx.length).Ok:=NetD.x4s o1 (by rw[NetD.x1o];omega)
    have hl2:(N.place.free a N.nx.length).nx.length=N.nx.length+1:=by rw[NetD.x2t,NetD.x1o]
    have hn:(N.place.free a N.nx.length).bys.getD N.nx.length []=[]:=by
     simp only[NetD.free,NetD.place,x3j]
     rw[if_pos h.bl.symm]
    have hE:∀ {p u q},((N.place.free a N.nx.length).setBy N.nx.length (ty nm) b).E p u q ↔ (N.E p u q\/(p=a/\u=[]/\q=N.nx.length))\/(p=N.nx.length/\q=b/\∃ t,u=[t]/\t ∈ ty nm):=by
     intro p u q
     rw[NetD.setBy_E _ o2 (by omega) hn,NetD.free_E _ o1 (by rw[NetD.x1o];omega),NetD.place_E N h]
    refine⟨NetD.setBy_ok o2 _ (by omega),by rw[NetD.setBy_len];omega,fun p u q he=>hE.2 (.inl (.inl he)),fun u hu=>?_,fun K hK hL=>?_,fun hl p hp hp2=>?_,fun p hp=>?_⟩
    ·rw[langE,if_neg h0,if_pos h1] at hu
     obtain⟨t,rfl,ht⟩:=hu
     exact .cons (u:=[]) (hE.2 (.inl (.inr ⟨rfl,rfl,rfl⟩))) (.one (hE.2 (.inr ⟨rfl,rfl,t,rfl,ht⟩)))
    ·refine⟨fun p w=>if p=N.nx.length then ∃ t v,w=t :: v/\t ∈ ty nm/\K b v else K p w,fun p hp=>?_,fun p u q v he hv=>?_⟩
     ·funext w
      show (if p=N.nx.length then _ else _)=_
      rw[if_neg (by omega)]
     ·show (if p=N.nx.length then ∃ t v',u ++ v=t :: v'/\t ∈ ty nm/\K b v' else K p (u ++ v))
      replace hv:(if q=N.nx.length then ∃ t v',v=t :: v'/\t ∈ ty nm/\K b v' else K q v):=hv
      rcases hE.1 he with (he | ⟨rfl,rfl,rfl⟩) | ⟨rfl,rfl,t,rfl,ht⟩
      ·have hlt:=Ok.lt h he
       rw[if_neg (by omega)] at hv ⊢
       exact hK p u q v he hv
      ·rw[if_pos rfl] at hv
       rw[if_neg (by omega)]
       obtain⟨t,v',rfl,ht,hv⟩:=hv
       exact hL [t] v' (by rw[langE,if_neg h0,if_pos h1];exact⟨t,rfl,ht⟩) hv
      ·rw[if_neg (by omega)] at hv
       rw[if_pos rfl]
       exact⟨t,v,rfl,ht,hv⟩
    ·rw[NetD.setBy_len] at hp2
     rw[liveE,if_neg h0,if_pos h1] at hl
     obtain⟨t,ht⟩:=List.exists_mem_of_ne_nil _ hl
     have:p=N.nx.length:=by omega
     subst this
     exact⟨[t],.one (hE.2 (.inr ⟨rfl,rfl,t,rfl,ht⟩))⟩
    ·simp only[NetD.setBy,NetD.free,NetD.place,x47,x3j]
     rw[if_neg (by omega),if_neg (by have:=h.bl;omega)]
   by_cases h2:k=2
   ·have e1:layE ty (.mk k nm l) a b N=x40 ty l a b N:=by rw[layE,if_neg h0,if_neg h1,if_pos h2]
    rw[e1]
    exact(laid_seq ty l N a b h ha hb).imp (fun w=>by rw[langE,if_neg h0,if_neg h1,if_pos h2]) (fun hl=>by rw[liveE,if_neg h0,if_neg h1,if_pos h2] at hl;exact hl)
   by_cases h3:k=3
   ·have e1:layE ty (.mk k nm l) a b N=x3z ty l a b N:=by rw[layE,if_neg h0,if_neg h1,if_neg h2,if_pos h3]
    rw[e1]
    exact(laid_alt ty l N a b h ha hb).imp (fun w=>by rw[langE,if_neg h0,if_neg h1,if_neg h2,if_pos h3]) (fun hl=>by rw[liveE,if_neg h0,if_neg h1,if_neg h2,if_pos h3] at hl;exact hl.2)
   -- a sign
   have o1:=NetD.x4f h
   have o2:=NetD.x4f o1
   have o3:(N.place.place.free a N.nx.length).Ok:=NetD.x4s o2 (by rw[NetD.x1o,NetD.x1o];omega)
   have l3:(N.place.place.free a N.nx.length).nx.length=N.nx.length+2:=by rw[NetD.x2t,NetD.x1o,NetD.x1o]
   have hE3:∀ {p u q},(N.place.place.free a N.nx.length).E p u q ↔ N.E p u q\/(p=a/\u=[]/\q=N.nx.length):=by
    intro p u q
    rw[NetD.free_E _ o2 (by rw[NetD.x1o,NetD.x1o];omega),NetD.place_E _ o1,NetD.place_E N h]
   have hO:=laid_one ty l (N.place.place.free a N.nx.length) N.nx.length (N.nx.length+1) o3 (by omega) (by omega)
   generalize hN2:x3l ty l N.nx.length (N.nx.length+1) (N.place.place.free a N.nx.length)=N2 at hO
   have l2:=hO.le
   rw[l3] at l2
   have e1:layE ty (.mk k nm l) a b N=(let N3:=N2.free (N.nx.length+1) b
    let N4:=if k ≠ 6 then N3.free (N.nx.length+1) N.nx.length else N3
    if k ≠ 5 then N4.free a b else N4):=by rw[layE,if_neg h0,if_neg h1,if_neg h2,if_neg h3,hN2]
   generalize layE ty (.mk k nm l) a b N=N9 at e1 ⊢
   have p3:(N2.free (N.nx.length+1) b).Ok:=NetD.x4s hO.ok (by omega)
   have hE9:(N9.Ok/\N9.nx.length=N2.nx.length/\N9.bys=N2.bys)/\∀ {p u q},N9.E p u q ↔ N2.E p u q\/(p=N.nx.length+1/\u=[]/\q=b)\/(k ≠ 6/\p=N.nx.length+1/\u=[]/\q=N.nx.length)\/(k ≠ 5/\p=a/\u=[]/\q=b):=by
    by_cases k6:k=6
    ·have k5:k ≠ 5:=by omega
     simp only[k6,ne_eq,not_true_eq_false,if_false] at e1
     rw[if_pos (by decide)] at e1
     subst e1
     refine⟨⟨NetD.x4s p3 (by rw[NetD.x2t];omega),rfl,rfl⟩,?_⟩
     intro p u q
     rw[NetD.free_E _ p3 (by rw[NetD.x2t];omega),NetD.free_E _ hO.ok (by omega)]
     simp only[k6,ne_eq,not_true_eq_false,false_and,false_or]
     rw[or_assoc]
     simp
    ·simp only[if_pos (show k ≠ 6 from k6)] at e1
     have p4:((N2.free (N.nx.length+1) b).free (N.nx.length+1) N.nx.length).Ok:=NetD.x4s p3 (by rw[NetD.x2t];omega)
     by_cases k5:k=5
     ·rw[if_neg (by omega)] at e1
      subst e1
      refine⟨⟨p4,rfl,rfl⟩,?_⟩
      intro p u q
      rw[NetD.free_E _ p3 (by rw[NetD.x2t];omega),NetD.free_E _ hO.ok (by omega)]
      simp only[k5,ne_eq,not_true_eq_false,false_and,or_false]
      rw[or_assoc]
      simp
     ·rw[if_pos k5] at e1
      subst e1
      refine⟨⟨NetD.x4s p4 (by rw[NetD.x2t,NetD.x2t];omega),rfl,rfl⟩,?_⟩
      intro p u q
      rw[NetD.free_E _ p4 (by rw[NetD.x2t,NetD.x2t];omega),NetD.free_E _ p3 (by rw[NetD.x2t];omega),NetD.free_E _ hO.ok (by omega)]
      simp only[ne_eq,k6,k5,not_false_eq_true,true_and]
      rw[or_assoc,or_assoc]
   obtain⟨⟨ok9,len9,by9⟩,hE9⟩:=hE9
   clear e1
   have sub2:∀ p u q,N2.E p u q->N9.E p u q:=fun p u q he=>hE9.2 (.inl he)
   have hac:N9.E a [] N.nx.length:=sub2 _ _ _ (hO.sub _ _ _ (hE3.2 (.inr ⟨rfl,rfl,rfl⟩)))
   have hdb:N9.E (N.nx.length+1) [] b:=hE9.2 (.inr (.inl ⟨rfl,rfl,rfl⟩))
   have once:∀ u,x3s ty l u->Rch N9.E N.nx.length u (N.nx.length+1):=fun u hu=>(hO.word u hu).mono sub2
   have plus:k ≠ 6->∀ u,Plus (x3s ty l) u->Rch N9.E N.nx.length u (N.nx.length+1):=by
    intro k6 u hu
    induction hu with
    | one h=>exact once _ h
    | more h1 _ ih=>
      have hdc:N9.E (N.nx.length+1) [] N.nx.length:=hE9.2 (.inr (.inr (.inl ⟨k6,rfl,rfl,rfl⟩)))
      exact(once _ h1).trans (Rch.cons (u:=[]) hdc ih)
   have hlang:∀ w,langE ty (.mk k nm l) w ↔ signL k (x3s ty l) w:=fun w=>by rw[langE,if_neg h0,if_neg h1,if_neg h2,if_neg h3]
   refine⟨ok9,by omega,fun p u q he=>sub2 _ _ _ (hO.sub _ _ _ (hE3.2 (.inl he))),fun u hu=>?_,fun K hK hL=>?_,fun hl p hp hp2=>?_,fun p hp=>?_⟩
   ·have wrap:∀ u,Rch N9.E N.nx.length u (N.nx.length+1)->Rch N9.E a u b:=fun u hu=>by
     have:=(Rch.cons (u:=[]) hac hu).trans (.one hdb)
     rwa [List.append_nil] at this
    rcases(hlang u).1 hu with ⟨k5,rfl⟩ | hu | ⟨k6,hu⟩
    ·exact .one (hE9.2 (.inr (.inr (.inr ⟨k5,rfl,rfl,rfl⟩))))
    ·exact wrap u (once u hu)
    ·exact wrap u (plus k6 u hu)
   ·-- what is ascribed to d,and to c
    let D:List Int->Prop:=fun w=>K b w\/(k ≠ 6/\∃ u v,w=u ++ v/\Plus (x3s ty l) u/\K b v)
    let C:List Int->Prop:=fun w=>∃ u v,w=u ++ v/\x3s ty l u/\D v
    have hCD:∀ w,C w->K a w:=by
     rintro w ⟨u,v,rfl,hu,hv | ⟨k6,x,y,rfl,hx,hy⟩⟩
     ·exact hL u v ((hlang u).2 (.inr (.inl hu))) hv
     ·rw[<- List.append_assoc]
      exact hL (u ++ x) y ((hlang _).2 (.inr (.inr ⟨k6,.more hu hx⟩))) hy
    have hDC:k ≠ 6->∀ w,C w->D w:=by
     rintro k6 w ⟨u,v,rfl,hu,hv | ⟨_,x,y,rfl,hx,hy⟩⟩
     ·exact .inr ⟨k6,u,v,rfl,.one hu,hv⟩
     ·exact .inr ⟨k6,u ++ x,y,by rw[List.append_assoc],.more hu hx,hy⟩
    let K0:Nat->List Int->Prop:=fun p w=>if p=N.nx.length then C w else if p=N.nx.length+1 then D w else K p w
    have k0:∀ p,p < N.nx.length->K0 p=K p:=fun p hp=>by
     funext w
     show (if p=N.nx.length then C w else if p=N.nx.length+1 then D w else K p w)=K p w
     rw[if_neg (by omega),if_neg (by omega)]
    have kc:K0 N.nx.length=C:=by
     funext w
     show (if N.nx.length=N.nx.length then C w else _)=C w
     rw[if_pos rfl]
    have kd:K0 (N.nx.length+1)=D:=by
     funext w
     show (if N.nx.length+1=N.nx.length then C w else if N.nx.length+1=N.nx.length+1 then D w else _)=D w
     rw[if_neg (by omega),if_pos rfl]
    obtain⟨K2,e2,s2⟩:=hO.sound K0 (fun p u q v he hv=>by
     rcases hE3.1 he with he | ⟨rfl,rfl,rfl⟩
     ·have hlt:=Ok.lt h he
      rw[k0 p hlt.1]
      rw[k0 q hlt.2] at hv
      exact hK p u q v he hv
     ·rw[k0 _ ha]
      rw[kc] at hv
      exact hCD v hv) (fun u v hu hv=>by
     rw[kc]
     rw[kd] at hv
     exact⟨u,v,rfl,hu,hv⟩)
    have f0:∀ p,p < N.nx.length->K2 p=K p:=fun p hp=>by rw[e2 p (by omega),k0 p hp]
    refine⟨K2,f0,fun p u q v he hv=>?_⟩
    rcases hE9.1 he with he | ⟨rfl,rfl,rfl⟩ | ⟨k6,rfl,rfl,rfl⟩ | ⟨k5,rfl,rfl,rfl⟩
    ·exact s2 p u q v he hv
    ·rw[e2 _ (by omega),kd]
     rw[f0 _ hb] at hv
     exact .inl hv
    ·rw[e2 _ (by omega),kd]
     rw[e2 _ (by omega),kc] at hv
     exact hDC k6 v hv
    ·rw[f0 _ ha]
     rw[f0 _ hb] at hv
     exact hL [] v ((hlang []).2 (.inl ⟨k5,rfl⟩)) hv
   ·rw[liveE,if_neg h0,if_neg h1,if_neg h2,if_neg h3] at hl
    obtain⟨w,_,hw⟩:=x6d ty l hl.1 hl.2
    have dv:Rch N9.E (N.nx.length+1) [] b:=.one hdb
    by_cases hc:p=N.nx.length
    ·subst hc
     exact⟨w ++ [],(once w hw).trans dv⟩
    ·by_cases hd:p=N.nx.length+1
     ·subst hd
      exact⟨[],dv⟩
     ·obtain⟨v,hv⟩:=hO.trim hl.2 p (by omega) (by omega)
      exact⟨v ++ [],(hv.mono sub2).trans dv⟩
   ·rw[by9,hO.none p (by omega)]
    simp only[NetD.free,NetD.place,x3j]
    have:=h.bl
    rw[if_neg (by simp;omega),if_neg (by omega)]
theorem laid_seq (ty:ByteArray->List Int):∀ (l:List Ex) (N:NetD) (a b:Nat),N.Ok->a < N.nx.length->b < N.nx.length->Laid N (x40 ty l a b N) a b (x3t ty l) (x1p ty l)
 | [],N,a,b,h,ha,hb=>by
   rw[x40]
   exact(laid_free h ha hb).imp (fun w=>by rw[x3t]) (fun _=>trivial)
 | x :: r,N,a,b,h,ha,hb=>by
   rw[x40]
   have o1:=NetD.x4f h
   have h1:=laid_E ty x N.place a N.nx.length o1 (by rw[NetD.x1o];omega) (by rw[NetD.x1o];omega)
   have hl1:=h1.le
   rw[NetD.x1o] at hl1
   have h2:=laid_seq ty r (layE ty x a N.nx.length N.place) N.nx.length b h1.ok (by omega) (by omega)
   exact(Laid.over h h1 h2 ha hb (fun hm=>x6e ty r hm)).imp (fun w=>by rw[x3t]) (fun hl=>by rw[x1p] at hl;exact hl)
theorem laid_alt (ty:ByteArray->List Int):∀ (l:List Ex) (N:NetD) (a b:Nat),N.Ok->a < N.nx.length->b < N.nx.length->Laid N (x3z ty l a b N) a b (x4h ty l) (x1p ty l)
 | [],N,a,b,h,ha,hb=>by
   rw[x3z]
   exact⟨h,Nat.le_refl _,fun _ _ _ he=>he,fun u hu=>by rw[x4h] at hu;exact hu.elim,fun K hK _=>⟨K,fun _ _=>rfl,hK⟩,fun _ p h1 h2=>by omega,fun _ _=>rfl⟩
 | x :: r,N,a,b,h,ha,hb=>by
   rw[x3z]
   have h1:=laid_E ty x N a b h ha hb
   have hl1:=h1.le
   have h2:=laid_alt ty r (layE ty x a b N) a b h1.ok (by omega) (by omega)
   exact(Laid.both h1 h2 ha hb).imp (fun w=>by rw[x4h]) (fun hl=>by rw[x1p] at hl;exact hl)
theorem laid_one (ty:ByteArray->List Int):∀ (l:List Ex) (N:NetD) (a b:Nat),N.Ok->a < N.nx.length->b < N.nx.length->Laid N (x3l ty l a b N) a b (x3s ty l) (x1p ty l)
 | [],N,a,b,h,ha,hb=>by
   rw[x3l]
   exact⟨h,Nat.le_refl _,fun _ _ _ he=>he,fun u hu=>by rw[x3s] at hu;exact hu.elim,fun K hK _=>⟨K,fun _ _=>rfl,hK⟩,fun _ p h1 h2=>by omega,fun _ _=>rfl⟩
 | x :: r,N,a,b,h,ha,hb=>by
   rw[x3l]
   exact(laid_E ty x N a b h ha hb).imp (fun w=>by rw[x3s]) (fun hl=>by rw[x1p] at hl;exact hl.1)
end
def net0:NetD:=⟨[[],[]],[[],[]],[-1,-1]⟩
theorem net0_ok:net0.Ok:=by
 refine⟨rfl,rfl,fun p q hq=>?_,fun p hp=>?_⟩
 ·have:net0.tos.getD p []=[]:=by
   match p with
   | 0=>rfl
   | 1=>rfl
   | p+2=>rfl
  rw[this] at hq
  cases hq
 ·have:net0.bys.getD p []=[]:=by
   match p with
   | 0=>rfl
   | 1=>rfl
   | p+2=>rfl
  exact absurd this hp
theorem net0_E {p:Nat} {u:List Int} {q:Nat}:¬ net0.E p u q:=fun h=>by
 have h1:net0.tos.getD p []=[]:=by
  match p with
  | 0=>rfl
  | 1=>rfl
  | p+2=>rfl
 have h2:net0.bys.getD p []=[]:=by
  match p with
  | 0=>rfl
  | 1=>rfl
  | p+2=>rfl
 rcases h with ⟨_,h⟩ | ⟨t,_,h,_⟩
 ·rw[h1] at h;cases h
 ·rw[h2] at h;cases h
/-- The net of a tree. -/
def netOf (ty:ByteArray->List Int) (e:Ex):NetD:=layE ty e 0 1 net0
theorem net_laid (ty:ByteArray->List Int) (e:Ex):Laid net0 (netOf ty e) 0 1 (langE ty e) (liveE ty e):=laid_E ty e net0 0 1 net0_ok (by decide) (by decide)
/-- A word is one of the tree's just if it leads to the end. -/
theorem net_word (ty:ByteArray->List Int) (e:Ex) (w:List Int):Rch (netOf ty e).E 0 w 1 ↔ langE ty e w:=by
 have h:=net_laid ty e
 constructor
 ·intro hw
  obtain⟨K',e1,s1⟩:=h.sound (fun p w=>if p=0 then langE ty e w else w=[]) (fun p u q v he _=>absurd he net0_E) (fun u v hu hv=>by
   simp only[if_true]
   simp only[if_neg (show ¬ (1=0) by decide)] at hv
   rw[hv,List.append_nil]
   exact hu)
  have key:∀ p u q,Rch (netOf ty e).E p u q->∀ v,K' q v->K' p (u ++ v):=by
   intro p u q hr
   induction hr with
   | nil p=>intro v hv;exact hv
   | cons he _ ih=>intro v hv;rw[List.append_assoc];exact s1 _ _ _ _ he (ih v hv)
  have:=key 0 w 1 hw [] (by rw[e1 1 (by decide)];simp)
  rw[e1 0 (by decide),List.append_nil] at this
  simpa using this
 ·exact h.word w
theorem Rch.split {N:NetD} {p q:Nat} {w:List Int} (h:Rch N.E p w q):∀ u v,w=u ++ v->∃ r,Rch N.E p u r/\Rch N.E r v q:=by
 induction h with
 | nil p=>
   intro u v h
   obtain⟨rfl,rfl⟩:=List.append_eq_nil_iff.1 h.symm
   exact⟨p,.nil p,.nil p⟩
 | @cons p r q x y he hr ih=>
   intro u v h
   have hx:x=[]\/∃ t,x=[t]:=by
    rcases he with ⟨h,_⟩ | ⟨t,h,_⟩
    ·exact .inl h
    ·exact .inr ⟨t,h⟩
   rcases hx with rfl | ⟨t,rfl⟩
   ·obtain⟨s,h1,h2⟩:=ih u v (by simpa using h)
    exact⟨s,.cons (u:=[]) he h1,h2⟩
   ·cases u with
    | nil=>
      refine⟨p,.nil p,?_⟩
      have h':v=[t] ++ y:=by simpa using h.symm
      rw[h']
      exact .cons he hr
    | cons t' u'=>
      simp only[List.cons_append,List.nil_append,List.cons.injEq] at h
      obtain⟨rfl,h⟩:=h
      obtain⟨s,h1,h2⟩:=ih u' v h
      exact⟨s,.cons (u:=[t]) he h1,h2⟩
/-- A word leads anywhere just if it begins one. -/
theorem net_live (ty:ByteArray->List Int) (e:Ex) (hl:liveE ty e) (w:List Int):(∃ j,Rch (netOf ty e).E 0 w j) ↔ ∃ v,langE ty e (w ++ v):=by
 have h:=net_laid ty e
 constructor
 ·rintro ⟨j,hj⟩
  have:∃ v,Rch (netOf ty e).E j v 1:=by
   by_cases h0:j=0
   ·subst h0
    obtain⟨v,hv⟩:=lang_some ty e hl
    exact⟨v,h.word v hv⟩
   ·by_cases h1:j=1
    ·subst h1
     exact⟨[],.nil 1⟩
    ·refine h.trim hl j (show 2<=j by omega) ?_
     have lt:∀ p u q,Rch (netOf ty e).E p u q->p=q\/q < (netOf ty e).nx.length:=by
      intro p u q hr
      induction hr with
      | nil p=>exact .inl rfl
      | cons he _ ih=>
        have:=Ok.lt h.ok he
        rcases ih with rfl | ih
        ·exact .inr this.2
        ·exact .inr ih
     rcases lt _ _ _ hj with h3 | h3
     ·exact absurd h3.symm h0
     ·exact h3
  obtain⟨v,hv⟩:=this
  exact⟨v,(net_word ty e _).1 (hj.trans hv)⟩
 ·rintro ⟨v,hv⟩
  obtain⟨r,h1,_⟩:=((net_word ty e _).2 hv).split w v rfl
  exact⟨r,h1⟩
theorem cnts_len (l:List Ex):l.length<=Ex.cnts l:=by
 induction l with
 | nil=>simp
 | cons x r ih=>have:=x.x3r;simp only[Ex.cnts,List.length_cons];omega
theorem count_all (N:Nat):∀ (e:Ex),e.cnt<=N->N<=1048576 * 4->∀ (F:Nat->Prop) (A:Option Addr) (c:Nat) (w:World),exR.row w F A e.l ->
 Calls Tryz.prog 196 #[e.val A c] w fun r w'=>r=.returned (.int .i64 e.cnt)/\Pure w w':=by
 induction N with
 | zero=>intro e he;have:=e.x3r;omega
 | succ N ih=>
   intro e he hN F A c w hr
   obtain⟨k0,nm,l⟩:=e
   have HI:=mK (fun (x:Ex) (hx:x.cnt<=N)=>ih x hx (by omega))
   have HR:=mK hr
   have hc0:Ex.cnts l<=N:=by simp only[Ex.cnt] at he;omega
   have hll:=cnts_len l
   clear hr he ih
   go_enter Tryz.func196,Tryz.ntmps196
   go_wp2
   go_loopg [3,4] l.length (fun g n i wr=>∃ k:Nat,k+g=l.length/\i=.int .i64 k/\n=.int .i64 ((1+Ex.cnts (l.take k):Nat):Int)/\As (BoxE w.heap.size k0 nm l.length A c wr)/\As (Pure w wr))
   case atStart=>exact⟨0,by omega,rfl,rfl,⟨BoxE.new _ _ _ _ _ _ _⟩,⟨rU.alloc _⟩⟩
   case round=>
    obtain⟨k,hk,rfl,rfl,HB,HP⟩:=hrel
    obtain⟨q0,q1,q2,q3⟩:=HB.o
    by_cases hlt:k < l.length
    ·obtain⟨x,hx⟩:=gS hlt
     obtain⟨b,o,A1,c1,rfl,hF,hbl,c0,c1',c2,hle1,hrow1⟩:=ex_at (Rp.x01 HR.o HP.o) hx
     obtain⟨g1,rfl⟩:=sC1 (by omega:0 < gk)
     have hx1:x.cnt<=N:=Nat.le_trans (Ex.x52 (List.mem_of_getElem? hx)) hc0
     have hct:=Ex.cnts_take l k
     have hct2:=Ex.cnts_take l (k+1)
     have H1:=mK (Ex.cnts_succ hx)
     rw[H1.o] at hct2
     have hw1:IntKind.i64.wrap (((1+Ex.cnts (l.take k):Nat):Int)+(x.cnt:Int))=((1+Ex.cnts (l.take k):Nat):Int)+(x.cnt:Int):=IntWalk.i64_in _ (by omega)
     have HR1:=mK hrow1
     have HK:=mK hk
     have HBB:=HB
     clear hrow1 hk hx
     go_wp2_with (go_at_call 196;refine(HI.o x hx1 _ _ c1 _ HR1.o).mono ?_;rintro e w1 ⟨rfl,hu⟩;have HU:=mK hu;clear hu)
     go_roundg g1
     case measure=>omega
     case rel=>exact⟨k+1,by have:=HK.o;omega,by go_num,by rw[H1.o];go_num,⟨HBB.o.pure HU.o⟩,⟨HP.o.tt HU.o⟩⟩
    ·have hkl:k=l.length:=by omega
     subst hkl
     rw[List.take_length]
     go_wp2
     go_ret
     exact⟨rfl,HP.o⟩
theorem deep_all (N:Nat):∀ (e:Ex),e.cnt<=N->N<=1048576 * 4->∀ (F:Nat->Prop) (A:Option Addr) (c:Nat) (w:World),exR.row w F A e.l ->
 Calls Tryz.prog 197 #[e.val A c] w fun r w'=>r=.returned (.int .i64 e.dep)/\Pure w w':=by
 induction N with
 | zero=>intro e he;have:=e.x3r;omega
 | succ N ih=>
   intro e he hN F A c w hr
   obtain⟨k0,nm,l⟩:=e
   have HI:=mK (fun (x:Ex) (hx:x.cnt<=N)=>ih x hx (by omega))
   have HR:=mK hr
   have hc0:Ex.cnts l<=N:=by simp only[Ex.cnt] at he;omega
   have hd0:Ex.deps l<=Ex.cnts l:=Ex.x4g l
   have hll:=cnts_len l
   clear hr he ih
   go_enter Tryz.func197,Tryz.ntmps197
   go_wp2
   go_loopg [3,4] l.length (fun g d i wr=>∃ k:Nat,k+g=l.length/\i=.int .i64 k/\d=.int .i64 ((Ex.deps (l.take k):Nat):Int)/\As (BoxE w.heap.size k0 nm l.length A c wr)/\As (Pure w wr))
   case atStart=>exact⟨0,by omega,rfl,rfl,⟨BoxE.new _ _ _ _ _ _ _⟩,⟨rU.alloc _⟩⟩
   case round=>
    obtain⟨k,hk,rfl,rfl,HB,HP⟩:=hrel
    obtain⟨q0,q1,q2,q3⟩:=HB.o
    by_cases hlt:k < l.length
    ·obtain⟨x,hx⟩:=gS hlt
     obtain⟨b,o,A1,c1,rfl,hF,hbl,c0,c1',c2,hle1,hrow1⟩:=ex_at (Rp.x01 HR.o HP.o) hx
     obtain⟨g1,rfl⟩:=sC1 (by omega:0 < gk)
     have hx1:x.cnt<=N:=Nat.le_trans (Ex.x52 (List.mem_of_getElem? hx)) hc0
     have hct:=Ex.cnts_take l k
     have hdt:=Ex.x4g (l.take k)
     have hxd:=Ex.x5w x
     have H2:=mK (Ex.deps_succ hx)
     have HR1:=mK hrow1
     have HK:=mK hk
     have HBB:=HB
     clear hrow1 hk hx
     go_wp2_with (go_at_call 197;refine(HI.o x hx1 _ _ c1 _ HR1.o).mono ?_;rintro e w1 ⟨rfl,hu⟩;have HU:=mK hu;clear hu)
     all_goals
      go_roundg g1
      case measure=>omega
      case rel=>exact⟨k+1,by have:=HK.o;omega,by go_num,by rw[H2.o];congr 1;omega,⟨HBB.o.pure HU.o⟩,⟨HP.o.tt HU.o⟩⟩
    ·have hkl:k=l.length:=by omega
     subst hkl
     rw[List.take_length]
     have hw1:IntKind.i64.wrap (((Ex.deps l:Nat):Int)+1)=((Ex.deps l:Nat):Int)+1:=IntWalk.i64_in _ (by omega)
     go_wp2
     go_ret
     refine⟨x3u ?_,HP.o⟩
     simp only[Ex.dep,Int.natCast_add,Int.add_comm]
     rfl
theorem x6c (s:ByteArray) (w:World) (hs:s.size<=1048576 * 4):Calls Tryz.prog 163 #[.string s] w fun r w'=>r=.returned (.bool (nameB s))/\Pure w w':=by
 have hfits:s.data.size=s.size:=rfl
 go_enter Tryz.func163,Tryz.ntmps163
 go_wp2
 go_loopg [3] s.size (fun g i wr=>∃ k:Nat,k+g=s.size/\i=.int .i64 k/\As ((s.data.toList.take k).all lettB=true)/\As (wr=w))
 case atStart=>exact⟨0,by omega,rfl,⟨by simp⟩,⟨rfl⟩⟩
 case round=>
  obtain⟨k,hk,rfl,HA,HW⟩:=hrel
  obtain rfl:=HW.o
  by_cases hlt:k < s.size
  ·obtain⟨g1,rfl⟩:=sC1 (by omega:0 < gk)
   have hlt':k < s.data.size:=hlt
   have hx:s.data.toList[k]?=some s.data[k]:=by simp[hlt']
   have HT:As ((s.data.toList.take (k+1)).all lettB=((s.data.toList.take k).all lettB && lettB s.data[k])):=⟨by rw[List.take_add_one,hx,List.all_append];simp⟩
   rw[HA.o] at HT
   have HN:As (lettB s.data[k]=false->nameB s=false):=⟨fun h=>by
    have:s.data.toList.all lettB=false:=by
     rw[List.all_eq_false]
     exact⟨_,List.mem_of_getElem? hx,by simp[h]⟩
    simp[nameB,this]⟩
   have hget:s.data[k]?=some s.data[k]:=by simp[hlt']
   have hget2:s.toList[k]?=some s.data[k]:=by rw[ByteArray.toList_eq];exact hx
   generalize hc:s.data[k]=c at *
   have hsk:s[k]'hlt=c:=hc
   have HK:=mK hk
   have h256:=c.toNat_lt
   clear hk hx hc hget hget2
   by_cases h1:c.toNat < 97
   ·have hn:=mK (HN.o (by simp[lettB];omega))
    have e1:((c.toNat:Int) < 97):=by omega
    go_wp2
    go_ret
    exact⟨x0h hn.o.symm,Upd.refl _ _⟩
   ·by_cases h2:122 < c.toNat
    ·have hn:=mK (HN.o (by simp[lettB];omega))
     have e1:¬ ((c.toNat:Int) < 97):=by omega
     have e2:((c.toNat:Int) > 122):=by omega
     go_wp2
     go_ret
     exact⟨x0h hn.o.symm,Upd.refl _ _⟩
    ·have HC:As (lettB c=true):=⟨by simp[lettB];omega⟩
     have e1:¬ ((c.toNat:Int) < 97):=by omega
     have e2:¬ ((c.toNat:Int) > 122):=by omega
     go_wp2
     go_roundg g1
     case measure=>omega
     case rel=>exact⟨k+1,by have:=HK.o;omega,by go_num,⟨by rw[HT.o,HC.o];rfl⟩,⟨rfl⟩⟩
  ·have hkl:k=s.size:=by omega
   have HA':As (s.data.toList.all lettB=true):=⟨by have:=HA.o;rwa [List.take_of_length_le (by simp;omega)] at this⟩
   subst hkl
   clear HA
   go_wp2
   go_ret
   refine⟨x0h ?_,Upd.refl _ _⟩
   rw[nameB,HA'.o,Bool.true_and,x1h]
   by_cases h:s.size=0 <;> simp[h]
mutual
/-- A tree is right, as the reference says it. -/
def Ex.okR:Ex->Bool
 | .mk k nm l=>Ex.oksR l && (if k=0 then decide (nm.size=0) && decide (l.length=0) else if k=1 then nameB nm && decide (l.length=0)
    else if k=4\/k=5\/k=6 then decide (nm.size=0) && decide (l.length=1)
    else if k=2\/k=3 then l.all (fun x=>decide (x.k ≠ k)) && (decide (nm.size=0) && decide (2<=l.length)) else false)
def Ex.oksR:List Ex->Bool
 | []=>true
 | x :: r=>(decide (x.k ≠ 0) && Ex.okR x) && Ex.oksR r
end
theorem Ex.oksR_all (l:List Ex):Ex.oksR l=l.all (fun x=>decide (x.k ≠ 0) && Ex.okR x):=by
 induction l with
 | nil=>rfl
 | cons x r ih=>simp[Ex.oksR,ih]
def Ex.oksL (i:Int) (l:List Ex):Bool:=if i=2\/i=3 then Ex.oksR l && l.all (fun x=>decide (x.k ≠ i)) else Ex.oksR l
mutual
theorem Ex.okR_okB:∀ (e:Ex) (i:Int),0<=i->Ex.okB i e=(Ex.okR e && (decide (i=0) || decide (e.k ≠ 0)) && !(decide (e.k=2\/e.k=3) && decide (i=e.k)))
 | .mk k nm l,i,hi=>by
   have hl:=Ex.oksR_oksB l k
   show Ex.okB i (.mk k nm l)=(Ex.okR (.mk k nm l) && (decide (i=0) || decide (k ≠ 0)) && !(decide (k=2\/k=3) && decide (i=k)))
   have hnil:l.length=0->l=[]:=List.eq_nil_of_length_eq_zero
   by_cases h1:k=1
   ·have e1:Ex.okB i (.mk k nm l)=(nameB nm && decide (l.length=0)):=by rw[Ex.okB,if_pos h1]
    have e2:Ex.okR (.mk k nm l)=(Ex.oksR l && (nameB nm && decide (l.length=0))):=by rw[Ex.okR,if_neg (by omega),if_pos h1]
    rw[e1,e2]
    by_cases hz:l.length=0
    ·rw[hnil hz,Ex.oksR]
     simp[h1]
    ·simp[hz]
   ·by_cases h0:k=0
    ·have e2:Ex.okR (.mk k nm l)=(Ex.oksR l && (decide (nm.size=0) && decide (l.length=0))):=by rw[Ex.okR,if_pos h0]
     rw[e2]
     by_cases hi0:i=0
     ·have e1:Ex.okB i (.mk k nm l)=(Ex.oksB k l && decide (nm.size=0) && decide (x23 k<=l.length) && decide (l.length<=mostE k l.length)):=by rw[Ex.okB,if_neg h1,if_neg (by omega)]
      have e3:x23 k=0:=by unfold x23;rw[if_pos h0]
      have e4:mostE k l.length=0:=by unfold mostE;rw[if_pos h0]
      rw[e1,e3,e4]
      by_cases hz:l.length=0
      ·rw[hnil hz,Ex.oksR,Ex.oksB]
       simp[hi0,h0]
      ·have:¬ l.length<=0:=by omega
       simp[hz,this]
     ·have e1:Ex.okB i (.mk k nm l)=false:=by rw[Ex.okB,if_neg h1,if_pos (by omega)]
      rw[e1]
      simp[hi0,h0]
    ·by_cases h23:k=2\/k=3
     ·have e2:Ex.okR (.mk k nm l)=(Ex.oksR l && (l.all (fun x=>decide (x.k ≠ k)) && (decide (nm.size=0) && decide (2<=l.length)))):=by rw[Ex.okR,if_neg h0,if_neg h1,if_neg (by omega),if_pos h23]
      rw[e2]
      by_cases hik:i=k
      ·have e1:Ex.okB i (.mk k nm l)=false:=by rw[Ex.okB,if_neg h1,if_pos (by omega)]
       rw[e1]
       simp[h23,hik]
      ·have e1:Ex.okB i (.mk k nm l)=(Ex.oksB k l && decide (nm.size=0) && decide (x23 k<=l.length) && decide (l.length<=mostE k l.length)):=by rw[Ex.okB,if_neg h1,if_neg (by omega)]
       have e3:x23 k=2:=by unfold x23;rw[if_neg h0,if_pos h23]
       have e4:mostE k l.length=l.length:=by unfold mostE;rw[if_neg h0,if_pos h23]
       have e5:Ex.oksL k l=(Ex.oksR l && l.all (fun x=>decide (x.k ≠ k))):=by unfold Ex.oksL;rw[if_pos h23]
       have e6:decide (l.length<=l.length)=true:=by simp
       have e7:decide (i=k)=false:=by simp[hik]
       have e8:decide (k ≠ 0)=true:=by simp[h0]
       rw[e1,e3,e4,hl (by omega),e5,e6,e7,e8,Bool.and_false,Bool.or_true,Bool.not_false,Bool.and_true,Bool.and_true,Bool.and_true,Bool.and_assoc,Bool.and_assoc]
     ·by_cases h4:k=4\/k=5\/k=6
      ·have e2:Ex.okR (.mk k nm l)=(Ex.oksR l && (decide (nm.size=0) && decide (l.length=1))):=by rw[Ex.okR,if_neg h0,if_neg h1,if_pos h4]
       have e1:Ex.okB i (.mk k nm l)=(Ex.oksB k l && decide (nm.size=0) && decide (x23 k<=l.length) && decide (l.length<=mostE k l.length)):=by rw[Ex.okB,if_neg h1,if_neg (by omega)]
       have e3:x23 k=1:=by unfold x23;rw[if_neg h0,if_neg h23]
       have e4:mostE k l.length=1:=by unfold mostE;rw[if_neg h0,if_neg h23]
       have e5:Ex.oksL k l=Ex.oksR l:=by unfold Ex.oksL;rw[if_neg h23]
       have e6:(decide (1<=l.length) && decide (l.length<=1))=decide (l.length=1):=by
        rw[Bool.eq_iff_iff];simp;omega
       have e7:decide (k=2\/k=3)=false:=by simp[h23]
       have e8:decide (k ≠ 0)=true:=by simp[h0]
       rw[e1,e2,e3,e4,hl (by omega),e5,e7,e8,Bool.false_and,Bool.or_true,Bool.not_false,Bool.and_true,Bool.and_true,Bool.and_assoc,Bool.and_assoc,e6]
      ·have e1:Ex.okB i (.mk k nm l)=false:=by rw[Ex.okB,if_neg h1,if_pos (by omega)]
       have e2:Ex.okR (.mk k nm l)=(Ex.oksR l && false):=by rw[Ex.okR,if_neg h0,if_neg h1,if_neg h4,if_neg h23]
       rw[e1,e2]
       simp
theorem Ex.oksR_oksB:∀ (l:List Ex) (i:Int),0 < i->Ex.oksB i l=Ex.oksL i l
 | [],i,hi=>by rw[Ex.oksB];unfold Ex.oksL;rw[Ex.oksR];split <;> rfl
 | x :: r,i,hi=>by
   rw[Ex.oksB,Ex.okR_okB x i (by omega),Ex.oksR_oksB r i hi]
   unfold Ex.oksL
   have h0:decide (i=0)=false:=by simp;omega
   rw[h0,Bool.false_or,Ex.oksR]
   by_cases h23:i=2\/i=3
   ·rw[if_pos h23,if_pos h23,List.all_cons]
    have e:(!(decide (x.k=2\/x.k=3) && decide (i=x.k)))=decide (x.k ≠ i):=by
     rw[Bool.eq_iff_iff];simp;omega
    rw[e]
    cases Ex.okR x <;> cases decide (x.k ≠ 0) <;> cases decide (x.k ≠ i) <;> cases Ex.oksR r <;> rfl
   ·rw[if_neg h23,if_neg h23]
    have e:(!(decide (x.k=2\/x.k=3) && decide (i=x.k)))=true:=by
     simp;omega
    rw[e]
    cases Ex.okR x <;> cases decide (x.k ≠ 0) <;> cases Ex.oksR r <;> rfl
end
theorem one_up5 {V:World} {X:Obj} (h:Pure (w.alloc X) V):V.heap[w.heap.size]?=some X/\Pure w V:=
 ⟨(h.block w.heap.size (by simp) (fun h=>h)).trans (heap_alloc_new w X),aU.tt h⟩
theorem lt5 {k:Nat} {o:Obj} (h:w.heap[k]?=some o):k < w.heap.size:=lB h
theorem cells3r5 {b:Nat} {x0 x1 x2:Value} {t:TypeId} (h:w.heap[b]?=some (.cells #[x0,x1,x2] t (0,0))) :
 (w.cell? ⟨b,0,none⟩=some x0/\w.cell? ⟨b,1,none⟩=some x1/\w.cell? ⟨b,2,none⟩=some x2)/\b < w.heap.size:=
 ⟨⟨by unfold World.cell?;simp only[h];rfl,by unfold World.cell?;simp only[h];rfl,by unfold World.cell?;simp only[h];rfl⟩,lt5 h⟩
theorem Ex.oksR_take {l:List Ex} {k:Nat} {x:Ex} (hx:l[k]?=some x):Ex.oksR (l.take (k+1))=(Ex.oksR (l.take k) && (decide (x.k ≠ 0) && Ex.okR x)):=by
 rw[List.take_add_one,hx,Ex.oksR_all,Ex.oksR_all,List.all_append]
 simp
theorem Ex.oksR_mem {l:List Ex} {x:Ex} (hx:x ∈ l) (h:(decide (x.k ≠ 0) && Ex.okR x)=false):Ex.oksR l=false:=by
 rw[Ex.oksR_all,List.all_eq_false]
 exact⟨x,hx,by rw[h];simp⟩
theorem right5_all (N:Nat):∀ (e:Ex),e.wt<=N->N<=1048576 * 4->∀ (F:Nat->Prop) (A:Option Addr) (c:Nat) (w:World),exR.row w F A e.l ->
 Calls Tryz.prog 198 #[e.val A c] w fun r w'=>r=.returned (.bool e.okR)/\Pure w w':=by
 induction N with
 | zero=>intro e he;have:=e.wt_pos;omega
 | succ N ih=>
   intro e he hN F A c w hr
   obtain⟨k0,nm,l⟩:=e
   have HI:=mK (fun (x:Ex) (hx:x.wt<=N)=>ih x hx (by omega))
   have HR:=mK hr
   have hc0:Ex.wts l<=N:=by simp only[Ex.wt] at he;omega
   have hs0:nm.size<=1048576 * 4:=by simp only[Ex.wt] at he;omega
   have hll:=Ex.wts_len l
   clear hr he ih
   go_enter Tryz.func198,Tryz.ntmps198
   go_wp2
   go_loopg [3] l.length (fun g i wr=>∃ k:Nat,k+g=l.length/\i=.int .i64 k/\As (Ex.oksR (l.take k)=true)/\As (BoxE w.heap.size k0 nm l.length A c wr)/\As (Pure w wr))
   case atStart=>exact⟨0,by omega,rfl,⟨by simp[Ex.oksR]⟩,⟨BoxE.new _ _ _ _ _ _ _⟩,⟨rU.alloc _⟩⟩
   case round=>
    obtain⟨k,hk,rfl,HA,HB,HP⟩:=hrel
    obtain⟨q0,q1,q2,q3⟩:=HB.o
    by_cases hlt:k < l.length
    ·obtain⟨x,hx⟩:=gS hlt
     obtain⟨b,o,A1,c1,rfl,hF,hbl,c0,c1',c2,hle1,hrow1⟩:=ex_at (Rp.x01 HR.o HP.o) hx
     obtain⟨g1,rfl⟩:=sC1 (by omega:0 < gk)
     have hx1:x.wt<=N:=Nat.le_trans (Ex.wt_mem (List.mem_of_getElem? hx)) hc0
     have HT:=mK (Ex.oksR_take hx)
     rw[HA.o,Bool.true_and] at HT
     have HM:=mK (fun (h:(decide (x.k ≠ 0) && Ex.okR x)=false)=>(by rw[Ex.okR,Ex.oksR_mem (List.mem_of_getElem? hx) h,Bool.false_and]:Ex.okR (.mk k0 nm l)=false))
     have HR1:=mK hrow1
     have HK:=mK hk
     have HBB:=HB
     clear hrow1 hk hx
     by_cases hx0:x.k=0
     ·have HV:=mK (HM.o (by simp[hx0]))
      rw[hx0] at c0
      clear hx0
      go_wp2
      go_ret
      exact⟨x0h HV.o.symm,HP.o⟩
     ·have e0:(x.k == 0)=false:=by simpa using hx0
      cases hq:Ex.okR x
      ·have HV:=mK (HM.o (by rw[hq];simp))
       clear hx0
       go_wp2_with (go_at_call 198;refine(HI.o x hx1 _ _ c1 _ HR1.o).mono ?_;rintro e w1 ⟨rfl,hu⟩;rw[hq];have HU:=mK hu;clear hu)
       go_ret
       exact⟨x0h HV.o.symm,HP.o.tt HU.o⟩
      ·have HX0:=mK hx0
       clear hx0
       go_wp2_with (go_at_call 198;refine(HI.o x hx1 _ _ c1 _ HR1.o).mono ?_;rintro e w1 ⟨rfl,hu⟩;rw[hq];have HU:=mK hu;clear hu)
       go_roundg g1
       case measure=>omega
       case rel=>exact⟨k+1,by have:=HK.o;omega,by go_num,⟨by rw[HT.o,hq];simp[HX0.o]⟩,⟨HBB.o.pure HU.o⟩,⟨HP.o.tt HU.o⟩⟩
    ·have hkl:k=l.length:=by omega
     subst hkl
     rw[List.take_length] at HA
     by_cases hk01:k0=0\/k0=4\/k0=5\/k0=6
     ·rcases hk01 with hk0 | hk4 | hk5 | hk6
      ·subst hk0
       have HV:=mK (show Ex.okR (.mk 0 nm l)=(decide (nm.size=0) && decide (l.length=0)) by rw[Ex.okR,HA.o];rfl)
       cases hn:decide (nm.size=0)
       ·have f1:nm.toList.isEmpty=false:=by rw[x1h,hn]
        rw[hn,Bool.false_and] at HV
        clear hn
        go_wp2
        go_ret
        exact⟨x0h HV.o.symm,HP.o⟩
       ·have f1:nm.toList.isEmpty=true:=by rw[x1h,hn]
        rw[hn,Bool.true_and] at HV
        clear hn
        go_wp2
        go_ret
        exact⟨x0h (by rw[HV.o,Bool.eq_iff_iff];simp <;> omega),HP.o⟩
      ·subst hk4
       have HV:=mK (show Ex.okR (.mk 4 nm l)=(decide (nm.size=0) && decide (l.length=1)) by rw[Ex.okR,HA.o];rfl)
       cases hn:decide (nm.size=0)
       ·have f1:nm.toList.isEmpty=false:=by rw[x1h,hn]
        rw[hn,Bool.false_and] at HV
        clear hn
        go_wp2
        go_ret
        exact⟨x0h HV.o.symm,HP.o⟩
       ·have f1:nm.toList.isEmpty=true:=by rw[x1h,hn]
        rw[hn,Bool.true_and] at HV
        clear hn
        go_wp2
        go_ret
        exact⟨x0h (by rw[HV.o,Bool.eq_iff_iff];simp <;> omega),HP.o⟩
      ·subst hk5
       have HV:=mK (show Ex.okR (.mk 5 nm l)=(decide (nm.size=0) && decide (l.length=1)) by rw[Ex.okR,HA.o];rfl)
       cases hn:decide (nm.size=0)
       ·have f1:nm.toList.isEmpty=false:=by rw[x1h,hn]
        rw[hn,Bool.false_and] at HV
        clear hn
        go_wp2
        go_ret
        exact⟨x0h HV.o.symm,HP.o⟩
       ·have f1:nm.toList.isEmpty=true:=by rw[x1h,hn]
        rw[hn,Bool.true_and] at HV
        clear hn
        go_wp2
        go_ret
        exact⟨x0h (by rw[HV.o,Bool.eq_iff_iff];simp <;> omega),HP.o⟩
      ·subst hk6
       have HV:=mK (show Ex.okR (.mk 6 nm l)=(decide (nm.size=0) && decide (l.length=1)) by rw[Ex.okR,HA.o];rfl)
       cases hn:decide (nm.size=0)
       ·have f1:nm.toList.isEmpty=false:=by rw[x1h,hn]
        rw[hn,Bool.false_and] at HV
        clear hn
        go_wp2
        go_ret
        exact⟨x0h HV.o.symm,HP.o⟩
       ·have f1:nm.toList.isEmpty=true:=by rw[x1h,hn]
        rw[hn,Bool.true_and] at HV
        clear hn
        go_wp2
        go_ret
        exact⟨x0h (by rw[HV.o,Bool.eq_iff_iff];simp <;> omega),HP.o⟩
     ·by_cases hk1:k0=1
      ·subst hk1
       have HV:=mK (show Ex.okR (.mk 1 nm l)=(nameB nm && decide (l.length=0)) by rw[Ex.okR,HA.o];rfl)
       cases hq:nameB nm
       ·rw[hq,Bool.false_and] at HV
        go_wp2_with (go_at_call 163;refine(x6c nm _ hs0).mono ?_;rintro e w1 ⟨rfl,hu⟩;rw[hq];have HU:=mK (HP.o.tt hu);clear hu)
        go_ret
        exact⟨x0h HV.o.symm,HU.o⟩
       ·rw[hq,Bool.true_and] at HV
        have HBB:=HB
        go_wp2_with (go_at_call 163;refine(x6c nm _ hs0).mono ?_;rintro e w1 ⟨rfl,hu⟩;rw[hq];obtain⟨z0,z1,z2,z3⟩:=HBB.o.pure hu;have HU:=mK (HP.o.tt hu);clear hu)
        go_ret
        exact⟨x0h (by rw[HV.o,Bool.eq_iff_iff];simp <;> omega),HU.o⟩
      ·by_cases hk23:k0=2\/k0=3
       ·rcases hk23 with hk2 | hk3
        ·subst hk2
         have HV:=mK (show Ex.okR (.mk 2 nm l)=(l.all (fun x=>decide (x.k ≠ 2)) && (decide (nm.size=0) && decide (2<=l.length))) by rw[Ex.okR,HA.o];rfl)
         go_wp2
         go_loopg [4] l.length (fun g i wr=>∃ k:Nat,k+g=l.length/\i=.int .i64 k/\As ((l.take k).all (fun x=>decide (x.k ≠ 2))=true)/\As (BoxE w.heap.size 2 nm l.length A c wr)/\As (Pure w wr))
         case atStart=>exact⟨0,by omega,rfl,⟨by simp⟩,HB,HP⟩
         case round=>
          obtain⟨k,hk,rfl,HA2,HB2,HP2⟩:=hrel
          obtain⟨z0,z1,z2,z3⟩:=HB2.o
          by_cases hlt2:k < l.length
          ·obtain⟨x,hx⟩:=gS hlt2
           obtain⟨b,o,A1,c1,rfl,hF,hbl,c0,c1',c2,hle1,hrow1⟩:=ex_at (Rp.x01 HR.o HP2.o) hx
           have HT:=mK (show (l.take (k+1)).all (fun x=>decide (x.k ≠ 2))=((l.take k).all (fun x=>decide (x.k ≠ 2)) && decide (x.k ≠ 2)) by rw[List.take_add_one,hx,List.all_append];simp)
           have HM:=mK (fun (h:x.k=2)=>(show l.all (fun x=>decide (x.k ≠ 2))=false by rw[List.all_eq_false];exact⟨x,List.mem_of_getElem? hx,by simp[h]⟩))
           have HKK:=mK hk
           clear hx hk hrow1
           by_cases hxk:x.k=2
           ·have hfa:=HM.o hxk
            rw[hfa,Bool.false_and] at HV
            rw[hxk] at c0
            clear hxk hfa
            go_wp2
            go_quiet (fail)
            go_wp2
            go_ret
            exact⟨x0h HV.o.symm,HP2.o.drewN _⟩
           ·have e9:(x.k == 2)=false:=by simpa using hxk
            have HXK:=mK hxk
            obtain⟨g2,rfl⟩:∃ m,gk=m+1:=⟨gk - 1,by have:=HKK.o;omega⟩
            clear hxk
            go_wp2
            go_quiet (fail)
            go_wp2
            go_roundg g2
            case measure=>omega
            case rel=>exact⟨k+1,by have:=HKK.o;omega,by go_num,⟨by rw[HT.o,HA2.o];simp[HXK.o]⟩,⟨(show BoxE _ _ _ _ _ _ _ from HB2.o.pure (rU.drewN _))⟩,⟨HP2.o.drewN _⟩⟩
          ·have hkl2:k=l.length:=by omega
           subst hkl2
           rw[List.take_length] at HA2
           rw[HA2.o,Bool.true_and] at HV
           cases hn:decide (nm.size=0)
           ·have f1:nm.toList.isEmpty=false:=by rw[x1h,hn]
            rw[hn,Bool.false_and] at HV
            clear hn
            go_wp2
            go_ret
            exact⟨x0h HV.o.symm,HP2.o⟩
           ·have f1:nm.toList.isEmpty=true:=by rw[x1h,hn]
            rw[hn,Bool.true_and] at HV
            clear hn
            go_wp2
            go_ret
            exact⟨x0h (by rw[HV.o,Bool.eq_iff_iff];simp <;> omega),HP2.o⟩
        ·subst hk3
         have HV:=mK (show Ex.okR (.mk 3 nm l)=(l.all (fun x=>decide (x.k ≠ 3)) && (decide (nm.size=0) && decide (2<=l.length))) by rw[Ex.okR,HA.o];rfl)
         go_wp2
         go_loopg [4] l.length (fun g i wr=>∃ k:Nat,k+g=l.length/\i=.int .i64 k/\As ((l.take k).all (fun x=>decide (x.k ≠ 3))=true)/\As (BoxE w.heap.size 3 nm l.length A c wr)/\As (Pure w wr))
         case atStart=>exact⟨0,by omega,rfl,⟨by simp⟩,HB,HP⟩
         case round=>
          obtain⟨k,hk,rfl,HA2,HB2,HP2⟩:=hrel
          obtain⟨z0,z1,z2,z3⟩:=HB2.o
          by_cases hlt2:k < l.length
          ·obtain⟨x,hx⟩:=gS hlt2
           obtain⟨b,o,A1,c1,rfl,hF,hbl,c0,c1',c2,hle1,hrow1⟩:=ex_at (Rp.x01 HR.o HP2.o) hx
           have HT:=mK (show (l.take (k+1)).all (fun x=>decide (x.k ≠ 3))=((l.take k).all (fun x=>decide (x.k ≠ 3)) && decide (x.k ≠ 3)) by rw[List.take_add_one,hx,List.all_append];simp)
           have HM:=mK (fun (h:x.k=3)=>(show l.all (fun x=>decide (x.k ≠ 3))=false by rw[List.all_eq_false];exact⟨x,List.mem_of_getElem? hx,by simp[h]⟩))
           have HKK:=mK hk
           clear hx hk hrow1
           by_cases hxk:x.k=3
           ·have hfa:=HM.o hxk
            rw[hfa,Bool.false_and] at HV
            rw[hxk] at c0
            clear hxk hfa
            go_wp2
            go_quiet (fail)
            go_wp2
            go_ret
            exact⟨x0h HV.o.symm,HP2.o.drewN _⟩
           ·have e9:(x.k == 3)=false:=by simpa using hxk
            have HXK:=mK hxk
            obtain⟨g2,rfl⟩:∃ m,gk=m+1:=⟨gk - 1,by have:=HKK.o;omega⟩
            clear hxk
            go_wp2
            go_quiet (fail)
            go_wp2
            go_roundg g2
            case measure=>omega
            case rel=>exact⟨k+1,by have:=HKK.o;omega,by go_num,⟨by rw[HT.o,HA2.o];simp[HXK.o]⟩,⟨(show BoxE _ _ _ _ _ _ _ from HB2.o.pure (rU.drewN _))⟩,⟨HP2.o.drewN _⟩⟩
          ·have hkl2:k=l.length:=by omega
           subst hkl2
           rw[List.take_length] at HA2
           rw[HA2.o,Bool.true_and] at HV
           cases hn:decide (nm.size=0)
           ·have f1:nm.toList.isEmpty=false:=by rw[x1h,hn]
            rw[hn,Bool.false_and] at HV
            clear hn
            go_wp2
            go_ret
            exact⟨x0h HV.o.symm,HP2.o⟩
           ·have f1:nm.toList.isEmpty=true:=by rw[x1h,hn]
            rw[hn,Bool.true_and] at HV
            clear hn
            go_wp2
            go_ret
            exact⟨x0h (by rw[HV.o,Bool.eq_iff_iff];simp <;> omega),HP2.o⟩
       ·have HV:=mK (show Ex.okR (.mk k0 nm l)=false by rw[Ex.okR,if_neg (by omega),if_neg (by omega),if_neg (by omega),if_neg (by omega)];simp)
        have e0:(k0 == 0)=false:=by simp;omega
        have e1:(k0 == 1)=false:=by simp;omega
        have e2:(k0 == 2)=false:=by simp;omega
        have e3:(k0 == 3)=false:=by simp;omega
        have e4:(k0 == 4)=false:=by simp;omega
        have e5:(k0 == 5)=false:=by simp;omega
        have e6:(k0 == 6)=false:=by simp;omega
        clear hk01 hk1 hk23
        go_wp2
        go_ret
        exact⟨x0h HV.o.symm,HP.o⟩
end Go.Proofs.YtofjodppljnlaaaGreatDoor
