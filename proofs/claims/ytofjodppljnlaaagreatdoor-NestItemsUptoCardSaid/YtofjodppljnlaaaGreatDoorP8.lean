/- My own texts, packed: Made. -/
import Derived.Test.YtofjodppljnlaaaGreatDoorP7
set_option maxRecDepth 100000
set_option maxHeartbeats 4000000
set_option linter.unusedVariables false
set_option linter.unusedSimpArgs false
variable {w w1 W:Go.World} {F G:Nat → Prop} {A B:Option Go.Addr} {cb c:Nat}
namespace Go.Proofs.YtofjodppljnlaaaGreatDoor
open Go.RowKit
structure Part where
 none:Bool
 first:List Int
 last:List Int
abbrev St:=List (List Int) × List (List Int)
mutual
/-- What build reckons: the types of the places, who follows whom; the part. -/
def glu (g:List Grp):Ex->St->St × Part
 | .mk k nm l,s=>
   if k=0 then (s,⟨true,[],[]⟩)
   else if k=1 then ((s.1 ++ [typesOf g nm],s.2 ++ [[]]),⟨false,[(s.1.length:Int)],[(s.1.length:Int)]⟩)
   else if k=3 then x2u g l s ⟨false,[],[]⟩
   else if k=2 then x2v g l s ⟨true,[],[]⟩
   else
    let r:=x2l g l s
    ((r.1.1,if k ≠ 6 then joinF r.1.2 r.2.last r.2.first else r.1.2),⟨r.2.none || decide (k ≠ 5),r.2.first,r.2.last⟩)
def x2l (g:List Grp):List Ex->St->St × Part
 | [],s=>(s,⟨true,[],[]⟩)
 | x :: _,s=>glu g x s
def x2u (g:List Grp):List Ex->St->Part->St × Part
 | [],s,p=>(s,p)
 | x :: r,s,p=>
   let q:=glu g x s
   x2u g r q.1 ⟨p.none || q.2.none,p.first ++ q.2.first,p.last ++ q.2.last⟩
def x2v (g:List Grp):List Ex->St->Part->St × Part
 | [],s,p=>(s,p)
 | x :: r,s,p=>
   let q:=glu g x s
   x2v g r (q.1.1,joinF q.1.2 p.last q.2.first) ⟨p.none && q.2.none,if p.none=true then p.first ++ q.2.first else p.first,if q.2.none=true then p.last ++ q.2.last else q.2.last⟩
end
/-- How great it all is. -/
structure Bd (s r:St) (p:Part) (n:Nat):Prop where
 len:s.2.length=s.1.length->r.2.length=r.1.length
 lo:s.1.length<=r.1.length
 hi:r.1.length<=s.1.length+n
 first:∀ a ∈ p.first,0<=a/\a < r.1.length
 last:∀ a ∈ p.last,0<=a/\a < r.1.length
 fl:p.first.length<=n
 ll:p.last.length<=n
theorem Bd.up {s r r':St} {p:Part} {n m:Nat} (h:Bd s r p n) (hl:r'.1.length=r.1.length) (hf:r'.2.length=r.2.length) (hm:n<=m):Bd s r' p m:=
 ⟨fun e=>by rw[hf,hl];exact h.len e,by rw[hl];exact h.lo,by rw[hl];have:=h.hi;omega,fun a ha=>by rw[hl];exact h.first a ha,fun a ha=>by rw[hl];exact h.last a ha,Nat.le_trans h.fl hm,Nat.le_trans h.ll hm⟩
/-- A part of what is already there, and what a tree adds. -/
theorem Bd.next {s0 s r:St} {p q:Part} {n m:Nat} (h:Bd s0 s p n) (h':Bd s r q m) (r':St) (hl:r'.1.length=r.1.length) (hf:r'.2.length=r.2.length) (t:Part) (ht:(∀ a ∈ t.first,a ∈ p.first\/a ∈ q.first)/\(∀ a ∈ t.last,a ∈ p.last\/a ∈ q.last)/\t.first.length<=p.first.length+q.first.length/\t.last.length<=p.last.length+q.last.length):Bd s0 r' t (n+m):=by
 obtain⟨t1,t2,t3,t4⟩:=ht
 have hlo:=h'.lo
 refine⟨fun e=>by rw[hf,hl];exact h'.len (h.len e),by rw[hl];exact Nat.le_trans h.lo h'.lo,by rw[hl];have:=h.hi;have:=h'.hi;omega,fun a ha=>?_,fun a ha=>?_,by have:=h.fl;have:=h'.fl;omega,by have:=h.ll;have:=h'.ll;omega⟩
 ·rw[hl]
  rcases t1 a ha with h1 | h1
  ·have:=h.first a h1;omega
  ·exact h'.first a h1
 ·rw[hl]
  rcases t2 a ha with h1 | h1
  ·have:=h.last a h1;omega
  ·exact h'.last a h1
theorem mem_ite_l {c:Bool} {a:Int} {p q:List Int} (h:a ∈ (if c=true then p ++ q else p)):a ∈ p\/a ∈ q:=by
 split at h
 ·exact List.mem_append.1 h
 ·exact .inl h
theorem mem_ite_r {c:Bool} {a:Int} {p q:List Int} (h:a ∈ (if c=true then p ++ q else q)):a ∈ p\/a ∈ q:=by
 split at h
 ·exact List.mem_append.1 h
 ·exact .inr h
theorem len_ite_l {c:Bool} {p q:List Int}:(if c=true then p ++ q else p).length<=p.length+q.length:=by split <;> simp
theorem len_ite_r {c:Bool} {p q:List Int}:(if c=true then p ++ q else q).length<=p.length+q.length:=by split <;> simp
mutual
theorem glu_bd (g:List Grp):∀ (e:Ex) (s:St),Bd s (glu g e s).1 (glu g e s).2 e.cnt
 | .mk k nm l,s=>by
   rw[glu]
   by_cases h0:k=0
   ·rw[if_pos h0]
    exact⟨id,Nat.le_refl _,by simp,by simp,by simp,by simp,by simp⟩
   ·rw[if_neg h0]
    by_cases h1:k=1
    ·rw[if_pos h1]
     exact⟨fun e=>by simp[e],by simp,by simp only[Ex.cnt,List.length_append,List.length_singleton];omega,fun a ha=>by simp at ha ⊢;omega,fun a ha=>by simp at ha ⊢;omega,by simp[Ex.cnt],by simp[Ex.cnt]⟩
    ·rw[if_neg h1]
     by_cases h3:k=3
     ·rw[if_pos h3]
      have:=gluAlt_bd g l s s ⟨false,[],[]⟩ 0 ⟨id,Nat.le_refl _,by simp,by simp,by simp,by simp,by simp⟩
      exact this.up rfl rfl (by simp[Ex.cnt])
     ·rw[if_neg h3]
      by_cases h2:k=2
      ·rw[if_pos h2]
       have:=gluSeq_bd g l s s ⟨true,[],[]⟩ 0 ⟨id,Nat.le_refl _,by simp,by simp,by simp,by simp,by simp⟩
       exact this.up rfl rfl (by simp[Ex.cnt])
      ·rw[if_neg h2]
       have:=gluOne_bd g l s
       refine(Bd.up (r':=((x2l g l s).1.1,if k ≠ 6 then joinF (x2l g l s).1.2 (x2l g l s).2.last (x2l g l s).2.first else (x2l g l s).1.2)) this rfl (by split <;> simp[x49]) (m:=Ex.cnt (.mk k nm l)) (by simp[Ex.cnt])) |> fun h=>⟨h.len,h.lo,h.hi,h.first,h.last,h.fl,h.ll⟩
theorem gluOne_bd (g:List Grp):∀ (l:List Ex) (s:St),Bd s (x2l g l s).1 (x2l g l s).2 (Ex.cnts l)
 | [],s=>⟨id,Nat.le_refl _,by simp[x2l],by simp[x2l],by simp[x2l],by simp[x2l],by simp[x2l]⟩
 | x :: r,s=>(glu_bd g x s).up rfl rfl (by simp[Ex.cnts])
theorem gluAlt_bd (g:List Grp):∀ (l:List Ex) (s0 s:St) (p:Part) (n:Nat),Bd s0 s p n->Bd s0 (x2u g l s p).1 (x2u g l s p).2 (n+Ex.cnts l)
 | [],s0,s,p,n,h=>h.up rfl rfl (by simp)
 | x :: r,s0,s,p,n,h=>by
   have h2:=Bd.next h (glu_bd g x s) (glu g x s).1 rfl rfl ⟨p.none || (glu g x s).2.none,p.first ++ (glu g x s).2.first,p.last ++ (glu g x s).2.last⟩ ⟨by simp,by simp,by simp,by simp⟩
   have h3:=gluAlt_bd g r s0 _ _ _ h2
   rw[x2u]
   exact h3.up rfl rfl (by simp[Ex.cnts];omega)
theorem gluSeq_bd (g:List Grp):∀ (l:List Ex) (s0 s:St) (p:Part) (n:Nat),Bd s0 s p n->Bd s0 (x2v g l s p).1 (x2v g l s p).2 (n+Ex.cnts l)
 | [],s0,s,p,n,h=>h.up rfl rfl (by simp)
 | x :: r,s0,s,p,n,h=>by
   have h2:=Bd.next h (glu_bd g x s) ((glu g x s).1.1,joinF (glu g x s).1.2 p.last (glu g x s).2.first) rfl (x49 _ _ _) ⟨p.none && (glu g x s).2.none,if p.none=true then p.first ++ (glu g x s).2.first else p.first,if (glu g x s).2.none=true then p.last ++ (glu g x s).2.last else (glu g x s).2.last⟩
    ⟨fun a ha=>mem_ite_l ha,fun a ha=>mem_ite_r ha,len_ite_l,len_ite_r⟩
   have h3:=gluSeq_bd g r s0 _ _ _ h2
   rw[x2v]
   exact h3.up rfl rfl (by simp[Ex.cnts];omega)
end
mutual
theorem glu_fb (g:List Grp):∀ (e:Ex) (s:St) (b:Nat),(∀ x ∈ s.2,x.length<=b)->e.cnt<=200->∀ x ∈ (glu g e s).1.2,x.length+40000<=b+80000 * e.cnt
 | .mk k nm l,s,b,hb,hc=>by
   have hc1:Ex.cnt (.mk k nm l)=1+Ex.cnts l:=by simp[Ex.cnt]
   rw[glu]
   by_cases h0:k=0
   ·rw[if_pos h0]
    intro x hx
    have:=hb x hx
    omega
   ·rw[if_neg h0]
    by_cases h1:k=1
    ·rw[if_pos h1]
     intro x hx
     rcases List.mem_append.1 hx with hx | hx
     ·have:=hb x hx;omega
     ·simp at hx;subst hx;simp;omega
    ·rw[if_neg h1]
     by_cases h3:k=3
     ·rw[if_pos h3]
      intro x hx
      have:=gluAlt_fb g l s ⟨false,[],[]⟩ b hb (by omega) x hx
      omega
     ·rw[if_neg h3]
      by_cases h2:k=2
      ·rw[if_pos h2]
       intro x hx
       have:=gluSeq_fb g l s ⟨true,[],[]⟩ b 0 hb (by simp) (by omega) x hx
       omega
      ·rw[if_neg h2]
       have h4:=gluOne_fb g l s b hb (by omega)
       have h5:=gluOne_bd g l s
       intro x hx
       dsimp only at hx
       split at hx
       ·have:=x66 (b:=b+80000 * Ex.cnts l) (fun y hy=>h4 y hy) x hx
        have h6:(x2l g l s).2.last.length * (x2l g l s).2.first.length<=200 * 200:=Nat.mul_le_mul (Nat.le_trans h5.ll (by omega)) (Nat.le_trans h5.fl (by omega))
        omega
       ·have:=h4 x hx
        omega
theorem gluOne_fb (g:List Grp):∀ (l:List Ex) (s:St) (b:Nat),(∀ x ∈ s.2,x.length<=b)->Ex.cnts l<=200->∀ x ∈ (x2l g l s).1.2,x.length<=b+80000 * Ex.cnts l
 | [],s,b,hb,hc=>fun x hx=>by have:=hb x hx;omega
 | y :: r,s,b,hb,hc=>fun x hx=>by
   have hc1:Ex.cnts (y :: r)=y.cnt+Ex.cnts r:=by simp[Ex.cnts]
   have:=glu_fb g y s b hb (by omega) x hx
   omega
theorem gluAlt_fb (g:List Grp):∀ (l:List Ex) (s:St) (p:Part) (b:Nat),(∀ x ∈ s.2,x.length<=b)->Ex.cnts l<=200->∀ x ∈ (x2u g l s p).1.2,x.length<=b+80000 * Ex.cnts l
 | [],s,p,b,hb,hc=>fun x hx=>by have:=hb x hx;omega
 | y :: r,s,p,b,hb,hc=>fun x hx=>by
   have hc1:Ex.cnts (y :: r)=y.cnt+Ex.cnts r:=by simp[Ex.cnts]
   have h1:=glu_fb g y s b hb (by omega)
   rw[x2u] at hx
   have:=gluAlt_fb g r (glu g y s).1 _ (b+80000 * y.cnt) (fun z hz=>by have:=h1 z hz;omega) (by omega) x hx
   omega
theorem gluSeq_fb (g:List Grp):∀ (l:List Ex) (s:St) (p:Part) (b n:Nat),(∀ x ∈ s.2,x.length<=b)->p.last.length<=n->n+Ex.cnts l<=200->∀ x ∈ (x2v g l s p).1.2,x.length<=b+80000 * Ex.cnts l
 | [],s,p,b,n,hb,hp,hc=>fun x hx=>by have:=hb x hx;omega
 | y :: r,s,p,b,n,hb,hp,hc=>fun x hx=>by
   have hc1:Ex.cnts (y :: r)=y.cnt+Ex.cnts r:=by simp[Ex.cnts]
   have h1:=glu_fb g y s b hb (by omega)
   have h2:=glu_bd g y s
   rw[x2v] at hx
   have h3:∀ z ∈ joinF (glu g y s).1.2 p.last (glu g y s).2.first,z.length<=b+80000 * y.cnt:=fun z hz=>by
    have:=x66 (b:=b+80000 * y.cnt - 40000) (fun u hu=>by have:=h1 u hu;omega) z hz
    have h6:p.last.length * (glu g y s).2.first.length<=200 * 200:=Nat.mul_le_mul (by omega) (Nat.le_trans h2.fl (by omega))
    have:=y.x3r
    omega
   have:=gluSeq_fb g r ((glu g y s).1.1,joinF (glu g y s).1.2 p.last (glu g y s).2.first) _ (b+80000 * y.cnt) (n+y.cnt) h3 (by have:=h2.ll;have:=@len_ite_r (glu g y s).2.none p.last (glu g y s).2.last;dsimp only;omega) (by omega) x hx
   omega
end
/-- What build leaves. -/
def BuildPost (w w':World) (B:Nat) (M:Nat->Prop) (mb:Nat) (b0 b1 b2:Value) (s:St) (p:Part) (r:Ending):Prop:=
 ∃ Af cf Al cl M' tv fv vs,r=.returned (.agg #[.bool p.none,.slice Af p.first.length cf,.slice Al p.last.length cl])/\Mach w' B M' mb s.1 s.2 b0 b1 b2 tv fv vs/\Grow M M' w.heap.size w'.heap.size /\
  intR.row w' (fun k=>w.heap.size<=k/\¬ M' k) Af p.first/\intR.row w' (fun k=>w.heap.size<=k/\¬ M' k) Al p.last/\Upd M w w'
theorem x4v {R:Ending->World->Prop} {a:Act} {w':World} {rb:Nat} {v0 v1 v2:Value} {fr:Nat × Nat} (hp:a.tmps.getD 6 undef=.pointer (some ⟨rb,0,none⟩)) (hg:w'.heap[rb]?=some (.cells #[v0,v1,v2] 221 fr)) (hd:a.defers=[]) (hR:R (.returned (.agg #[v0,v1,v2])) w') :
 bodyPost Tryz.prog Tryz.f165 R .ret a w':=
 bodyPost_ret (results_cell_row (P:=Tryz.prog) rfl _ _ rb 221 #[v0,v1,v2] fr _ hp hg Tryz.underlying221 rfl (by kernel_rfl)) hd hR
theorem set3 {w:World} {rb:Nat} {x0 x1 x2:Value} {t:TypeId} {fr:Nat × Nat} (h:w.heap[rb]?=some (.cells #[x0,x1,x2] t fr)) (y0 y1 y2:Value) :
 (((w.setCell ⟨rb,0,none⟩ y0).setCell ⟨rb,1,none⟩ y1).setCell ⟨rb,2,none⟩ y2).heap[rb]?=some (.cells #[y0,y1,y2] t fr):=by simp[World.setCell,Array.getElem?_modify,h]
theorem x3e (w:World) (rb:Nat) (y0 y1 y2:Value):Upd (fun k=>k=rb) w (((w.setCell ⟨rb,0,none⟩ y0).setCell ⟨rb,1,none⟩ y1).setCell ⟨rb,2,none⟩ y2):=
 (((Upd.refl (fun k=>k=rb) w).setCell (p:=⟨rb,0,none⟩) (fun _=>rfl) _).setCell (p:=⟨rb,1,none⟩) (fun _=>rfl) _).setCell (p:=⟨rb,2,none⟩) (fun _=>rfl) _
theorem slice_info:(Tryz.prog.info? 83).map (fun i=>(i.zero,i.size,i.bytes))=some (some (.slice none 0 0),1,24):=by kernel_rfl
/-- What is shown of build, tree by tree. -/
def x44 (e:Ex):Prop:=∀ (w:World) (B:Nat) (M F G:Nat->Prop) (mb:Nat) (s:St) (b0 b1 b2 tv fv:Value) (vs:List Value) (A Ag:Option Addr) (c cg:Nat) (g:List Grp),s.2.length=s.1.length ->
 Mach w B M mb s.1 s.2 b0 b1 b2 tv fv vs->exR.row w F A e.l->(∀ k,F k->k < B)->grpR.row w G Ag g->(∀ k,G k->k < B)->g.length<=1048576->s.1.length+e.cnt<=1000->(∀ x ∈ s.2,x.length+80000 * e.cnt<=1000000000) ->
 Calls Tryz.prog 165 #[.pointer (some ⟨mb,0,none⟩),e.val A c,.slice Ag g.length cg] w fun r w'=>BuildPost w w' B M mb b0 b1 b2 (glu g e s).1 (glu g e s).2 r
theorem build_none (nm:ByteArray) (l:List Ex):x44 (.mk 0 nm l):=by
 intro w B M F G mb s b0 b1 b2 tv fv vs A Ag c cg g hsl0 hm hr hF hg hG hgl hs hfb
 obtain⟨s1,s2⟩:=s
 have HM:=mK hm
 have HR:=mK hr
 have HF:=mK hF
 have HG:=mK hg
 have HGB:=mK hG
 have HFB:=mK hfb
 simp only at hsl0
 have hlb:=(hm.low mb hm.mbM)
 clear hm hr hF hg hG hfb
 have HV:As (glu g (.mk 0 nm l) (s1,s2)=((s1,s2),⟨true,[],[]⟩)):=⟨by rw[glu];rfl⟩
 show Calls Tryz.prog 165 #[.pointer (some ⟨mb,0,none⟩),.agg #[.int .i64 0,.string nm,.slice A l.length c],.slice Ag g.length cg] w _
 go_enter Tryz.func165,Tryz.ntmps165
 go_wp2
 refine x4v (rb:=w.heap.size+1) rfl (heap_alloc2_new w _ _) rfl ?_
 rw[HV.o]
 exact⟨none,0,none,0,M,tv,fv,vs,rfl,HM.o.pure (aU.alloc _),⟨fun _ h=>h,fun _ h=>.inl h⟩,.inl rfl,.inl rfl,aU.alloc _⟩
theorem build_name (nm:ByteArray) (l:List Ex):x44 (.mk 1 nm l):=by
 intro w B M F G mb s b0 b1 b2 tv fv vs A Ag c cg g hsl0 hm hr hF hg hG hgl hs hfb
 obtain⟨s1,s2⟩:=s
 have HM:=mK hm
 have HR:=mK hr
 have HF:=mK hF
 have HG:=mK hg
 have HGB:=mK hG
 have HFB:=mK hfb
 simp only at hsl0
 have hlb:=(hm.low mb hm.mbM)
 clear hm hr hF hg hG hfb
 have hcnt:1<=(Ex.mk 1 nm l).cnt:=Ex.x3r _
 have HV:As (glu g (.mk 1 nm l) (s1,s2)=((s1 ++ [typesOf g nm],s2 ++ [[]]),⟨false,[(s1.length:Int)],[(s1.length:Int)]⟩)):=⟨by rw[glu];rfl⟩
 have hsl:s1.length<=1000:=by simp only at hs;omega
 show Calls Tryz.prog 165 #[.pointer (some ⟨mb,0,none⟩),.agg #[.int .i64 1,.string nm,.slice A l.length c],.slice Ag g.length cg] w _
 go_enter Tryz.func165,Tryz.ntmps165
 go_wp2
 generalize hW:(w.alloc (.cells #[.int .i64 1,.string nm,.slice A l.length c] 92)).alloc (.cells #[.bool false,.slice none 0 0,.slice none 0 0] 221)=W
 have HPW:As (Pure w W):=⟨hW ▸ aU.alloc _⟩
 have hWs:W.heap.size=w.heap.size+2:=by subst hW;simp
 have HRB:As (W.heap[w.heap.size+1]?=some (.cells #[.bool false,.slice none 0 0,.slice none 0 0] 221)):=⟨hW ▸ heap_alloc2_new w _ _⟩
 have HEB:W.heap[w.heap.size]?=some (.cells #[.int .i64 1,.string nm,.slice A l.length c] 92):=hW ▸ heap_alloc2_old w _ _
 have HXC:W.cell? ⟨w.heap.size,1,none⟩=some (.string nm):=by unfold World.cell?;simp only[HEB];rfl
 clear hW HEB
 have HMW:=mK (HM.o.pure HPW.o)
 have HMd:=mK (HMW.o.pure (rU.drew))
 have HPd:=mK (show Pure w W.drew from HPW.o.drew)
 have HSK:As (∀ w1,Upd (fun k=>tv.ownBlock=some k) W.drew w1->w1.cell? ⟨mb,0,none⟩=some tv/\w1.frozen? ⟨mb,0,none⟩=false/\w1.cell? ⟨w.heap.size,1,none⟩=some (.string nm)):=⟨by
  intro w1 hu
  obtain⟨ti,hto,_⟩:=HMd.o.types
  have n1:¬ tv.ownBlock=some mb:=x1j hto HMd.o.blk (by decide)
  have n2:¬ tv.ownBlock=some w.heap.size:=fun h=>by have:=(HM.o.low _ (HM.o.typesM _ h)).2;omega
  have hb:W.drew.heap.size=W.heap.size:=rfl
  have hml:=(HMd.o.low _ HMd.o.mbM).2
  have hbk:=HMd.o.blk
  refine⟨(hu.cell hml n1).trans ?_,(hu.frozen hml n1).trans ?_,(hu.cell (by omega) n2).trans HXC⟩
  ·unfold World.cell?;simp only[hbk];rfl
  ·simp[World.frozen?,hbk]⟩
 have HS0:=mK (HSK.o _ rU)
 clear HXC
 refine x0m (P:=Tryz.prog) (fun w1=>w1.cell? ⟨mb,0,none⟩=some tv/\w1.frozen? ⟨mb,0,none⟩=false/\w1.cell? ⟨w.heap.size,1,none⟩=some (.string nm)) 13 (by kernel_rfl) ?_ (fun hHeld=>?_)
 ·first | exact HS0.o | exact HSK.o _ HA3.o | exact HSK.o _ HA2.o | exact HSK.o _ HA1.o
 refine zT 0 ?_
 refine zT 1 ?_
 refine zT 2 ?_
 refine zT 3 ?_
 (try simp only[Act.put,sA,sB,sC])
 refine zT 4 ?_
 refine zT 5 ?_
 refine zT 6 ?_
 refine zT 7 ?_
 (try simp only[Act.put,sA,sB,sC])
 refine oT 8 (fun K hK=>?_)
 go_simp
 (go_at_call 188;refine(types_calls nm (Rp.x01 HG.o HPd.o) hgl).mono ?_;rintro e w1 ⟨⟨A1,c1,rfl,hc1,hrow⟩,hu⟩;have HA1:=mK (show Upd (fun k=>tv.ownBlock=some k) W.drew w1 from hu.mono (fun _ _ h=>h.elim));have HA2:=mK (show Upd (fun k=>tv.ownBlock=some k) W.drew (w1.alloc (.cells #[.slice A1 (typesOf g nm).length c1] 83)) from HA1.o.alloc _);have HP2:=mK (show Pure W.drew (w1.alloc (.cells #[.slice A1 (typesOf g nm).length c1] 83)) from hu.alloc _);have HO:=mK (Rp.x0w HMd.o.types HP2.o (fun _ _ _ h=>h));have HY:=mK (Rp.x5j (d:=intR.slice) (F:=fun k=>k < B) (x:=typesOf g nm) (cs:=[.slice A1 (typesOf g nm).length c1]) ⟨A1,c1,rfl,hc1,Rp.x09 (Rp.x01 hrow HP2.o) HGB.o⟩ (heap_alloc_new w1 (.cells #[.slice A1 (typesOf g nm).length c1] 83)));clear hrow hu)
 refine hK.out _ _ (fun _=>by first | exact HS0.o | exact HSK.o _ HA3.o | exact HSK.o _ HA2.o | exact HSK.o _ HA1.o) (fun hHeld=>?_)
 replace hHeld:=hHeld (by decide)
 clear hK K
 (try simp only[Act.put,sA,sB,sC])
 refine oT 9 (fun K hK=>?_)
 go_simp
 refine hK.out _ _ (fun _=>by first | exact HS0.o | exact HSK.o _ HA3.o | exact HSK.o _ HA2.o | exact HSK.o _ HA1.o) (fun hHeld=>?_)
 replace hHeld:=hHeld (by decide)
 clear hK K
 (try simp only[Act.put,sA,sB,sC])
 refine oT 10 (fun K hK=>?_)
 refine Rp.x1g intR.slice (c:=1) HO.o HY.o (fun k hk _ he=>by have:=(HM.o.low k (HM.o.typesM k he.symm)).1;omega) (by rfl) _ _ 196 (.slice none 0 0) 24 (by rfl) Tryz.underlying196 slice_info rfl (by decide) (by decide) (by rfl) (by rfl) (by simp;omega) ?_;intro v1 w2 ho1 hu1 hat;obtain⟨A2,c2,rfl,_,_⟩:=Rp.x0c ho1;have HA3:=mK (show Upd (fun k=>tv.ownBlock=some k) W.drew w2 from Upd.trans HA2.o hu1 (fun _ _ h=>h));have HM3:=mK (Mach.types1 (HMd.o.pure HP2.o) ho1 hu1 hat);have HW3:=mK hu1.size;clear ho1 hu1 hat
 refine hK.out _ _ (fun _=>by first | exact HS0.o | exact HSK.o _ HA3.o | exact HSK.o _ HA2.o | exact HSK.o _ HA1.o) (fun hHeld=>?_)
 replace hHeld:=hHeld (by decide)
 clear hK K
 (try simp only[Act.put,sA,sB,sC])
 refine oT 11 (fun K hK=>?_)
 go_simp
 refine hK.out _ _ (fun _=>by first | exact HS0.o | exact HSK.o _ HA3.o | exact HSK.o _ HA2.o | exact HSK.o _ HA1.o) (fun hHeld=>?_)
 replace hHeld:=hHeld (by decide)
 clear hK K
 (try simp only[Act.put,sA,sB,sC])
 refine zT 12 ?_
 refine oT 13 (fun K hK=>?_)
 go_simp
 refine hK.out _ _ (fun h=>absurd rfl h) (fun hHeld=>?_)
 clear hK K
 (try simp only[Act.put,sA,sB,sC])
 refine x0l (by kernel_rfl) ?_ _
 obtain⟨hm3,hu3⟩:=HM3.o
 have hl1:(s1 ++ [typesOf g nm]).length=s1.length+1:=by simp
 rw[hl1] at hm3 hu3
 have hrb3:(w2.setCell ⟨mb,0,none⟩ (.slice A2 (s1.length+1) c2)).heap[w.heap.size+1]?=some (.cells #[.bool false,.slice none 0 0,.slice none 0 0] 221 (0,0)):=by
  have n1:¬ M (w.heap.size+1):=fun h=>by have:=(HM.o.low _ h).2;omega
  have e1:=hu3.block (w.heap.size+1) (Nat.lt_of_lt_of_le (show w.heap.size+1 < W.heap.size by omega) HP2.o.size) n1
  rw[e1,HP2.o.block (w.heap.size+1) (by show w.heap.size+1 < W.heap.size;omega) (fun h=>h)]
  exact HRB.o
 have hs3:W.heap.size<=(w2.setCell ⟨mb,0,none⟩ (.slice A2 (s1.length+1) c2)).heap.size:=by
  have h1:W.heap.size<=(w1.alloc (.cells #[.slice A1 (typesOf g nm).length c1] 83)).heap.size:=HP2.o.size
  have h2:=hu3.size
  omega
 have hg3:As (Grow M (fun k=>M k\/((w1.alloc (.cells #[.slice A1 (typesOf g nm).length c1] 83)).heap.size<=k/\k < w2.heap.size)) w.heap.size (w2.setCell ⟨mb,0,none⟩ (.slice A2 (s1.length+1) c2)).heap.size):=⟨⟨fun k hk=>.inl hk,fun k hk=>by
  rcases hk with hk | hk
  ·exact .inl hk
  ·have h1:W.heap.size<=(w1.alloc (.cells #[.slice A1 (typesOf g nm).length c1] 83)).heap.size:=HP2.o.size
   exact .inr ⟨by omega,by have:=hk.2;simpa[World.setCell] using this⟩⟩⟩
 have hU3:As (Upd M w (w2.setCell ⟨mb,0,none⟩ (.slice A2 (s1.length+1) c2))):=⟨Upd.trans (HPd.o.mono (fun _ _ h=>h.elim)) (Upd.trans (HP2.o.mono (S':=M) (fun _ _ h=>h.elim)) hu3 (fun _ _ h=>h)) (fun _ _ h=>h)⟩
 have HWW:As (W.heap.size<=(w1.alloc (.cells #[.slice A1 (typesOf g nm).length c1] 83)).heap.size):=⟨HP2.o.size⟩
 generalize hw3:w2.setCell ⟨mb,0,none⟩ (.slice A2 (s1.length+1) c2)=w3 at *
 clear hw3 hu3 HM3 HA1 HA2 HA3 HO HY HP2 HW3 HS0 HSK
 have HM3:=mK hm3
 have HB3:=mK hrb3
 have q0:w3.cell? ⟨mb,1,none⟩=some fv:=by unfold World.cell?;simp only[hm3.blk];rfl
 obtain⟨i0,hi,hz0,hz1,hz2⟩:=info_parts slice_info
 clear hm3 hrb3
 have hsl2:s2.length<=1000:=by omega
 go_wp2_with (at_builtin;refine wpList_append_own_at _ rfl _ _ 196 rfl 0 83 i0 (.slice none 0 0) 1 24 Tryz.underlying196 hi hz0 hz1 hz2 rfl (by decide) _ _ _ rfl (HM3.o.foll.own.alloc _) ⟨w3.heap.size,0,none⟩ 1 1 [.slice none 0 0] rfl rfl (cell_one_new _ _ _) (by simp[Value.oneCell']) (by unfold maxLen;omega) (by omega) (Nat.zero_le _) ?_;intro v2 w4 ho2 hg2 _ hat2;obtain⟨g2,cap2,rfl,_,hg2l⟩:=ho2.form (by omega);apply As.o)
 refine⟨?_⟩
 have hU4:Upd (fun k=>fv.ownBlock=some k) w3 w4:=Upd.x3o (World.grownBy.trans (World.grownBy_alloc w3 _ _) hg2) (fun k hk=>hk)
 obtain⟨hm5,hu5⟩:=Mach.foll1 HM3.o ho2 hU4 (hat2.imp id (fun h=>⟨_,h,by simp⟩))
 have n1:¬ fv.ownBlock=some mb:=x1j HM3.o.foll.own HM3.o.blk (by decide)
 have n2:¬ fv.ownBlock=some (w.heap.size+1):=fun h=>by
  rcases HM3.o.foll.inM _ h with h | h
  ·have:=(HM.o.low _ h).2;omega
  ·have h9:W.heap.size<=w.heap.size+1:=Nat.le_trans HWW.o h.1
   omega
 have hmb4:w4.heap[mb]?=some (.cells #[.slice A2 (s1.length+1) c2,fv,b0,b1,b2] 223 (0,0)):=by rw[hU4.block mb (HM3.o.low mb HM3.o.mbM).2 n1];exact HM3.o.blk
 have hrb4:w4.heap[w.heap.size+1]?=some (.cells #[.bool false,.slice none 0 0,.slice none 0 0] 221 (0,0)):=by rw[hU4.block _ (by omega) n2];exact HB3.o
 have c0:w4.cell? ⟨mb,0,none⟩=some (.slice A2 (s1.length+1) c2):=by unfold World.cell?;simp only[hmb4];rfl
 have c1':w4.cell? ⟨mb,1,none⟩=some fv:=by unfold World.cell?;simp only[hmb4];rfl
 have f1:w4.frozen? ⟨mb,1,none⟩=false:=by simp[World.frozen?,hmb4]
 have r0:w4.cell? ⟨w.heap.size+1,0,none⟩=some (.bool false):=by unfold World.cell?;simp only[hrb4];rfl
 have r1:w4.cell? ⟨w.heap.size+1,1,none⟩=some (.slice none 0 0):=by unfold World.cell?;simp only[hrb4];rfl
 have r2:w4.cell? ⟨w.heap.size+1,2,none⟩=some (.slice none 0 0):=by unfold World.cell?;simp only[hrb4];rfl
 have e0:w4.frozen? ⟨w.heap.size+1,0,none⟩=false:=by simp[World.frozen?,hrb4]
 have e1:w4.frozen? ⟨w.heap.size+1,1,none⟩=false:=by simp[World.frozen?,hrb4]
 have e2:w4.frozen? ⟨w.heap.size+1,2,none⟩=false:=by simp[World.frozen?,hrb4]
 have hmr:mb ≠ w.heap.size+1:=by omega
 have hmr2:w.heap.size+1 ≠ mb:=by omega
 have hml4:=lB hmb4
 have hrl4:=lB hrb4
 have HM5:=mK hm5
 have HU5:=mK hu5
 have HR4:=mK hrb4
 have HG2:=mK hU4.size
 clear hm5 hu5 hrb4 hmb4 hU4 ho2 hg2 hat2 q0 hi hz0 hz1 hz2
 go_wp2
 have hset:=set3 (w:=w4.setCell ⟨mb,1,none⟩ (.slice (some ⟨g2,0,none⟩) (s2.length+1) cap2)) (rb:=w.heap.size+1) ((Below.heap_setCell _ _ _ _ hmr2).trans HR4.o) (.bool false) (.slice (some ⟨w4.heap.size,0,none⟩) 1 1) (.slice (some ⟨w4.heap.size,0,none⟩) 1 1)
 have hsu:=x3e (w4.setCell ⟨mb,1,none⟩ (.slice (some ⟨g2,0,none⟩) (s2.length+1) cap2)) (w.heap.size+1) (.bool false) (.slice (some ⟨w4.heap.size,0,none⟩) 1 1) (.slice (some ⟨w4.heap.size,0,none⟩) 1 1)
 have hM5:=HM5.o
 have hU5:=HU5.o
 rw[hsl0] at hset hsu hM5 hU5
 have hM3l:∀ k,(M k\/((w1.alloc (.cells #[.slice A1 (typesOf g nm).length c1] 83)).heap.size<=k/\k < w2.heap.size))->k < w3.heap.size:=fun k hk=>(HM3.o.low k hk).2
 have hw34:=HG2.o
 have hMr:¬ ((M (w.heap.size+1)\/((w1.alloc (.cells #[.slice A1 (typesOf g nm).length c1] 83)).heap.size<=w.heap.size+1/\w.heap.size+1 < w2.heap.size))\/(w3.heap.size<=w.heap.size+1/\w.heap.size+1 < w4.heap.size)):=by
  rintro ((h | h) | h)
  ·have:=(HM.o.low _ h).2;omega
  ·have h9:W.heap.size<=w.heap.size+1:=Nat.le_trans HWW.o h.1
   omega
  ·omega
 have hB2:B<=w.heap.size+1:=by omega
 generalize hw5:((((w4.setCell ⟨mb,1,none⟩ (.slice (some ⟨g2,0,none⟩) (s1.length+1) cap2)).setCell ⟨w.heap.size+1,0,none⟩ (.bool false)).setCell ⟨w.heap.size+1,1,none⟩ (.slice (some ⟨w4.heap.size,0,none⟩) 1 1)).setCell ⟨w.heap.size+1,2,none⟩ (.slice (some ⟨w4.heap.size,0,none⟩) 1 1))=w5 at *
 have hs5:w5.heap.size=w4.heap.size:=by subst hw5;simp[World.setCell]
 have hnew:(w5.alloc (.cells #[.int .i64 s1.length] 3)).heap[w4.heap.size]?=some (.cells #[.int .i64 s1.length] 3):=hs5 ▸ heap_alloc_new w5 _
 refine x4v (rb:=w.heap.size+1) rfl ((Below.heap_alloc w5 _ _ (by omega)).trans hset) rfl ?_
 rw[HV.o]
 have hm6:=(hM5.upd hsu (fun k _ hk=>by subst hk;exact⟨hB2,hMr⟩)).pure (Upd.alloc1 (fun _=>False) w5 (.cells #[.int .i64 s1.length] 3))
 have hrow:intR.row (w5.alloc (.cells #[.int .i64 s1.length] 3)) (fun k=>w.heap.size<=k/\¬ ((M k\/((w1.alloc (.cells #[.slice A1 (typesOf g nm).length c1] 83)).heap.size<=k/\k < w2.heap.size))\/(w3.heap.size<=k/\k < w4.heap.size))) (some ⟨w4.heap.size,0,none⟩) [(s1.length:Int)]:=by
  refine Rp.x1k hnew ⟨by omega,?_⟩ (Reps.single rfl rfl)
  rintro (h | h)
  ·have:=hM3l _ h;omega
  ·omega
 refine⟨some ⟨w4.heap.size,0,none⟩,1,some ⟨w4.heap.size,0,none⟩,1,_,_,_,_,rfl,hm6,⟨fun k hk=>.inl (.inl hk),fun k hk=>?_⟩,hrow,hrow,?_⟩
 ·rcases hk with hk | hk
  ·rcases hg3.o.2 k hk with hk | hk
   ·exact .inl hk
   ·exact .inr ⟨hk.1,by simp;omega⟩
  ·exact .inr ⟨by omega,by simp;omega⟩
 ·have u1:Upd (fun k=>(M k\/((w1.alloc (.cells #[.slice A1 (typesOf g nm).length c1] 83)).heap.size<=k/\k < w2.heap.size))\/k=w.heap.size+1) w3 (w5.alloc (.cells #[.int .i64 s1.length] 3)):=
   Upd.trans (hU5.mono (fun _ _ h=>.inl h)) ((hsu.mono (S':=fun k=>(M k\/((w1.alloc (.cells #[.slice A1 (typesOf g nm).length c1] 83)).heap.size<=k/\k < w2.heap.size))\/k=w.heap.size+1) (fun _ _ h=>.inr h)).alloc _) (fun k _ h=>h)
  refine Upd.trans hU3.o u1 (fun k hk h=>?_)
  rcases h with h | rfl
  ·rcases hg3.o.2 k h with h | h
   ·exact h
   ·omega
  ·omega
/-- What holds from part to part: the boxes are w.heap.size (the tree), + 1 (the result), + 2 (what is reckoned). -/
def LoopRel (C:List Ex->St->Part->St × Part) (tgt:St × Part) (w wr:World) (B:Nat) (M:Nat->Prop) (mb:Nat) (b0 b1 b2:Value) (s0:St) (rest:List Ex) (n:Nat):Prop:=
 ∃ M' tv fv vs s p Af cf Al cl,C rest s p=tgt/\Bd s0 s p n/\s.2.length=s.1.length/\(∀ x ∈ s.2,x.length+80000 * Ex.cnts rest<=1000000000)/\Mach wr B M' mb s.1 s.2 b0 b1 b2 tv fv vs /\
  (∀ k,M k->M' k)/\(∀ k,M' k->M k\/w.heap.size+3<=k)/\wr.heap[w.heap.size+2]?=some (.cells #[.bool p.none,.slice Af p.first.length cf,.slice Al p.last.length cl] 221 (0,0)) /\
  wr.heap[w.heap.size+1]?=some (.cells #[.bool false,.slice none 0 0,.slice none 0 0] 221 (0,0))/\intR.row wr (fun k=>w.heap.size+3<=k/\¬ M' k) Af p.first/\intR.row wr (fun k=>w.heap.size+3<=k/\¬ M' k) Al p.last/\Upd M w wr
theorem Bd.start (s:St) (b:Bool):Bd s s ⟨b,[],[]⟩ 0:=⟨id,Nat.le_refl _,by simp,by simp,by simp,by simp,by simp⟩
/-- A struct of three cells laid open. -/
theorem cells3 {w:World} {b:Nat} {x0 x1 x2:Value} {t:TypeId} (h:w.heap[b]?=some (.cells #[x0,x1,x2] t (0,0))) :
 (w.cell? ⟨b,0,none⟩=some x0/\w.cell? ⟨b,1,none⟩=some x1/\w.cell? ⟨b,2,none⟩=some x2)/\w.frozen? ⟨b,0,none⟩=false/\w.frozen? ⟨b,1,none⟩=false/\w.frozen? ⟨b,2,none⟩=false/\b < w.heap.size:=
 ⟨⟨by unfold World.cell?;simp only[h];rfl,by unfold World.cell?;simp only[h];rfl,by unfold World.cell?;simp only[h];rfl⟩,by simp[World.frozen?,h],by simp[World.frozen?,h],by simp[World.frozen?,h],(lB h)⟩
theorem LoopRel.done {C:List Ex->St->Part->St × Part} {tgt:St × Part} {w wr:World} {B:Nat} {M:Nat->Prop} {mb:Nat} {b0 b1 b2:Value} {s0:St} {n:Nat} (h:LoopRel C tgt w wr B M mb b0 b1 b2 s0 [] n) (hB:B<=w.heap.size) (hMl:∀ k,M k->k < w.heap.size) (hC:∀ s p,C [] s p=(s,p)) :
 ∃ Af cf Al cl,wr.heap[w.heap.size+2]?=some (.cells #[.bool tgt.2.none,.slice Af tgt.2.first.length cf,.slice Al tgt.2.last.length cl] 221 (0,0)) /\
  wr.heap[w.heap.size+1]?=some (.cells #[.bool false,.slice none 0 0,.slice none 0 0] 221 (0,0)) /\
  ∀ w',w'=(((wr.setCell ⟨w.heap.size+1,0,none⟩ (.bool tgt.2.none)).setCell ⟨w.heap.size+1,1,none⟩ (.slice Af tgt.2.first.length cf)).setCell ⟨w.heap.size+1,2,none⟩ (.slice Al tgt.2.last.length cl)) ->
   w'.heap[w.heap.size+1]?=some (.cells #[.bool tgt.2.none,.slice Af tgt.2.first.length cf,.slice Al tgt.2.last.length cl] 221 (0,0)) /\
   BuildPost w w' B M mb b0 b1 b2 tgt.1 tgt.2 (.returned (.agg #[.bool tgt.2.none,.slice Af tgt.2.first.length cf,.slice Al tgt.2.last.length cl])):=by
 obtain⟨M',tv,fv,vs,s,p,Af,cf,Al,cl,hc,hbd,hlen,hfb,hm,hM1,hM2,hpb,hrb,hf,hl,hu⟩:=h
 rw[hC] at hc
 subst hc
 refine⟨Af,cf,Al,cl,hpb,hrb,?_⟩
 rintro w' rfl
 have hsu:=x3e wr (w.heap.size+1) (.bool p.none) (.slice Af p.first.length cf) (.slice Al p.last.length cl)
 have hsz:((((wr.setCell ⟨w.heap.size+1,0,none⟩ (.bool p.none)).setCell ⟨w.heap.size+1,1,none⟩ (.slice Af p.first.length cf)).setCell ⟨w.heap.size+1,2,none⟩ (.slice Al p.last.length cl))).heap.size=wr.heap.size:=by simp[World.setCell]
 refine⟨set3 hrb _ _ _,Af,cf,Al,cl,M',tv,fv,vs,rfl,hm.upd hsu (fun k _ hk=>?_),⟨hM1,fun k hk=>?_⟩,?_,?_,Upd.trans hu hsu (fun k hk he=>by omega)⟩
 ·subst hk
  refine⟨by omega,fun h=>?_⟩
  rcases hM2 _ h with h | h
  ·have:=hMl _ h;omega
  ·omega
 ·rcases hM2 k hk with h | h
  ·exact .inl h
  ·exact .inr ⟨by omega,by rw[hsz];exact(hm.low k hk).2⟩
 ·exact Rp.x09 (Rp.x0f hf hsu (fun k _ hk he=>by omega)) (fun k hk=>⟨by omega,hk.2⟩)
 ·exact Rp.x09 (Rp.x0f hl hsu (fun k _ hk he=>by omega)) (fun k hk=>⟨by omega,hk.2⟩)
theorem build_alt (nm:ByteArray) (l:List Ex) (HI:∀ x ∈ l,x44 x) (hcnt:Ex.cnts l<=199):x44 (.mk 3 nm l):=by
 intro w B M F G mb s b0 b1 b2 tv fv vs A Ag c cg g hsl0 hm hr hF hg hG hgl hs hfb
 obtain⟨s1,s2⟩:=s
 have HII:=mK HI
 have HM:=mK hm
 have HR:=mK hr
 have HF:=mK hF
 have HG:=mK hg
 have HGB:=mK hG
 simp only at hsl0
 have hlb:=(hm.low mb hm.mbM)
 have hc1:(Ex.mk 3 nm l).cnt=1+Ex.cnts l:=by simp[Ex.cnt]
 rw[hc1] at hs hfb
 simp only at hs hfb
 have hll:l.length<=199:=by
  have h:l.length<=Ex.cnts l:=by
   clear HII HI HR hr hc1 hs hfb hcnt
   induction l with
   | nil=>simp
   | cons x r ih=>have:=x.x3r;simp only[Ex.cnts,List.length_cons];omega
  omega
 have HV:=mK (show glu g (.mk 3 nm l) (s1,s2)=x2u g l (s1,s2) ⟨false,[],[]⟩ by rw[glu];rfl)
 have HFB:=mK (show ∀ x ∈ s2,x.length+80000 * Ex.cnts l<=1000000000 from fun x hx=>by have:=hfb x hx;omega)
 have HS:=mK hsl0
 clear hm hr hF hg hG hfb HI hc1 hsl0
 show Calls Tryz.prog 165 #[.pointer (some ⟨mb,0,none⟩),.agg #[.int .i64 3,.string nm,.slice A l.length c],.slice Ag g.length cg] w _
 go_enter Tryz.func165,Tryz.ntmps165
 go_wp2
 go_loopg [62] l.length (fun gg i wr=>∃ k:Nat,k+gg=l.length/\i=.int .i64 k/\As (LoopRel (x2u g) (x2u g l (s1,s2) ⟨false,[],[]⟩) w wr B M mb b0 b1 b2 (s1,s2) (l.drop k) (Ex.cnts (l.take k))))
 case atStart=>
  refine⟨0,by omega,rfl,⟨M,tv,fv,vs,(s1,s2),⟨false,[],[]⟩,none,0,none,0,rfl,Bd.start _ _,HS.o,HFB.o,HM.o.pure ((aU.alloc _).alloc _),fun _ h=>h,fun _ h=>.inl h,?_,?_,.inl rfl,.inl rfl,(aU.alloc _).alloc _⟩⟩
  ·have:=heap_alloc_new ((w.alloc (.cells #[.int .i64 3,.string nm,.slice A l.length c] 92)).alloc (.cells #[.bool false,.slice none 0 0,.slice none 0 0] 221)) (.cells #[.bool false,.slice none 0 0,.slice none 0 0] 221)
   simpa using this
  ·exact(Below.heap_alloc _ _ _ (by simp)).trans (heap_alloc2_new w _ _)
 case round=>
  obtain⟨k,hk,rfl,HC⟩:=hrel
  by_cases hlt:k < l.length
  ·obtain⟨x,hx⟩:=gS hlt
   obtain⟨M',tv',fv',vs',s,⟨pn,pf,pl⟩,Af,cf,Al,cl,hc,hbd,hlen,hfb2,hm2,hM1,hM2,hpb,hrb,hf2,hl2,hu2⟩:=HC.o
   have hmM:=fun k hk=>(HM.o.low k hk)
   have hrw:=Rp.x0f HR.o hu2 (fun k _ hF hM=>by have:=HF.o k hF;have:=(hmM k hM).1;omega)
   have hgw:=Rp.x0f HG.o hu2 (fun k _ hF hM=>by have:=HGB.o k hF;have:=(hmM k hM).1;omega)
   obtain⟨b,o,Ax,cx,rfl,hFb,hbl,d0,d1,d2,hle1,hrow1⟩:=ex_at hrw hx
   obtain⟨g1,rfl⟩:=sC1 (by omega:0 < gk)
   have hxm:=List.mem_of_getElem? hx
   have hdx:=x53 hx
   have hcx:Ex.cnts (l.take (k+1))=Ex.cnts (l.take k)+x.cnt:=Ex.cnts_succ hx
   have hsum:Ex.cnts (l.take k)+Ex.cnts (l.drop k)=Ex.cnts l:=by rw[<- Ex.x64,List.take_append_drop]
   have hdc:Ex.cnts (l.drop k)=x.cnt+Ex.cnts (l.drop (k+1)):=by rw[hdx];simp[Ex.cnts]
   have hbhi:=hbd.hi
   have hbfl:=hbd.fl
   have hbll:=hbd.ll
   simp only at hbhi hbfl hbll
   have HBC:=mK (fun (wz:World) (hz:Pure wr wz)=>HII.o x hxm wz B M' F G mb s b0 b1 b2 tv' fv' vs' Ax Ag cx cg g hlen (hm2.pure hz) (Rp.x01 hrow1 hz) HF.o (Rp.x01 hgw hz) HGB.o hgl (by omega) (fun y hy=>by have:=hfb2 y hy;omega))
   have hql:=glu_bd g x s
   have hqfl:=hql.fl
   have hqll:=hql.ll
   have HBD:=mK hbd
   have HQB:=mK hql
   have HLN:=mK hlen
   have HFB2:=mK hfb2
   have HCC:=mK hc
   have HM1:=mK hM1
   have HM2:=mK hM2
   have HPB:=mK hpb
   have HRB:=mK hrb
   have HF2:=mK hf2
   have HL2:=mK hl2
   have HU2:=mK hu2
   have HLOW:=mK (fun k hk=>hm2.low k hk)
   have HK:=mK hk
   have HDX:=mK hdx
   have HCX:=mK hcx
   have hprl:=lB hpb
   clear hbd hql hlen hfb2 hc hM1 hM2 hpb hrb hf2 hl2 hu2 hm2 hrw hgw hrow1 hx hk hdx hcx HC hmM
   go_wp2_with (go_at_call 165;refine(HBC.o _ aU).mono ?_;rintro e w1 ⟨Aq,cq,Ar,cr,M1,tv1,fv1,vs1,rfl,hm1,hg1,hqf,hql,hu1⟩;have HMM:=mK hm1;have HGG:=mK hg1;have HQF:=mK hqf;have HQL:=mK hql;have HU1:=mK hu1;clear hm1 hg1 hqf hql hu1)
   cases pn
   ·generalize hW:w1.alloc (.cells #[.bool (glu g x s).2.none,.slice Aq (glu g x s).2.first.length cq,.slice Ar (glu g x s).2.last.length cr] 221)=W
    have HPW1:As (Pure w1 W.drew):=⟨hW ▸ (Upd.alloc1 (fun _=>False) w1 _).drew⟩
    have hWs:W.drew.heap.size=w1.heap.size+1:=by subst hW;simp
    have hqb:W.drew.heap[w1.heap.size]?=some (.cells #[.bool (glu g x s).2.none,.slice Aq (glu g x s).2.first.length cq,.slice Ar (glu g x s).2.last.length cr] 221 (0,0)):=by subst hW;exact heap_alloc_new w1 _
    clear hW
    have hlow0:=HM.o.low mb HM.o.mbM
    have hw01:=HU2.o.size
    have hw12:wr.heap.size+1<=w1.heap.size:=by have:=HU1.o.size;simpa using this
    have hnpM:¬ M' (w.heap.size+2):=fun h=>by rcases HM2.o _ h with h | h;(have:=(HM.o.low _ h).2;omega);omega
    have hnrM:¬ M' (w.heap.size+1):=fun h=>by rcases HM2.o _ h with h | h;(have:=(HM.o.low _ h).2;omega);omega
    have HU01:As (Upd M' wr W.drew):=⟨Upd.trans (Upd.trans (Upd.alloc1 M' wr _) HU1.o (fun _ _ h=>h)) HPW1.o (fun _ _ h=>h.elim)⟩
    have hpb:W.drew.heap[w.heap.size+2]?=some (.cells #[.bool false,.slice Af pf.length cf,.slice Al pl.length cl] 221 (0,0)):=(HU01.o.block _ hprl hnpM).trans HPB.o
    have hrb:W.drew.heap[w.heap.size+1]?=some (.cells #[.bool false,.slice none 0 0,.slice none 0 0] 221 (0,0)):=(HU01.o.block _ (by omega) hnrM).trans HRB.o
    have HPf:=mK (Rp.x0f HF2.o HU01.o (fun _ _ h=>h.2))
    have HPl:=mK (Rp.x0f HL2.o HU01.o (fun _ _ h=>h.2))
    have HQf:=mK (Rp.x01 HQF.o HPW1.o)
    have HQl:=mK (Rp.x01 HQL.o HPW1.o)
    have HM12:As (∀ q,M1 q->M q\/w.heap.size+3<=q):=⟨fun q hq=>by
     rcases HGG.o.2 q hq with h | h
     ·exact HM2.o q h
     ·have h1:=h.1
      simp at h1
      omega⟩
    have HPBM:As (¬ M1 (w.heap.size+2)):=⟨fun h=>by rcases HM12.o _ h with h | h;(have:=(HM.o.low _ h).2;omega);omega⟩
    have HPB0:=mK hpb
    have HRB0:=mK hrb
    obtain⟨⟨pc0,pc1,pc2⟩,pg0,pg1,pg2,pl3⟩:=cells3 hpb
    obtain⟨⟨qc0,qc1,qc2⟩,_,_,_,ql3⟩:=cells3 hqb
    clear hpb hrb hqb
    have HSK:As (∀ v,Pure W.drew v->v.cell? ⟨w.heap.size+2,0,none⟩=some (.bool false)/\v.cell? ⟨w.heap.size+2,1,none⟩=some (.slice Af pf.length cf)/\v.cell? ⟨w.heap.size+2,2,none⟩=some (.slice Al pl.length cl)/\v.cell? ⟨w1.heap.size,0,none⟩=some (.bool (glu g x s).2.none)/\v.cell? ⟨w1.heap.size,1,none⟩=some (.slice Aq (glu g x s).2.first.length cq)/\v.cell? ⟨w1.heap.size,2,none⟩=some (.slice Ar (glu g x s).2.last.length cr)/\v.frozen? ⟨w.heap.size+2,0,none⟩=false/\v.frozen? ⟨w.heap.size+2,1,none⟩=false/\v.frozen? ⟨w.heap.size+2,2,none⟩=false):=⟨fun v hv=>⟨(hv.cell pl3 (fun h=>h)).trans pc0,(hv.cell pl3 (fun h=>h)).trans pc1,(hv.cell pl3 (fun h=>h)).trans pc2,(hv.cell ql3 (fun h=>h)).trans qc0,(hv.cell ql3 (fun h=>h)).trans qc1,(hv.cell ql3 (fun h=>h)).trans qc2,(hv.frozen pl3 (fun h=>h)).trans pg0,(hv.frozen pl3 (fun h=>h)).trans pg1,(hv.frozen pl3 (fun h=>h)).trans pg2⟩⟩
    clear pc0 pc1 pc2 qc0 qc1 qc2 pg0 pg1 pg2
    refine x0m (P:=Tryz.prog) (fun v=>v.cell? ⟨w.heap.size+2,0,none⟩=some (.bool false)/\v.cell? ⟨w.heap.size+2,1,none⟩=some (.slice Af pf.length cf)/\v.cell? ⟨w.heap.size+2,2,none⟩=some (.slice Al pl.length cl)/\v.cell? ⟨w1.heap.size,0,none⟩=some (.bool (glu g x s).2.none)/\v.cell? ⟨w1.heap.size,1,none⟩=some (.slice Aq (glu g x s).2.first.length cq)/\v.cell? ⟨w1.heap.size,2,none⟩=some (.slice Ar (glu g x s).2.last.length cr)/\v.frozen? ⟨w.heap.size+2,0,none⟩=false/\v.frozen? ⟨w.heap.size+2,1,none⟩=false/\v.frozen? ⟨w.heap.size+2,2,none⟩=false) 19 (by kernel_rfl) ?_ (fun hHeld=>?_)
    ·first | exact HSK.o _ HP5.o | exact HSK.o _ HP4.o | exact HSK.o _ HP3.o | exact HSK.o _ HP2.o | exact HSK.o _ rU
    refine zT 0 ?_
    refine zT 1 ?_
    refine zT 2 ?_
    refine zT 3 ?_
    refine zT 4 ?_
    refine zT 5 ?_
    (try simp only[Act.put,sA,sB,sC])
    refine zT 6 ?_
    refine zT 7 ?_
    refine zT 9 ?_
    refine zT 10 ?_
    (try simp only[Act.put,sA,sB,sC])
    refine zT 12 ?_
    refine zT 13 ?_
    refine zT 15 ?_
    refine zT 16 ?_
    (try simp only[Act.put,sA,sB,sC])
    refine oT 8 (fun K hK=>?_)
    go_simp
    (go_at_call 123;refine(x3f HPf.o (by omega)).mono ?_;rintro e w2 ⟨v2,rfl,ho2,hu2⟩;obtain⟨A2,c2,rfl,_,_⟩:=Rp.x0c ho2;have HO2:=mK ho2;have HP2:=mK (show Pure W.drew w2 from hu2);have HQ2:=mK (Rp.x01 HQf.o HP2.o);clear ho2 hu2)
    refine hK.out _ _ (fun _=>by first | exact HSK.o _ HP5.o | exact HSK.o _ HP4.o | exact HSK.o _ HP3.o | exact HSK.o _ HP2.o | exact HSK.o _ rU) (fun hHeld=>?_)
    replace hHeld:=hHeld (by decide)
    clear hK K
    (try simp only[Act.put,sA,sB,sC])
    refine oT 11 (fun K hK=>?_)
    refine Rp.x1g intR (c:=cq) HO2.o (Rp.x1q HQ2.o (fun _ _ h=>h)) (Fz:=fun _=>False) (fun _ h=>h.elim) (by rfl) _ _ 83 (.int .i64 0) 8 (by rfl) Tryz.underlying83 x3n rfl (by decide) (by decide) (by rfl) (by rfl) (by omega) ?_;intro v3 w3 ho3 hu3 hat3;obtain⟨A3,c3,rfl,_,_⟩:=Rp.x0c ho3;have HP3:=mK (show Pure W.drew w3 from Upd.trans HP2.o hu3 (fun k hk h=>by have:=(Rp.x03 HO2.o k h).1;omega));have HO3:=mK (x3h (G:=fun k=>W.drew.heap.size<=k) ho3 (fun k hk=>by rcases hat3 with h | ⟨b,hb,hle⟩;exact(Rp.x03 HO2.o k (h ▸ hk)).1;rw[hb] at hk;injection hk with hk;have:=HP2.o.size;omega));clear ho3 hu3 hat3
    refine hK.out _ _ (fun _=>by first | exact HSK.o _ HP5.o | exact HSK.o _ HP4.o | exact HSK.o _ HP3.o | exact HSK.o _ HP2.o | exact HSK.o _ rU) (fun hHeld=>?_)
    replace hHeld:=hHeld (by decide)
    clear hK K
    (try simp only[Act.put,sA,sB,sC])
    refine oT 14 (fun K hK=>?_)
    go_simp
    (go_at_call 123;refine(x3f (Rp.x01 HPl.o HP3.o) (by omega)).mono ?_;rintro e w4 ⟨v4,rfl,ho4,hu4⟩;obtain⟨A4,c4,rfl,_,_⟩:=Rp.x0c ho4;have HO4:=mK ho4;have HU4:=mK hu4;have HP4:=mK (show Pure W.drew w4 from HP3.o.tt hu4);have HQ4:=mK (Rp.x01 HQl.o HP4.o);clear ho4 hu4)
    refine hK.out _ _ (fun _=>by first | exact HSK.o _ HP5.o | exact HSK.o _ HP4.o | exact HSK.o _ HP3.o | exact HSK.o _ HP2.o | exact HSK.o _ rU) (fun hHeld=>?_)
    replace hHeld:=hHeld (by decide)
    clear hK K
    (try simp only[Act.put,sA,sB,sC])
    refine oT 17 (fun K hK=>?_)
    refine Rp.x1g intR (c:=cr) HO4.o (Rp.x1q HQ4.o (fun _ _ h=>h)) (Fz:=fun _=>False) (fun _ h=>h.elim) (by rfl) _ _ 83 (.int .i64 0) 8 (by rfl) Tryz.underlying83 x3n rfl (by decide) (by decide) (by rfl) (by rfl) (by omega) ?_;intro v5 w5 ho5 hu5 hat5;obtain⟨A5,c5,rfl,_,_⟩:=Rp.x0c ho5;have HP5:=mK (show Pure W.drew w5 from Upd.trans HP4.o hu5 (fun k hk h=>by have:=(Rp.x03 HO4.o k h).1;have:=HP3.o.size;omega));have HO5:=mK (x3h (G:=fun k=>w3.heap.size<=k) ho5 (fun k hk=>by rcases hat5 with h | ⟨b,hb,hle⟩;exact(Rp.x03 HO4.o k (h ▸ hk)).1;rw[hb] at hk;injection hk with hk;have:=HU4.o.size;omega));have HO6:=mK (Rp.x0w (Rp.x0w (x31 HO3.o) HU4.o (fun _ _ _ h=>h)) hu5 (fun k _ hk he=>by have h1:=(Rp.x03 HO4.o k he).1;have h2:=(Rp.x03 HO3.o k hk).2;omega));have HS35:=mK (Nat.le_trans HU4.o.size hu5.size);clear ho5 hu5 hat5
    refine hK.out _ _ (fun _=>by first | exact HSK.o _ HP5.o | exact HSK.o _ HP4.o | exact HSK.o _ HP3.o | exact HSK.o _ HP2.o | exact HSK.o _ rU) (fun hHeld=>?_)
    replace hHeld:=hHeld (by decide)
    clear hK K
    (try simp only[Act.put,sA,sB,sC])
    refine zT 18 ?_
    refine oT 19 (fun K hK=>?_)
    go_simp
    refine hK.out _ _ (fun h=>absurd rfl h) (fun hHeld=>?_)
    clear hK K
    (try simp only[Act.put,sA,sB,sC])
    refine x0l (by kernel_rfl) ?_ _
    have HPW5:As (Pure w1 w5):=⟨HPW1.o.tt HP5.o⟩
    have hw5:=HPW5.o.size
    have hw35:=HS35.o
    have hw23:=HP3.o.size
    have HPB5:As (w5.heap[w.heap.size+2]?=some (.cells #[.bool false,.slice Af pf.length cf,.slice Al pl.length cl] 221 (0,0))):=⟨(HP5.o.block _ pl3 (fun h=>h)).trans HPB0.o⟩
    have HRB5:As (w5.heap[w.heap.size+1]?=some (.cells #[.bool false,.slice none 0 0,.slice none 0 0] 221 (0,0))):=⟨(HP5.o.block _ (by omega) (fun h=>h)).trans HRB0.o⟩
    obtain⟨A3',c3',e3,_,hr3⟩:=Rp.x0c HO6.o
    simp at e3
    obtain⟨rfl,rfl⟩:=e3
    obtain⟨A5',c5',e5,_,hr5⟩:=Rp.x0c (x31 HO5.o)
    simp at e5
    obtain⟨rfl,rfl⟩:=e5
    have HRW3:=mK hr3
    have HRW5:=mK hr5
    replace HO5:=mK (And.intro (fun q hq=>(Rp.x03 HO5.o q hq).1) HO5.o)
    have HFIN:As (Upd M w (((w5.setCell ⟨w.heap.size+2,0,none⟩ (.bool (glu g x s).2.none)).setCell ⟨w.heap.size+2,1,none⟩ (.slice A3 (pf.length+(glu g x s).2.first.length) c3)).setCell ⟨w.heap.size+2,2,none⟩ (.slice A5 (pl.length+(glu g x s).2.last.length) c5))):=⟨by
     have hu:=(Upd.trans (Upd.trans (HU01.o.mono (S':=fun k=>M' k\/k=w.heap.size+2) (fun _ _ h=>.inl h)) HP5.o (fun _ _ h=>h.elim)) ((x3e w5 (w.heap.size+2) (.bool (glu g x s).2.none) (.slice A3 (pf.length+(glu g x s).2.first.length) c3) (.slice A5 (pl.length+(glu g x s).2.last.length) c5)).mono (S':=fun k=>M' k\/k=w.heap.size+2) (fun _ _ h=>.inr h)) (S:=fun k=>M' k\/k=w.heap.size+2) (fun _ _ h=>h))
     refine Upd.trans HU2.o hu (fun q hq h=>?_)
     rcases h with h | rfl
     ·rcases HM2.o q h with h | h
      ·exact h
      ·omega
     ·omega⟩
    clear hr3 hr5
    go_wp2
    go_roundg g1
    case measure=>omega
    case rel=>
     refine⟨k+1,by have:=HK.o;omega,by go_num,⟨M1,tv1,fv1,vs1,(glu g x s).1,⟨false || (glu g x s).2.none,pf ++ (glu g x s).2.first,pl ++ (glu g x s).2.last⟩,A3,c3,A5,c5,?_,?_,HQB.o.len HLN.o,?_,?_,fun q hq=>HGG.o.1 q (HM1.o q hq),?_,?_,?_,?_,?_,?_⟩⟩
     ·rw[<- HCC.o,HDX.o,x2u]
     ·rw[HCX.o]
      exact Bd.next HBD.o HQB.o (glu g x s).1 rfl rfl _ ⟨fun a ha=>List.mem_append.1 ha,fun a ha=>List.mem_append.1 ha,by simp,by simp⟩
     ·intro y hy
      have:=glu_fb g x s (1000000000 - 80000 * Ex.cnts (l.drop k)) (fun z hz=>by have:=HFB2.o z hz;omega) (by omega) y hy
      omega
     ·exact(HMM.o.pure HPW5.o).upd (x3e w5 (w.heap.size+2) _ _ _) (fun q _ hq=>by subst hq;exact⟨by have:=HM.o.low mb HM.o.mbM;omega,HPBM.o⟩)
     ·exact HM12.o
     ·have:=set3 HPB5.o (.bool (glu g x s).2.none) (.slice A3 (pf.length+(glu g x s).2.first.length) c3) (.slice A5 (pl.length+(glu g x s).2.last.length) c5)
      simp only[List.length_append,Bool.false_or,Bool.true_or]
      exact this
     ·exact((x3e w5 (w.heap.size+2) _ _ _).block _ (by have:=HPW5.o.size;omega) (by omega)).trans HRB5.o
     ·refine Rp.x09 (Rp.x0f (HRW3.o) (x3e w5 (w.heap.size+2) _ _ _) (fun q _ hq he=>?_)) (fun q hq=>?_)
      ·have:=(Rp.x03 HO3.o q hq).1;omega
      ·have h1:=(Rp.x03 HO3.o q hq).1
       exact⟨by omega,fun hM=>by have:=(HMM.o.low q hM).2;omega⟩
     ·refine Rp.x09 (Rp.x0f (HRW5.o) (x3e w5 (w.heap.size+2) _ _ _) (fun q _ hq he=>?_)) (fun q hq=>?_)
      ·have:=HO5.o.1 q hq;omega
      ·have h1:=HO5.o.1 q hq
       exact⟨by omega,fun hM=>by have:=(HMM.o.low q hM).2;omega⟩
     ·exact HFIN.o
   ·generalize hW:w1.alloc (.cells #[.bool (glu g x s).2.none,.slice Aq (glu g x s).2.first.length cq,.slice Ar (glu g x s).2.last.length cr] 221)=W
    have HPW1:As (Pure w1 W.drew):=⟨hW ▸ (Upd.alloc1 (fun _=>False) w1 _).drew⟩
    have hWs:W.drew.heap.size=w1.heap.size+1:=by subst hW;simp
    have hqb:W.drew.heap[w1.heap.size]?=some (.cells #[.bool (glu g x s).2.none,.slice Aq (glu g x s).2.first.length cq,.slice Ar (glu g x s).2.last.length cr] 221 (0,0)):=by subst hW;exact heap_alloc_new w1 _
    clear hW
    have hlow0:=HM.o.low mb HM.o.mbM
    have hw01:=HU2.o.size
    have hw12:wr.heap.size+1<=w1.heap.size:=by have:=HU1.o.size;simpa using this
    have hnpM:¬ M' (w.heap.size+2):=fun h=>by rcases HM2.o _ h with h | h;(have:=(HM.o.low _ h).2;omega);omega
    have hnrM:¬ M' (w.heap.size+1):=fun h=>by rcases HM2.o _ h with h | h;(have:=(HM.o.low _ h).2;omega);omega
    have HU01:As (Upd M' wr W.drew):=⟨Upd.trans (Upd.trans (Upd.alloc1 M' wr _) HU1.o (fun _ _ h=>h)) HPW1.o (fun _ _ h=>h.elim)⟩
    have hpb:W.drew.heap[w.heap.size+2]?=some (.cells #[.bool true,.slice Af pf.length cf,.slice Al pl.length cl] 221 (0,0)):=(HU01.o.block _ hprl hnpM).trans HPB.o
    have hrb:W.drew.heap[w.heap.size+1]?=some (.cells #[.bool false,.slice none 0 0,.slice none 0 0] 221 (0,0)):=(HU01.o.block _ (by omega) hnrM).trans HRB.o
    have HPf:=mK (Rp.x0f HF2.o HU01.o (fun _ _ h=>h.2))
    have HPl:=mK (Rp.x0f HL2.o HU01.o (fun _ _ h=>h.2))
    have HQf:=mK (Rp.x01 HQF.o HPW1.o)
    have HQl:=mK (Rp.x01 HQL.o HPW1.o)
    have HM12:As (∀ q,M1 q->M q\/w.heap.size+3<=q):=⟨fun q hq=>by
     rcases HGG.o.2 q hq with h | h
     ·exact HM2.o q h
     ·have h1:=h.1
      simp at h1
      omega⟩
    have HPBM:As (¬ M1 (w.heap.size+2)):=⟨fun h=>by rcases HM12.o _ h with h | h;(have:=(HM.o.low _ h).2;omega);omega⟩
    have HPB0:=mK hpb
    have HRB0:=mK hrb
    obtain⟨⟨pc0,pc1,pc2⟩,pg0,pg1,pg2,pl3⟩:=cells3 hpb
    obtain⟨⟨qc0,qc1,qc2⟩,_,_,_,ql3⟩:=cells3 hqb
    clear hpb hrb hqb
    have HSK:As (∀ v,Pure W.drew v->v.cell? ⟨w.heap.size+2,0,none⟩=some (.bool true)/\v.cell? ⟨w.heap.size+2,1,none⟩=some (.slice Af pf.length cf)/\v.cell? ⟨w.heap.size+2,2,none⟩=some (.slice Al pl.length cl)/\v.cell? ⟨w1.heap.size,0,none⟩=some (.bool (glu g x s).2.none)/\v.cell? ⟨w1.heap.size,1,none⟩=some (.slice Aq (glu g x s).2.first.length cq)/\v.cell? ⟨w1.heap.size,2,none⟩=some (.slice Ar (glu g x s).2.last.length cr)/\v.frozen? ⟨w.heap.size+2,0,none⟩=false/\v.frozen? ⟨w.heap.size+2,1,none⟩=false/\v.frozen? ⟨w.heap.size+2,2,none⟩=false):=⟨fun v hv=>⟨(hv.cell pl3 (fun h=>h)).trans pc0,(hv.cell pl3 (fun h=>h)).trans pc1,(hv.cell pl3 (fun h=>h)).trans pc2,(hv.cell ql3 (fun h=>h)).trans qc0,(hv.cell ql3 (fun h=>h)).trans qc1,(hv.cell ql3 (fun h=>h)).trans qc2,(hv.frozen pl3 (fun h=>h)).trans pg0,(hv.frozen pl3 (fun h=>h)).trans pg1,(hv.frozen pl3 (fun h=>h)).trans pg2⟩⟩
    clear pc0 pc1 pc2 qc0 qc1 qc2 pg0 pg1 pg2
    refine x0m (P:=Tryz.prog) (fun v=>v.cell? ⟨w.heap.size+2,0,none⟩=some (.bool true)/\v.cell? ⟨w.heap.size+2,1,none⟩=some (.slice Af pf.length cf)/\v.cell? ⟨w.heap.size+2,2,none⟩=some (.slice Al pl.length cl)/\v.cell? ⟨w1.heap.size,0,none⟩=some (.bool (glu g x s).2.none)/\v.cell? ⟨w1.heap.size,1,none⟩=some (.slice Aq (glu g x s).2.first.length cq)/\v.cell? ⟨w1.heap.size,2,none⟩=some (.slice Ar (glu g x s).2.last.length cr)/\v.frozen? ⟨w.heap.size+2,0,none⟩=false/\v.frozen? ⟨w.heap.size+2,1,none⟩=false/\v.frozen? ⟨w.heap.size+2,2,none⟩=false) 19 (by kernel_rfl) ?_ (fun hHeld=>?_)
    ·first | exact HSK.o _ HP5.o | exact HSK.o _ HP4.o | exact HSK.o _ HP3.o | exact HSK.o _ HP2.o | exact HSK.o _ rU
    refine zT 0 ?_
    refine zT 1 ?_
    refine zT 2 ?_
    refine x1e (i:=3) (v:=undef) (by exact opAt rfl) (by kernel_rfl) (by kernel_rfl) (by kernel_rfl) (by kernel_rfl) (by exact fun _ _ _ h=>h) (Or.inr ⟨by rfl,by rfl⟩) (by assumption) ?_
    (try simp only[Act.put,sA,sB,sC])
    refine x1e (i:=4) (v:=undef) (by exact opAt rfl) (by kernel_rfl) (by kernel_rfl) (by kernel_rfl) (by kernel_rfl) (by exact fun _ _ _ h=>h) (Or.inr ⟨by rfl,by rfl⟩) (by assumption) ?_
    (try simp only[Act.put,sA,sB,sC])
    refine zT 5 ?_
    refine zT 6 ?_
    refine zT 7 ?_
    refine zT 9 ?_
    refine zT 10 ?_
    (try simp only[Act.put,sA,sB,sC])
    refine zT 12 ?_
    refine zT 13 ?_
    refine zT 15 ?_
    refine zT 16 ?_
    (try simp only[Act.put,sA,sB,sC])
    refine oT 8 (fun K hK=>?_)
    go_simp
    (go_at_call 123;refine(x3f HPf.o (by omega)).mono ?_;rintro e w2 ⟨v2,rfl,ho2,hu2⟩;obtain⟨A2,c2,rfl,_,_⟩:=Rp.x0c ho2;have HO2:=mK ho2;have HP2:=mK (show Pure W.drew w2 from hu2);have HQ2:=mK (Rp.x01 HQf.o HP2.o);clear ho2 hu2)
    refine hK.out _ _ (fun _=>by first | exact HSK.o _ HP5.o | exact HSK.o _ HP4.o | exact HSK.o _ HP3.o | exact HSK.o _ HP2.o | exact HSK.o _ rU) (fun hHeld=>?_)
    replace hHeld:=hHeld (by decide)
    clear hK K
    (try simp only[Act.put,sA,sB,sC])
    refine oT 11 (fun K hK=>?_)
    refine Rp.x1g intR (c:=cq) HO2.o (Rp.x1q HQ2.o (fun _ _ h=>h)) (Fz:=fun _=>False) (fun _ h=>h.elim) (by rfl) _ _ 83 (.int .i64 0) 8 (by rfl) Tryz.underlying83 x3n rfl (by decide) (by decide) (by rfl) (by rfl) (by omega) ?_;intro v3 w3 ho3 hu3 hat3;obtain⟨A3,c3,rfl,_,_⟩:=Rp.x0c ho3;have HP3:=mK (show Pure W.drew w3 from Upd.trans HP2.o hu3 (fun k hk h=>by have:=(Rp.x03 HO2.o k h).1;omega));have HO3:=mK (x3h (G:=fun k=>W.drew.heap.size<=k) ho3 (fun k hk=>by rcases hat3 with h | ⟨b,hb,hle⟩;exact(Rp.x03 HO2.o k (h ▸ hk)).1;rw[hb] at hk;injection hk with hk;have:=HP2.o.size;omega));clear ho3 hu3 hat3
    refine hK.out _ _ (fun _=>by first | exact HSK.o _ HP5.o | exact HSK.o _ HP4.o | exact HSK.o _ HP3.o | exact HSK.o _ HP2.o | exact HSK.o _ rU) (fun hHeld=>?_)
    replace hHeld:=hHeld (by decide)
    clear hK K
    (try simp only[Act.put,sA,sB,sC])
    refine oT 14 (fun K hK=>?_)
    go_simp
    (go_at_call 123;refine(x3f (Rp.x01 HPl.o HP3.o) (by omega)).mono ?_;rintro e w4 ⟨v4,rfl,ho4,hu4⟩;obtain⟨A4,c4,rfl,_,_⟩:=Rp.x0c ho4;have HO4:=mK ho4;have HU4:=mK hu4;have HP4:=mK (show Pure W.drew w4 from HP3.o.tt hu4);have HQ4:=mK (Rp.x01 HQl.o HP4.o);clear ho4 hu4)
    refine hK.out _ _ (fun _=>by first | exact HSK.o _ HP5.o | exact HSK.o _ HP4.o | exact HSK.o _ HP3.o | exact HSK.o _ HP2.o | exact HSK.o _ rU) (fun hHeld=>?_)
    replace hHeld:=hHeld (by decide)
    clear hK K
    (try simp only[Act.put,sA,sB,sC])
    refine oT 17 (fun K hK=>?_)
    refine Rp.x1g intR (c:=cr) HO4.o (Rp.x1q HQ4.o (fun _ _ h=>h)) (Fz:=fun _=>False) (fun _ h=>h.elim) (by rfl) _ _ 83 (.int .i64 0) 8 (by rfl) Tryz.underlying83 x3n rfl (by decide) (by decide) (by rfl) (by rfl) (by omega) ?_;intro v5 w5 ho5 hu5 hat5;obtain⟨A5,c5,rfl,_,_⟩:=Rp.x0c ho5;have HP5:=mK (show Pure W.drew w5 from Upd.trans HP4.o hu5 (fun k hk h=>by have:=(Rp.x03 HO4.o k h).1;have:=HP3.o.size;omega));have HO5:=mK (x3h (G:=fun k=>w3.heap.size<=k) ho5 (fun k hk=>by rcases hat5 with h | ⟨b,hb,hle⟩;exact(Rp.x03 HO4.o k (h ▸ hk)).1;rw[hb] at hk;injection hk with hk;have:=HU4.o.size;omega));have HO6:=mK (Rp.x0w (Rp.x0w (x31 HO3.o) HU4.o (fun _ _ _ h=>h)) hu5 (fun k _ hk he=>by have h1:=(Rp.x03 HO4.o k he).1;have h2:=(Rp.x03 HO3.o k hk).2;omega));have HS35:=mK (Nat.le_trans HU4.o.size hu5.size);clear ho5 hu5 hat5
    refine hK.out _ _ (fun _=>by first | exact HSK.o _ HP5.o | exact HSK.o _ HP4.o | exact HSK.o _ HP3.o | exact HSK.o _ HP2.o | exact HSK.o _ rU) (fun hHeld=>?_)
    replace hHeld:=hHeld (by decide)
    clear hK K
    (try simp only[Act.put,sA,sB,sC])
    refine zT 18 ?_
    refine oT 19 (fun K hK=>?_)
    go_simp
    refine hK.out _ _ (fun h=>absurd rfl h) (fun hHeld=>?_)
    clear hK K
    (try simp only[Act.put,sA,sB,sC])
    refine x0l (by kernel_rfl) ?_ _
    have HPW5:As (Pure w1 w5):=⟨HPW1.o.tt HP5.o⟩
    have hw5:=HPW5.o.size
    have hw35:=HS35.o
    have hw23:=HP3.o.size
    have HPB5:As (w5.heap[w.heap.size+2]?=some (.cells #[.bool true,.slice Af pf.length cf,.slice Al pl.length cl] 221 (0,0))):=⟨(HP5.o.block _ pl3 (fun h=>h)).trans HPB0.o⟩
    have HRB5:As (w5.heap[w.heap.size+1]?=some (.cells #[.bool false,.slice none 0 0,.slice none 0 0] 221 (0,0))):=⟨(HP5.o.block _ (by omega) (fun h=>h)).trans HRB0.o⟩
    obtain⟨A3',c3',e3,_,hr3⟩:=Rp.x0c HO6.o
    simp at e3
    obtain⟨rfl,rfl⟩:=e3
    obtain⟨A5',c5',e5,_,hr5⟩:=Rp.x0c (x31 HO5.o)
    simp at e5
    obtain⟨rfl,rfl⟩:=e5
    have HRW3:=mK hr3
    have HRW5:=mK hr5
    replace HO5:=mK (And.intro (fun q hq=>(Rp.x03 HO5.o q hq).1) HO5.o)
    have HFIN:As (Upd M w (((w5.setCell ⟨w.heap.size+2,0,none⟩ (.bool true)).setCell ⟨w.heap.size+2,1,none⟩ (.slice A3 (pf.length+(glu g x s).2.first.length) c3)).setCell ⟨w.heap.size+2,2,none⟩ (.slice A5 (pl.length+(glu g x s).2.last.length) c5))):=⟨by
     have hu:=(Upd.trans (Upd.trans (HU01.o.mono (S':=fun k=>M' k\/k=w.heap.size+2) (fun _ _ h=>.inl h)) HP5.o (fun _ _ h=>h.elim)) ((x3e w5 (w.heap.size+2) (.bool true) (.slice A3 (pf.length+(glu g x s).2.first.length) c3) (.slice A5 (pl.length+(glu g x s).2.last.length) c5)).mono (S':=fun k=>M' k\/k=w.heap.size+2) (fun _ _ h=>.inr h)) (S:=fun k=>M' k\/k=w.heap.size+2) (fun _ _ h=>h))
     refine Upd.trans HU2.o hu (fun q hq h=>?_)
     rcases h with h | rfl
     ·rcases HM2.o q h with h | h
      ·exact h
      ·omega
     ·omega⟩
    clear hr3 hr5
    go_wp2
    go_roundg g1
    case measure=>omega
    case rel=>
     refine⟨k+1,by have:=HK.o;omega,by go_num,⟨M1,tv1,fv1,vs1,(glu g x s).1,⟨true || (glu g x s).2.none,pf ++ (glu g x s).2.first,pl ++ (glu g x s).2.last⟩,A3,c3,A5,c5,?_,?_,HQB.o.len HLN.o,?_,?_,fun q hq=>HGG.o.1 q (HM1.o q hq),?_,?_,?_,?_,?_,?_⟩⟩
     ·rw[<- HCC.o,HDX.o,x2u]
     ·rw[HCX.o]
      exact Bd.next HBD.o HQB.o (glu g x s).1 rfl rfl _ ⟨fun a ha=>List.mem_append.1 ha,fun a ha=>List.mem_append.1 ha,by simp,by simp⟩
     ·intro y hy
      have:=glu_fb g x s (1000000000 - 80000 * Ex.cnts (l.drop k)) (fun z hz=>by have:=HFB2.o z hz;omega) (by omega) y hy
      omega
     ·exact(HMM.o.pure HPW5.o).upd (x3e w5 (w.heap.size+2) _ _ _) (fun q _ hq=>by subst hq;exact⟨by have:=HM.o.low mb HM.o.mbM;omega,HPBM.o⟩)
     ·exact HM12.o
     ·have:=set3 HPB5.o (.bool true) (.slice A3 (pf.length+(glu g x s).2.first.length) c3) (.slice A5 (pl.length+(glu g x s).2.last.length) c5)
      simp only[List.length_append,Bool.false_or,Bool.true_or]
      exact this
     ·exact((x3e w5 (w.heap.size+2) _ _ _).block _ (by have:=HPW5.o.size;omega) (by omega)).trans HRB5.o
     ·refine Rp.x09 (Rp.x0f (HRW3.o) (x3e w5 (w.heap.size+2) _ _ _) (fun q _ hq he=>?_)) (fun q hq=>?_)
      ·have:=(Rp.x03 HO3.o q hq).1;omega
      ·have h1:=(Rp.x03 HO3.o q hq).1
       exact⟨by omega,fun hM=>by have:=(HMM.o.low q hM).2;omega⟩
     ·refine Rp.x09 (Rp.x0f (HRW5.o) (x3e w5 (w.heap.size+2) _ _ _) (fun q _ hq he=>?_)) (fun q hq=>?_)
      ·have:=HO5.o.1 q hq;omega
      ·have h1:=HO5.o.1 q hq
       exact⟨by omega,fun hM=>by have:=(HMM.o.low q hM).2;omega⟩
     ·exact HFIN.o
  ·have hkl:k=l.length:=by omega
   subst hkl
   rw[List.drop_length] at HC
   obtain⟨Af,cf,Al,cl,hpb,hrb,hend⟩:=HC.o.done (by have:=HM.o.low mb HM.o.mbM;omega) (fun k hk=>(HM.o.low k hk).2) (fun s p=>by rw[x2u])
   obtain⟨⟨p0,p1,p2⟩,_,_,_,_⟩:=cells3 hpb
   obtain⟨⟨r0,r1,r2⟩,f0,f1,f2,_⟩:=cells3 hrb
   have HE:=mK hend
   rw[<- HV.o] at HE p0 p1 p2
   clear hpb hrb hend HC
   go_wp2
   obtain⟨he1,he2⟩:=HE.o _ rfl
   exact x4v (rb:=w.heap.size+1) rfl he1 rfl he2
/-- Between the stores of one round: only the box of what is reckoned has turned since W. -/
structure Stg (W V:World) (R:Nat->Prop) (pb qb:Nat) (pn:Bool) (pf pl:List Int) (Af:Option Addr) (cf:Nat) (Al:Option Addr) (cl:Nat) (qn:Bool) (qf ql:List Int) (Aq:Option Addr) (cq:Nat) (Ar:Option Addr) (cr:Nat):Prop where
 upd:Upd (fun k=>k=pb) W V
 pbx:V.heap[pb]?=some (.cells #[.bool pn,.slice Af pf.length cf,.slice Al pl.length cl] 221 (0,0))
 qbx:V.heap[qb]?=some (.cells #[.bool qn,.slice Aq qf.length cq,.slice Ar ql.length cr] 221 (0,0))
 ne:qb ≠ pb
 rf:intR.row V R Af pf
 rl:intR.row V R Al pl
 rqf:intR.row V R Aq qf
 rql:intR.row V R Ar ql
 o:¬ R pb
namespace Stg
variable {W V w4:World} {R:Nat->Prop} {pb qb:Nat} {pn:Bool} {pf pl:List Int} {Af:Option Addr} {cf:Nat} {Al:Option Addr} {cl:Nat} {qn:Bool} {qf ql:List Int} {Aq:Option Addr} {cq:Nat} {Ar:Option Addr} {cr:Nat}
theorem pure (h:Stg W V R pb qb pn pf pl Af cf Al cl qn qf ql Aq cq Ar cr) (hu:Pure V w4):Stg W w4 R pb qb pn pf pl Af cf Al cl qn qf ql Aq cq Ar cr:=
 ⟨Upd.trans h.upd hu (fun _ _ h=>h.elim),(hu.block _ (lB h.pbx) (fun h=>h)).trans h.pbx,(hu.block _ (lB h.qbx) (fun h=>h)).trans h.qbx,h.ne,Rp.x01 h.rf hu,Rp.x01 h.rl hu,Rp.x01 h.rqf hu,Rp.x01 h.rql hu,h.o⟩
theorem moved (h:Stg W V R pb qb pn pf pl Af cf Al cl qn qf ql Aq cq Ar cr) {i:Nat} {v:Value} {A:Option Addr} {xs:List Int} (hr:intR.row V R A xs):intR.row (V.setCell ⟨pb,i,none⟩ v) R A xs:=
 Rp.x0f hr (Upd.x1v (S:=fun k=>k=pb) V (p:=⟨pb,i,none⟩) rfl v) (fun k _ hk he=>h.o (he ▸ hk))
theorem first (h:Stg W V R pb qb pn pf pl Af cf Al cl qn qf ql Aq cq Ar cr) {A3:Option Addr} {c3:Nat} {xs:List Int} (hr:intR.row V R A3 xs):Stg W (V.setCell ⟨pb,1,none⟩ (.slice A3 xs.length c3)) R pb qb pn xs pl A3 c3 Al cl qn qf ql Aq cq Ar cr:=
 ⟨h.upd.setCell (p:=⟨pb,1,none⟩) (fun _=>rfl) _,by simp[World.setCell,Array.getElem?_modify,h.pbx],(Below.heap_setCell _ _ _ _ h.ne).trans h.qbx,h.ne,h.moved hr,h.moved h.rl,h.moved h.rqf,h.moved h.rql,h.o⟩
theorem last (h:Stg W V R pb qb pn pf pl Af cf Al cl qn qf ql Aq cq Ar cr) {A3:Option Addr} {c3:Nat} {xs:List Int} (hr:intR.row V R A3 xs):Stg W (V.setCell ⟨pb,2,none⟩ (.slice A3 xs.length c3)) R pb qb pn pf xs Af cf A3 c3 qn qf ql Aq cq Ar cr:=
 ⟨h.upd.setCell (p:=⟨pb,2,none⟩) (fun _=>rfl) _,by simp[World.setCell,Array.getElem?_modify,h.pbx],(Below.heap_setCell _ _ _ _ h.ne).trans h.qbx,h.ne,h.moved h.rf,h.moved hr,h.moved h.rqf,h.moved h.rql,h.o⟩
theorem noneB (h:Stg W V R pb qb pn pf pl Af cf Al cl qn qf ql Aq cq Ar cr) (b:Bool):Stg W (V.setCell ⟨pb,0,none⟩ (.bool b)) R pb qb b pf pl Af cf Al cl qn qf ql Aq cq Ar cr:=
 ⟨h.upd.setCell (p:=⟨pb,0,none⟩) (fun _=>rfl) _,by simp[World.setCell,Array.getElem?_modify,h.pbx],(Below.heap_setCell _ _ _ _ h.ne).trans h.qbx,h.ne,h.moved h.rf,h.moved h.rl,h.moved h.rqf,h.moved h.rql,h.o⟩
theorem cells (h:Stg W V R pb qb pn pf pl Af cf Al cl qn qf ql Aq cq Ar cr) {v:World} (hv:Pure V v):v.cell? ⟨pb,0,none⟩=some (.bool pn)/\v.cell? ⟨pb,1,none⟩=some (.slice Af pf.length cf)/\v.cell? ⟨pb,2,none⟩=some (.slice Al pl.length cl)/\v.cell? ⟨qb,0,none⟩=some (.bool qn)/\v.cell? ⟨qb,1,none⟩=some (.slice Aq qf.length cq)/\v.cell? ⟨qb,2,none⟩=some (.slice Ar ql.length cr)/\v.frozen? ⟨pb,0,none⟩=false/\v.frozen? ⟨pb,1,none⟩=false/\v.frozen? ⟨pb,2,none⟩=false:=by
 have h':=h.pure hv
 obtain⟨⟨c0,c1,c2⟩,f0,f1,f2,_⟩:=cells3 h'.pbx
 obtain⟨⟨d0,d1,d2⟩,_,_,_,_⟩:=cells3 h'.qbx
 exact⟨c0,c1,c2,d0,d1,d2,f0,f1,f2⟩
end Stg
/-- A row of the call's own, at blocks beyond a bound, as a row that is read. -/
theorem row_new {w:World} {e:Nat} {F R:Nat->Prop} {A:Option Addr} {n c:Nat} {xs:List Int} (h:intR.own e w F (.slice A n c) xs) (hR:∀ k,(Value.slice A n c).ownBlock=some k->R k):intR.row w R A xs:=by
 obtain⟨A',c',he,_,hr⟩:=Rp.x0c (x31 h)
 simp at he
 obtain⟨rfl,_,rfl⟩:=he
 exact Rp.x09 hr hR
theorem build_seq (nm:ByteArray) (l:List Ex) (HI:∀ x ∈ l,x44 x) (hcnt:Ex.cnts l<=199):x44 (.mk 2 nm l):=by
 intro w B M F G mb s b0 b1 b2 tv fv vs A Ag c cg g hsl0 hm hr hF hg hG hgl hs hfb
 obtain⟨s1,s2⟩:=s
 have HII:=mK HI
 have HM:=mK hm
 have HR:=mK hr
 have HF:=mK hF
 have HG:=mK hg
 have HGB:=mK hG
 simp only at hsl0
 have hlb:=(hm.low mb hm.mbM)
 have hc1:(Ex.mk 2 nm l).cnt=1+Ex.cnts l:=by simp[Ex.cnt]
 rw[hc1] at hs hfb
 simp only at hs hfb
 have hll:l.length<=199:=by
  have h:l.length<=Ex.cnts l:=by
   clear HII HI HR hr hc1 hs hfb hcnt
   induction l with
   | nil=>simp
   | cons x r ih=>have:=x.x3r;simp only[Ex.cnts,List.length_cons];omega
  omega
 have HV:=mK (show glu g (.mk 2 nm l) (s1,s2)=x2v g l (s1,s2) ⟨true,[],[]⟩ by rw[glu];rfl)
 have HFB:=mK (show ∀ x ∈ s2,x.length+80000 * Ex.cnts l<=1000000000 from fun x hx=>by have:=hfb x hx;omega)
 have HS:=mK hsl0
 clear hm hr hF hg hG hfb HI hc1 hsl0
 show Calls Tryz.prog 165 #[.pointer (some ⟨mb,0,none⟩),.agg #[.int .i64 2,.string nm,.slice A l.length c],.slice Ag g.length cg] w _
 go_enter Tryz.func165,Tryz.ntmps165
 go_wp2
 go_loopg [97] l.length (fun gg i wr=>∃ k:Nat,k+gg=l.length/\i=.int .i64 k/\As (LoopRel (x2v g) (x2v g l (s1,s2) ⟨true,[],[]⟩) w wr B M mb b0 b1 b2 (s1,s2) (l.drop k) (Ex.cnts (l.take k))))
 case atStart=>
  refine⟨0,by omega,rfl,⟨M,tv,fv,vs,(s1,s2),⟨true,[],[]⟩,none,0,none,0,rfl,Bd.start _ _,HS.o,HFB.o,HM.o.pure ((aU.alloc _).alloc _),fun _ h=>h,fun _ h=>.inl h,?_,?_,.inl rfl,.inl rfl,(aU.alloc _).alloc _⟩⟩
  ·have:=heap_alloc_new ((w.alloc (.cells #[.int .i64 2,.string nm,.slice A l.length c] 92)).alloc (.cells #[.bool false,.slice none 0 0,.slice none 0 0] 221)) (.cells #[.bool true,.slice none 0 0,.slice none 0 0] 221)
   simpa using this
  ·exact(Below.heap_alloc _ _ _ (by simp)).trans (heap_alloc2_new w _ _)
 case round=>
  obtain⟨k,hk,rfl,HC⟩:=hrel
  by_cases hlt:k < l.length
  ·obtain⟨x,hx⟩:=gS hlt
   obtain⟨M',tv',fv',vs',s,⟨pn,pf,pl⟩,Af,cf,Al,cl,hc,hbd,hlen,hfb2,hm2,hM1,hM2,hpb,hrb,hf2,hl2,hu2⟩:=HC.o
   have hmM:=fun k hk=>(HM.o.low k hk)
   have hrw:=Rp.x0f HR.o hu2 (fun k _ hF hM=>by have:=HF.o k hF;have:=(hmM k hM).1;omega)
   have hgw:=Rp.x0f HG.o hu2 (fun k _ hF hM=>by have:=HGB.o k hF;have:=(hmM k hM).1;omega)
   obtain⟨b,o,Ax,cx,rfl,hFb,hbl,d0,d1,d2,hle1,hrow1⟩:=ex_at hrw hx
   obtain⟨g1,rfl⟩:=sC1 (by omega:0 < gk)
   have hxm:=List.mem_of_getElem? hx
   have hdx:=x53 hx
   have hcx:Ex.cnts (l.take (k+1))=Ex.cnts (l.take k)+x.cnt:=Ex.cnts_succ hx
   have hsum:Ex.cnts (l.take k)+Ex.cnts (l.drop k)=Ex.cnts l:=by rw[<- Ex.x64,List.take_append_drop]
   have hdc:Ex.cnts (l.drop k)=x.cnt+Ex.cnts (l.drop (k+1)):=by rw[hdx];simp[Ex.cnts]
   have hbhi:=hbd.hi
   have hbfl:=hbd.fl
   have hbll:=hbd.ll
   simp only at hbhi hbfl hbll
   have HBC:=mK (fun (wz:World) (hz:Pure wr wz)=>HII.o x hxm wz B M' F G mb s b0 b1 b2 tv' fv' vs' Ax Ag cx cg g hlen (hm2.pure hz) (Rp.x01 hrow1 hz) HF.o (Rp.x01 hgw hz) HGB.o hgl (by omega) (fun y hy=>by have:=hfb2 y hy;omega))
   have hql:=glu_bd g x s
   have hqfl:=hql.fl
   have hqll:=hql.ll
   have HBD:=mK hbd
   have HQB:=mK hql
   have HLN:=mK hlen
   have HFB2:=mK hfb2
   have HCC:=mK hc
   have HM1:=mK hM1
   have HM2:=mK hM2
   have HPB:=mK hpb
   have HRB:=mK hrb
   have HF2:=mK hf2
   have HL2:=mK hl2
   have HU2:=mK hu2
   have HLOW:=mK (fun k hk=>hm2.low k hk)
   have HK:=mK hk
   have HDX:=mK hdx
   have HCX:=mK hcx
   have hprl:=lB hpb
   clear hbd hql hlen hfb2 hc hM1 hM2 hpb hrb hf2 hl2 hu2 hm2 hrw hgw hrow1 hx hk hdx hcx HC hmM
   go_wp2_with (go_at_call 165;refine(HBC.o _ aU).mono ?_;rintro e w1 ⟨Aq,cq,Ar,cr,M1,tv1,fv1,vs1,rfl,hm1,hg1,hqf,hql,hu1⟩;have HMM:=mK hm1;have HGG:=mK hg1;have HQF:=mK hqf;have HQL:=mK hql;have HU1:=mK hu1;clear hm1 hg1 hqf hql hu1;apply As.o)
   refine⟨?_⟩
   have hlow0:=HM.o.low mb HM.o.mbM
   have hw01:=HU2.o.size
   have hw12:wr.heap.size+1<=w1.heap.size:=by have:=HU1.o.size;simpa using this
   have hnpM:¬ M' (w.heap.size+2):=fun h=>by rcases HM2.o _ h with h | h;(have:=(HM.o.low _ h).2;omega);omega
   have hnrM:¬ M' (w.heap.size+1):=fun h=>by rcases HM2.o _ h with h | h;(have:=(HM.o.low _ h).2;omega);omega
   have HU01:As (Upd M' wr w1):=⟨Upd.trans (Upd.alloc1 M' wr _) HU1.o (fun _ _ h=>h)⟩
   have hpb:w1.heap[w.heap.size+2]?=some (.cells #[.bool pn,.slice Af pf.length cf,.slice Al pl.length cl] 221 (0,0)):=(HU01.o.block _ hprl hnpM).trans HPB.o
   have hrb:w1.heap[w.heap.size+1]?=some (.cells #[.bool false,.slice none 0 0,.slice none 0 0] 221 (0,0)):=(HU01.o.block _ (by omega) hnrM).trans HRB.o
   have HPf:=mK (Rp.x0f (Rp.x1d (G:=fun q=>(w.heap.size+3<=q/\¬ M' q)/\q < wr.heap.size) (fun q hq hl=>⟨⟨hq,hl⟩,hl,rfl⟩) HF2.o) HU01.o (fun _ _ h=>h.1.2))
   have HPl:=mK (Rp.x0f (Rp.x1d (G:=fun q=>(w.heap.size+3<=q/\¬ M' q)/\q < wr.heap.size) (fun q hq hl=>⟨⟨hq,hl⟩,hl,rfl⟩) HL2.o) HU01.o (fun _ _ h=>h.1.2))
   have HQf:=mK (Rp.x1d (G:=fun q=>((wr.alloc (.cells #[.int .i64 x.k,.string x.name,.slice Ax x.l.length cx] 92)).heap.size<=q/\¬ M1 q)/\q < w1.heap.size) (fun q hq hl=>⟨⟨hq,hl⟩,hl,rfl⟩) HQF.o)
   have HQl:=mK (Rp.x1d (G:=fun q=>((wr.alloc (.cells #[.int .i64 x.k,.string x.name,.slice Ax x.l.length cx] 92)).heap.size<=q/\¬ M1 q)/\q < w1.heap.size) (fun q hq hl=>⟨⟨hq,hl⟩,hl,rfl⟩) HQL.o)
   have hal:(wr.alloc (.cells #[.int .i64 x.k,.string x.name,.slice Ax x.l.length cx] 92)).heap.size=wr.heap.size+1:=by simp
   have HM12:As (∀ q,M1 q->M q\/w.heap.size+3<=q):=⟨fun q hq=>by
    rcases HGG.o.2 q hq with h | h
    ·exact HM2.o q h
    ·have h1:=h.1
     omega⟩
   have HPBM:As (¬ M1 (w.heap.size+2)):=⟨fun h=>by rcases HM12.o _ h with h | h;(have:=(HM.o.low _ h).2;omega);omega⟩
   have HRBM:As (¬ M1 (w.heap.size+1)):=⟨fun h=>by rcases HM12.o _ h with h | h;(have:=(HM.o.low _ h).2;omega);omega⟩
   have HPB0:=mK hpb
   have HRB0:=mK hrb
   obtain⟨⟨pc0,pc1,pc2⟩,pg0,pg1,pg2,pl3⟩:=cells3 hpb
   have HFJ:=mK (fun (y:List Int) (hy:y ∈ (glu g x s).1.2)=>glu_fb g x s (1000000000 - 80000 * Ex.cnts (l.drop k)) (fun z hz=>by have:=HFB2.o z hz;omega) (by omega) y hy)
   have hqlen:=HQB.o.len HLN.o
   have hqhi:=HQB.o.hi
   have hqlo:=HQB.o.lo
   have HRNG:=mK (fun (a:Int) (ha:a ∈ pl)=>show 0<=a/\a < ((glu g x s).1.2.length:Int) by have h1:=HBD.o.last a ha;omega)
   clear hpb hrb
   have HJ:=mK (join_calls (cl:=cl) (cf:=cq) (HMM.o.pure (Upd.alloc1 (fun _=>False) w1 (.cells #[.bool (glu g x s).2.none,.slice Aq (glu g x s).2.first.length cq,.slice Ar (glu g x s).2.last.length cr] 221))) (Rp.x01 HPl.o (Upd.alloc1 (fun _=>False) w1 _)) (Rp.x01 HQf.o (Upd.alloc1 (fun _=>False) w1 _))
    (fun q hq _ hM=>by rcases HGG.o.2 q hM with h | h;exact hq.1.2 h;have:=h.1;omega) (fun q hq _ hM=>hq.1.2 hM) HRNG.o (by omega) (by omega) (by omega) (fun y hy=>by have:=HFJ.o y hy;omega))
   go_wp2_with (go_at_call 193;refine HJ.o.mono ?_;rintro e w2 ⟨rfl,M2,fv2,vs2,hm2,hg2,hu2⟩;have HMJ:=mK hm2;have HGJ:=mK hg2;have HUJ:=mK hu2;clear hm2 hg2 hu2;apply As.o)
   refine⟨?_⟩
   have hw23:w1.heap.size+1<=w2.heap.size:=by have:=HUJ.o.size;simpa using this
   have hal2:(w1.alloc (.cells #[.bool (glu g x s).2.none,.slice Aq (glu g x s).2.first.length cq,.slice Ar (glu g x s).2.last.length cr] 221)).heap.size=w1.heap.size+1:=by simp
   have HM1R:As (∀ q,M2 q->M1 q\/w1.heap.size+1<=q):=⟨fun q hq=>by
    rcases HGJ.o.2 q hq with h | h
    ·exact .inl h
    ·exact .inr (by have:=h.1;omega)⟩
   have hm1lt:=fun q (hq:M1 q)=>(HMM.o.low q hq).2
   have hstg:Stg w2 w2 (fun q=>w.heap.size+3<=q/\¬ M2 q) (w.heap.size+2) w1.heap.size pn pf pl Af cf Al cl (glu g x s).2.none (glu g x s).2.first (glu g x s).2.last Aq cq Ar cr:=by
    refine⟨Upd.refl _ _,?_,?_,by omega,?_,?_,?_,?_,fun h=>by omega⟩
    ·exact(HUJ.o.block _ (by omega) HPBM.o).trans ((Below.heap_alloc _ _ _ pl3).trans HPB0.o)
    ·exact(HUJ.o.block _ (by omega) (fun h=>by have:=hm1lt _ h;omega)).trans (heap_alloc_new w1 _)
    ·exact Rp.x09 (Rp.x0f (Rp.x01 HPf.o (Upd.alloc1 (fun _=>False) w1 _)) HUJ.o (fun q _ hq hM=>by rcases HGG.o.2 q hM with h | h;exact hq.1.2 h;have:=h.1;omega)) (fun q hq=>⟨hq.1.1,fun hM=>by
      rcases HM1R.o q hM with h | h
      ·rcases HGG.o.2 q h with h | h
       ·exact hq.1.2 h
       ·have:=h.1;omega
      ·omega⟩)
    ·exact Rp.x09 (Rp.x0f (Rp.x01 HPl.o (Upd.alloc1 (fun _=>False) w1 _)) HUJ.o (fun q _ hq hM=>by rcases HGG.o.2 q hM with h | h;exact hq.1.2 h;have:=h.1;omega)) (fun q hq=>⟨hq.1.1,fun hM=>by
      rcases HM1R.o q hM with h | h
      ·rcases HGG.o.2 q h with h | h
       ·exact hq.1.2 h
       ·have:=h.1;omega
      ·omega⟩)
    ·exact Rp.x09 (Rp.x0f (Rp.x01 HQf.o (Upd.alloc1 (fun _=>False) w1 _)) HUJ.o (fun q _ hq hM=>hq.1.2 hM)) (fun q hq=>⟨by have:=hq.1.1;omega,fun hM=>by
      rcases HM1R.o q hM with h | h
      ·exact hq.1.2 h
      ·omega⟩)
    ·exact Rp.x09 (Rp.x0f (Rp.x01 HQl.o (Upd.alloc1 (fun _=>False) w1 _)) HUJ.o (fun q _ hq hM=>hq.1.2 hM)) (fun q hq=>⟨by have:=hq.1.1;omega,fun hM=>by
      rcases HM1R.o q hM with h | h
      ·exact hq.1.2 h
      ·omega⟩)
   have HFIN:As (∀ V pn' pf' pl' Af' cf' Al' cl',Stg w2 V (fun q=>w.heap.size+3<=q/\¬ M2 q) (w.heap.size+2) w1.heap.size pn' pf' pl' Af' cf' Al' cl' (glu g x s).2.none (glu g x s).2.first (glu g x s).2.last Aq cq Ar cr->pn'=(pn && (glu g x s).2.none)->pf'=(if pn=true then pf ++ (glu g x s).2.first else pf)->pl'=(if (glu g x s).2.none=true then pl ++ (glu g x s).2.last else (glu g x s).2.last) ->
    LoopRel (x2v g) (x2v g l (s1,s2) ⟨true,[],[]⟩) w V B M mb b0 b1 b2 (s1,s2) (l.drop (k+1)) (Ex.cnts (l.take (k+1)))):=⟨by
    intro V pn' pf' pl' Af' cf' Al' cl' hS e1 e2 e3
    have hMJ:=HMJ.o
    refine⟨M2,tv1,fv2,vs2,((glu g x s).1.1,joinF (glu g x s).1.2 pl (glu g x s).2.first),⟨pn',pf',pl'⟩,Af',cf',Al',cl',?_,?_,?_,?_,?_,fun q hq=>HGJ.o.1 q (HGG.o.1 q (HM1.o q hq)),?_,hS.pbx,?_,hS.rf,hS.rl,?_⟩
    ·rw[<- HCC.o,HDX.o,x2v,e1,e2,e3]
    ·rw[HCX.o]
     exact Bd.next HBD.o HQB.o ((glu g x s).1.1,joinF (glu g x s).1.2 pl (glu g x s).2.first) rfl (x49 _ _ _) _ ⟨fun a ha=>mem_ite_l (by simpa[e2] using ha),fun a ha=>mem_ite_r (by simpa[e3] using ha),by simp only[e2];exact len_ite_l,by simp only[e3];exact len_ite_r⟩
    ·simp only[x49]
     exact hqlen
    ·intro y hy
     have:=x66 (b:=1000000000 - 80000 * Ex.cnts (l.drop (k+1)) - 40000) (fun z hz=>by have:=HFJ.o z hz;omega) y hy
     have h6:pl.length * (glu g x s).2.first.length<=200 * 200:=Nat.mul_le_mul (by omega) (by omega)
     omega
    ·exact hMJ.upd hS.upd (fun q _ hq=>by subst hq;exact⟨by omega,fun hM=>by rcases HM1R.o _ hM with h | h;exact HPBM.o h;omega⟩)
    ·intro q hq
     rcases HM1R.o q hq with h | h
     ·exact HM12.o q h
     ·exact .inr (by omega)
    ·exact(hS.upd.block _ (by omega) (by omega)).trans ((HUJ.o.block _ (by omega) HRBM.o).trans ((Below.heap_alloc _ _ _ (by omega)).trans HRB0.o))
    ·have u1:Upd (fun q=>M1 q\/q=w.heap.size+2) w1 V:=Upd.trans (S:=fun q=>M1 q\/q=w.heap.size+2) (S':=fun q=>M1 q\/q=w.heap.size+2) (Upd.alloc1 _ w1 _) (Upd.trans (S:=fun q=>M1 q\/q=w.heap.size+2) (S':=fun q=>q=w.heap.size+2) (HUJ.o.mono (fun _ _ h=>.inl h)) hS.upd (fun _ _ h=>.inr h)) (fun _ _ h=>h)
     have u2:Upd (fun q=>M' q\/q=w.heap.size+2\/wr.heap.size<=q) wr V:=Upd.trans (HU01.o.mono (fun _ _ h=>.inl h)) u1 (fun q hq h=>by
      rcases h with h | h
      ·rcases HGG.o.2 q h with h | h
       ·exact .inl h
       ·exact .inr (.inr (by have:=h.1;omega))
      ·exact .inr (.inl h))
     refine Upd.trans HU2.o u2 (fun q hq h=>?_)
     rcases h with h | h | h
     ·rcases HM2.o q h with h | h
      ·exact h
      ·omega
     ·omega
     ·omega⟩
   have HST:=mK hstg
   have hM2low:∀ q,M2 q->q < w2.heap.size:=fun q hq=>(HMJ.o.low q hq).2
   clear hstg HMJ HGJ HUJ HJ HM1R pc0 pc1 pc2 pg0 pg1 pg2 pl3 hm1lt HRNG HFJ HPB0 HRB0 HPBM HRBM HM12 HPf HPl HQf HQl HU01 HQF HQL HMM HGG HU1 HF2 HL2 HPB HRB HU2 HM1 HM2 HLOW HBD HQB HLN HFB2 HCC HDX HCX HBC hnpM hnrM hal hal2
   have HM2L:=mK (fun q (hq:M2 q)=>(hM2low q hq))
   clear hM2low
   generalize hqn:(glu g x s).2.none=qn at *
   cases pn
   ·cases qn
    ·obtain⟨c0,c1,c2,d0,d1,d2,f0,f1,f2⟩:=HST.o.cells (Upd.refl (fun _=>False) _)
     go_wp2
     go_roundg g1
     case measure=>omega
     case rel=>
      rw[(show w.heap.size+1+1=w.heap.size+2 from rfl)]
      exact⟨k+1,by have:=HK.o;omega,by go_num,⟨HFIN.o _ _ _ _ _ _ _ _ (((HST.o).last (c3:=cr) (HST.o.rql)).noneB false) (by simp) (by simp) (by simp)⟩⟩
    ·obtain⟨c0,c1,c2,d0,d1,d2,f0,f1,f2⟩:=HST.o.cells (Upd.refl (fun _=>False) _)
     go_wp2
     clear c0 c1 c2 d0 d1 d2 f0 f1 f2
     have HSd:=mK (HST.o.pure ((Upd.refl (fun _=>False) _).drew))
     have hvs:w2.heap.size<=w2.heap.size:=HST.o.upd.size
     refine x0m (P:=Tryz.prog) (fun v=>v.cell? ⟨w.heap.size+2,0,none⟩=some (.bool false)/\v.cell? ⟨w.heap.size+2,1,none⟩=some (.slice Af (pf).length cf)/\v.cell? ⟨w.heap.size+2,2,none⟩=some (.slice Al (pl).length cl)/\v.cell? ⟨w1.heap.size,0,none⟩=some (.bool true)/\v.cell? ⟨w1.heap.size,1,none⟩=some (.slice Aq (glu g x s).2.first.length cq)/\v.cell? ⟨w1.heap.size,2,none⟩=some (.slice Ar (glu g x s).2.last.length cr)/\v.frozen? ⟨w.heap.size+2,0,none⟩=false/\v.frozen? ⟨w.heap.size+2,1,none⟩=false/\v.frozen? ⟨w.heap.size+2,2,none⟩=false) 7 (by kernel_rfl) ?_ (fun hHeld=>?_)
     ·first | exact HSd.o.cells HP4.o | exact HSd.o.cells HP3.o | exact HSd.o.cells rU
     refine zT 0 ?_
     refine zT 1 ?_
     refine zT 3 ?_
     refine zT 4 ?_
     refine oT 2 (fun K hK=>?_)
     go_simp
     (go_at_call 123;refine(x3f HSd.o.rl (by (try simp only[List.length_append]);omega)).mono ?_;rintro e w3 ⟨v3,rfl,ho3,hu3⟩;obtain⟨A3,c3,rfl,_,_⟩:=Rp.x0c ho3;have HO3:=mK ho3;have HP3:=mK hu3;clear ho3 hu3)
     refine hK.out _ _ (fun _=>by first | exact HSd.o.cells HP4.o | exact HSd.o.cells HP3.o | exact HSd.o.cells rU) (fun hHeld=>?_)
     replace hHeld:=hHeld (by decide)
     clear hK K
     (try simp only[Act.put,sA,sB,sC])
     refine oT 5 (fun K hK=>?_)
     refine Rp.x1g intR (c:=cr) HO3.o (Rp.x1q (HSd.o.pure HP3.o).rql (fun _ _ h=>h)) (Fz:=fun _=>False) (fun _ h=>h.elim) (by rfl) _ _ 83 (.int .i64 0) 8 (by rfl) Tryz.underlying83 x3n rfl (by decide) (by decide) (by rfl) (by rfl) (by (try simp only[List.length_append]);omega) ?_;intro v4 w4 ho4 hu4 hat4;obtain⟨AV2,cV2,rfl,_,_⟩:=Rp.x0c ho4;have HP4:=mK (show Pure w2.drew w4 from Upd.trans HP3.o hu4 (fun k hk h=>by have:=(Rp.x03 HO3.o k h).1;omega));have HO4:=mK (x3h (G:=fun k=>w2.heap.size<=k) ho4 (fun k hk=>by rcases hat4 with h | ⟨b,hb,hle⟩;exact(Rp.x03 HO3.o k (h ▸ hk)).1;rw[hb] at hk;injection hk with hk;have h9:w2.heap.size<=w3.heap.size:=HP3.o.size;omega));clear ho4 hu4 hat4
     refine hK.out _ _ (fun _=>by first | exact HSd.o.cells HP4.o | exact HSd.o.cells HP3.o | exact HSd.o.cells rU) (fun hHeld=>?_)
     replace hHeld:=hHeld (by decide)
     clear hK K
     (try simp only[Act.put,sA,sB,sC])
     refine zT 6 ?_
     refine oT 7 (fun K hK=>?_)
     go_simp
     refine hK.out _ _ (fun h=>absurd rfl h) (fun hHeld=>?_)
     clear hK K
     (try simp only[Act.put,sA,sB,sC])
     refine x0l (by kernel_rfl) ?_ _
     rw[(show w.heap.size+1+1=w.heap.size+2 from rfl)]
     replace HST:=mK ((HSd.o.pure HP4.o).last (c3:=cV2) (row_new (R:=fun q=>w.heap.size+3<=q/\¬ M2 q) HO4.o (fun k hk=>by have h8:=(Rp.x03 HO4.o k hk).1;exact⟨by omega,fun hM=>by have:=HM2L.o k hM;omega⟩)))
     rw[show ((pl) ++ (glu g x s).2.last).length=(pl).length+(glu g x s).2.last.length from List.length_append] at HST
     generalize w4.setCell ⟨w.heap.size+2,2,none⟩ (.slice AV2 ((pl).length+(glu g x s).2.last.length) cV2)=V2 at *
     clear HSd HP3 HO3 HP4 HO4 hvs
     obtain⟨c0,c1,c2,d0,d1,d2,f0,f1,f2⟩:=HST.o.cells (Upd.refl (fun _=>False) _)
     go_wp2
     go_roundg g1
     case measure=>omega
     case rel=>
      rw[(show w.heap.size+1+1=w.heap.size+2 from rfl)]
      exact⟨k+1,by have:=HK.o;omega,by go_num,⟨HFIN.o _ _ _ _ _ _ _ _ ((HST.o).noneB (false)) (by simp) (by simp) (by simp)⟩⟩
   ·cases qn
    ·obtain⟨c0,c1,c2,d0,d1,d2,f0,f1,f2⟩:=HST.o.cells (Upd.refl (fun _=>False) _)
     go_wp2
     clear c0 c1 c2 d0 d1 d2 f0 f1 f2
     have HSd:=mK (HST.o.pure ((Upd.refl (fun _=>False) _).drew))
     have hvs:w2.heap.size<=w2.heap.size:=HST.o.upd.size
     refine x0m (P:=Tryz.prog) (fun v=>v.cell? ⟨w.heap.size+2,0,none⟩=some (.bool true)/\v.cell? ⟨w.heap.size+2,1,none⟩=some (.slice Af (pf).length cf)/\v.cell? ⟨w.heap.size+2,2,none⟩=some (.slice Al (pl).length cl)/\v.cell? ⟨w1.heap.size,0,none⟩=some (.bool false)/\v.cell? ⟨w1.heap.size,1,none⟩=some (.slice Aq (glu g x s).2.first.length cq)/\v.cell? ⟨w1.heap.size,2,none⟩=some (.slice Ar (glu g x s).2.last.length cr)/\v.frozen? ⟨w.heap.size+2,0,none⟩=false/\v.frozen? ⟨w.heap.size+2,1,none⟩=false/\v.frozen? ⟨w.heap.size+2,2,none⟩=false) 7 (by kernel_rfl) ?_ (fun hHeld=>?_)
     ·first | exact HSd.o.cells HP4.o | exact HSd.o.cells HP3.o | exact HSd.o.cells rU
     refine zT 0 ?_
     refine zT 1 ?_
     refine zT 3 ?_
     refine zT 4 ?_
     refine oT 2 (fun K hK=>?_)
     go_simp
     (go_at_call 123;refine(x3f HSd.o.rf (by (try simp only[List.length_append]);omega)).mono ?_;rintro e w3 ⟨v3,rfl,ho3,hu3⟩;obtain⟨A3,c3,rfl,_,_⟩:=Rp.x0c ho3;have HO3:=mK ho3;have HP3:=mK hu3;clear ho3 hu3)
     refine hK.out _ _ (fun _=>by first | exact HSd.o.cells HP4.o | exact HSd.o.cells HP3.o | exact HSd.o.cells rU) (fun hHeld=>?_)
     replace hHeld:=hHeld (by decide)
     clear hK K
     (try simp only[Act.put,sA,sB,sC])
     refine oT 5 (fun K hK=>?_)
     refine Rp.x1g intR (c:=cq) HO3.o (Rp.x1q (HSd.o.pure HP3.o).rqf (fun _ _ h=>h)) (Fz:=fun _=>False) (fun _ h=>h.elim) (by rfl) _ _ 83 (.int .i64 0) 8 (by rfl) Tryz.underlying83 x3n rfl (by decide) (by decide) (by rfl) (by rfl) (by (try simp only[List.length_append]);omega) ?_;intro v4 w4 ho4 hu4 hat4;obtain⟨AV1,cV1,rfl,_,_⟩:=Rp.x0c ho4;have HP4:=mK (show Pure w2.drew w4 from Upd.trans HP3.o hu4 (fun k hk h=>by have:=(Rp.x03 HO3.o k h).1;omega));have HO4:=mK (x3h (G:=fun k=>w2.heap.size<=k) ho4 (fun k hk=>by rcases hat4 with h | ⟨b,hb,hle⟩;exact(Rp.x03 HO3.o k (h ▸ hk)).1;rw[hb] at hk;injection hk with hk;have h9:w2.heap.size<=w3.heap.size:=HP3.o.size;omega));clear ho4 hu4 hat4
     refine hK.out _ _ (fun _=>by first | exact HSd.o.cells HP4.o | exact HSd.o.cells HP3.o | exact HSd.o.cells rU) (fun hHeld=>?_)
     replace hHeld:=hHeld (by decide)
     clear hK K
     (try simp only[Act.put,sA,sB,sC])
     refine zT 6 ?_
     refine oT 7 (fun K hK=>?_)
     go_simp
     refine hK.out _ _ (fun h=>absurd rfl h) (fun hHeld=>?_)
     clear hK K
     (try simp only[Act.put,sA,sB,sC])
     refine x0l (by kernel_rfl) ?_ _
     rw[(show w.heap.size+1+1=w.heap.size+2 from rfl)]
     replace HST:=mK ((HSd.o.pure HP4.o).first (c3:=cV1) (row_new (R:=fun q=>w.heap.size+3<=q/\¬ M2 q) HO4.o (fun k hk=>by have h8:=(Rp.x03 HO4.o k hk).1;exact⟨by omega,fun hM=>by have:=HM2L.o k hM;omega⟩)))
     rw[show ((pf) ++ (glu g x s).2.first).length=(pf).length+(glu g x s).2.first.length from List.length_append] at HST
     generalize w4.setCell ⟨w.heap.size+2,1,none⟩ (.slice AV1 ((pf).length+(glu g x s).2.first.length) cV1)=V1 at *
     clear HSd HP3 HO3 HP4 HO4 hvs
     obtain⟨c0,c1,c2,d0,d1,d2,f0,f1,f2⟩:=HST.o.cells (Upd.refl (fun _=>False) _)
     go_wp2
     go_roundg g1
     case measure=>omega
     case rel=>
      rw[(show w.heap.size+1+1=w.heap.size+2 from rfl)]
      exact⟨k+1,by have:=HK.o;omega,by go_num,⟨HFIN.o _ _ _ _ _ _ _ _ (((HST.o).last (c3:=cr) (HST.o.rql)).noneB false) (by simp) (by simp) (by simp)⟩⟩
    ·obtain⟨c0,c1,c2,d0,d1,d2,f0,f1,f2⟩:=HST.o.cells (Upd.refl (fun _=>False) _)
     go_wp2
     clear c0 c1 c2 d0 d1 d2 f0 f1 f2
     have HSd:=mK (HST.o.pure ((Upd.refl (fun _=>False) _).drew))
     have hvs:w2.heap.size<=w2.heap.size:=HST.o.upd.size
     refine x0m (P:=Tryz.prog) (fun v=>v.cell? ⟨w.heap.size+2,0,none⟩=some (.bool true)/\v.cell? ⟨w.heap.size+2,1,none⟩=some (.slice Af (pf).length cf)/\v.cell? ⟨w.heap.size+2,2,none⟩=some (.slice Al (pl).length cl)/\v.cell? ⟨w1.heap.size,0,none⟩=some (.bool true)/\v.cell? ⟨w1.heap.size,1,none⟩=some (.slice Aq (glu g x s).2.first.length cq)/\v.cell? ⟨w1.heap.size,2,none⟩=some (.slice Ar (glu g x s).2.last.length cr)/\v.frozen? ⟨w.heap.size+2,0,none⟩=false/\v.frozen? ⟨w.heap.size+2,1,none⟩=false/\v.frozen? ⟨w.heap.size+2,2,none⟩=false) 7 (by kernel_rfl) ?_ (fun hHeld=>?_)
     ·first | exact HSd.o.cells HP4.o | exact HSd.o.cells HP3.o | exact HSd.o.cells rU
     refine zT 0 ?_
     refine zT 1 ?_
     refine zT 3 ?_
     refine zT 4 ?_
     refine oT 2 (fun K hK=>?_)
     go_simp
     (go_at_call 123;refine(x3f HSd.o.rf (by (try simp only[List.length_append]);omega)).mono ?_;rintro e w3 ⟨v3,rfl,ho3,hu3⟩;obtain⟨A3,c3,rfl,_,_⟩:=Rp.x0c ho3;have HO3:=mK ho3;have HP3:=mK hu3;clear ho3 hu3)
     refine hK.out _ _ (fun _=>by first | exact HSd.o.cells HP4.o | exact HSd.o.cells HP3.o | exact HSd.o.cells rU) (fun hHeld=>?_)
     replace hHeld:=hHeld (by decide)
     clear hK K
     (try simp only[Act.put,sA,sB,sC])
     refine oT 5 (fun K hK=>?_)
     refine Rp.x1g intR (c:=cq) HO3.o (Rp.x1q (HSd.o.pure HP3.o).rqf (fun _ _ h=>h)) (Fz:=fun _=>False) (fun _ h=>h.elim) (by rfl) _ _ 83 (.int .i64 0) 8 (by rfl) Tryz.underlying83 x3n rfl (by decide) (by decide) (by rfl) (by rfl) (by (try simp only[List.length_append]);omega) ?_;intro v4 w4 ho4 hu4 hat4;obtain⟨AV1,cV1,rfl,_,_⟩:=Rp.x0c ho4;have HP4:=mK (show Pure w2.drew w4 from Upd.trans HP3.o hu4 (fun k hk h=>by have:=(Rp.x03 HO3.o k h).1;omega));have HO4:=mK (x3h (G:=fun k=>w2.heap.size<=k) ho4 (fun k hk=>by rcases hat4 with h | ⟨b,hb,hle⟩;exact(Rp.x03 HO3.o k (h ▸ hk)).1;rw[hb] at hk;injection hk with hk;have h9:w2.heap.size<=w3.heap.size:=HP3.o.size;omega));clear ho4 hu4 hat4
     refine hK.out _ _ (fun _=>by first | exact HSd.o.cells HP4.o | exact HSd.o.cells HP3.o | exact HSd.o.cells rU) (fun hHeld=>?_)
     replace hHeld:=hHeld (by decide)
     clear hK K
     (try simp only[Act.put,sA,sB,sC])
     refine zT 6 ?_
     refine oT 7 (fun K hK=>?_)
     go_simp
     refine hK.out _ _ (fun h=>absurd rfl h) (fun hHeld=>?_)
     clear hK K
     (try simp only[Act.put,sA,sB,sC])
     refine x0l (by kernel_rfl) ?_ _
     rw[(show w.heap.size+1+1=w.heap.size+2 from rfl)]
     replace HST:=mK ((HSd.o.pure HP4.o).first (c3:=cV1) (row_new (R:=fun q=>w.heap.size+3<=q/\¬ M2 q) HO4.o (fun k hk=>by have h8:=(Rp.x03 HO4.o k hk).1;exact⟨by omega,fun hM=>by have:=HM2L.o k hM;omega⟩)))
     rw[show ((pf) ++ (glu g x s).2.first).length=(pf).length+(glu g x s).2.first.length from List.length_append] at HST
     generalize w4.setCell ⟨w.heap.size+2,1,none⟩ (.slice AV1 ((pf).length+(glu g x s).2.first.length) cV1)=V1 at *
     clear HSd HP3 HO3 HP4 HO4 hvs
     obtain⟨c0,c1,c2,d0,d1,d2,f0,f1,f2⟩:=HST.o.cells (Upd.refl (fun _=>False) _)
     go_wp2
     clear c0 c1 c2 d0 d1 d2 f0 f1 f2
     have HSd:=mK (HST.o.pure ((Upd.refl (fun _=>False) _).drew))
     have hvs:w2.heap.size<=V1.heap.size:=HST.o.upd.size
     refine x0m (P:=Tryz.prog) (fun v=>v.cell? ⟨w.heap.size+2,0,none⟩=some (.bool true)/\v.cell? ⟨w.heap.size+2,1,none⟩=some (.slice AV1 (pf ++ (glu g x s).2.first).length cV1)/\v.cell? ⟨w.heap.size+2,2,none⟩=some (.slice Al (pl).length cl)/\v.cell? ⟨w1.heap.size,0,none⟩=some (.bool true)/\v.cell? ⟨w1.heap.size,1,none⟩=some (.slice Aq (glu g x s).2.first.length cq)/\v.cell? ⟨w1.heap.size,2,none⟩=some (.slice Ar (glu g x s).2.last.length cr)/\v.frozen? ⟨w.heap.size+2,0,none⟩=false/\v.frozen? ⟨w.heap.size+2,1,none⟩=false/\v.frozen? ⟨w.heap.size+2,2,none⟩=false) 7 (by kernel_rfl) ?_ (fun hHeld=>?_)
     ·first | exact HSd.o.cells HP4.o | exact HSd.o.cells HP3.o | exact HSd.o.cells rU
     refine zT 0 ?_
     refine zT 1 ?_
     refine zT 3 ?_
     refine zT 4 ?_
     refine oT 2 (fun K hK=>?_)
     go_simp
     (go_at_call 123;refine(x3f HSd.o.rl (by (try simp only[List.length_append]);omega)).mono ?_;rintro e w3 ⟨v3,rfl,ho3,hu3⟩;obtain⟨A3,c3,rfl,_,_⟩:=Rp.x0c ho3;have HO3:=mK ho3;have HP3:=mK hu3;clear ho3 hu3)
     refine hK.out _ _ (fun _=>by first | exact HSd.o.cells HP4.o | exact HSd.o.cells HP3.o | exact HSd.o.cells rU) (fun hHeld=>?_)
     replace hHeld:=hHeld (by decide)
     clear hK K
     (try simp only[Act.put,sA,sB,sC])
     refine oT 5 (fun K hK=>?_)
     refine Rp.x1g intR (c:=cr) HO3.o (Rp.x1q (HSd.o.pure HP3.o).rql (fun _ _ h=>h)) (Fz:=fun _=>False) (fun _ h=>h.elim) (by rfl) _ _ 83 (.int .i64 0) 8 (by rfl) Tryz.underlying83 x3n rfl (by decide) (by decide) (by rfl) (by rfl) (by (try simp only[List.length_append]);omega) ?_;intro v4 w4 ho4 hu4 hat4;obtain⟨AV2,cV2,rfl,_,_⟩:=Rp.x0c ho4;have HP4:=mK (show Pure V1.drew w4 from Upd.trans HP3.o hu4 (fun k hk h=>by have:=(Rp.x03 HO3.o k h).1;omega));have HO4:=mK (x3h (G:=fun k=>V1.heap.size<=k) ho4 (fun k hk=>by rcases hat4 with h | ⟨b,hb,hle⟩;exact(Rp.x03 HO3.o k (h ▸ hk)).1;rw[hb] at hk;injection hk with hk;have h9:V1.heap.size<=w3.heap.size:=HP3.o.size;omega));clear ho4 hu4 hat4
     refine hK.out _ _ (fun _=>by first | exact HSd.o.cells HP4.o | exact HSd.o.cells HP3.o | exact HSd.o.cells rU) (fun hHeld=>?_)
     replace hHeld:=hHeld (by decide)
     clear hK K
     (try simp only[Act.put,sA,sB,sC])
     refine zT 6 ?_
     refine oT 7 (fun K hK=>?_)
     go_simp
     refine hK.out _ _ (fun h=>absurd rfl h) (fun hHeld=>?_)
     clear hK K
     (try simp only[Act.put,sA,sB,sC])
     refine x0l (by kernel_rfl) ?_ _
     rw[(show w.heap.size+1+1=w.heap.size+2 from rfl)]
     replace HST:=mK ((HSd.o.pure HP4.o).last (c3:=cV2) (row_new (R:=fun q=>w.heap.size+3<=q/\¬ M2 q) HO4.o (fun k hk=>by have h8:=(Rp.x03 HO4.o k hk).1;exact⟨by omega,fun hM=>by have:=HM2L.o k hM;omega⟩)))
     rw[show ((pl) ++ (glu g x s).2.last).length=(pl).length+(glu g x s).2.last.length from List.length_append] at HST
     generalize w4.setCell ⟨w.heap.size+2,2,none⟩ (.slice AV2 ((pl).length+(glu g x s).2.last.length) cV2)=V2 at *
     clear HSd HP3 HO3 HP4 HO4 hvs
     obtain⟨c0,c1,c2,d0,d1,d2,f0,f1,f2⟩:=HST.o.cells (Upd.refl (fun _=>False) _)
     go_wp2
     go_roundg g1
     case measure=>omega
     case rel=>
      rw[(show w.heap.size+1+1=w.heap.size+2 from rfl)]
      exact⟨k+1,by have:=HK.o;omega,by go_num,⟨HFIN.o _ _ _ _ _ _ _ _ ((HST.o).noneB (true)) (by simp) (by simp) (by simp)⟩⟩
  ·have hkl:k=l.length:=by omega
   subst hkl
   rw[List.drop_length] at HC
   obtain⟨Af,cf,Al,cl,hpb,hrb,hend⟩:=HC.o.done (by have:=HM.o.low mb HM.o.mbM;omega) (fun k hk=>(HM.o.low k hk).2) (fun s p=>by rw[x2v])
   obtain⟨⟨p0,p1,p2⟩,_,_,_,_⟩:=cells3 hpb
   obtain⟨⟨r0,r1,r2⟩,f0,f1,f2,_⟩:=cells3 hrb
   have HE:=mK hend
   rw[<- HV.o] at HE p0 p1 p2
   clear hpb hrb hend HC
   go_wp2
   obtain⟨he1,he2⟩:=HE.o _ rfl
   exact x4v (rb:=w.heap.size+1) rfl he1 rfl he2
end Go.Proofs.YtofjodppljnlaaaGreatDoor
namespace Go.Proofs.YtofjodppljnlaaaGreatDoor
open Go.RowKit
theorem one_done {w V:World} {B:Nat} {M M2:Nat->Prop} {mb:Nat} {ts fs:List (List Int)} {b0 b1 b2 tv fv:Value} {vs:List Value} (hm:Mach V B M2 mb ts fs b0 b1 b2 tv fv vs) (hM1:∀ k,M k->M2 k) (hM2:∀ k,M2 k->M k\/w.heap.size+2<=k) (hMl:∀ k,M k->k < w.heap.size) (hB:B<=w.heap.size)
 {pb:Nat} (hp:w.heap.size+2<=pb) (hpM:¬ M2 pb) (hrb:V.heap[w.heap.size+1]?=some (.cells #[.bool false,.slice none 0 0,.slice none 0 0] 221 (0,0))) {Af Al:Option Addr} {cf cl:Nat} {first last:List Int}
 (hf:intR.row V (fun k=>(w.heap.size+2<=k/\¬ M2 k)/\k ≠ pb) Af first) (hl:intR.row V (fun k=>(w.heap.size+2<=k/\¬ M2 k)/\k ≠ pb) Al last) (hu:Upd M w V) (nn:Bool) :
 ∀ w',w'=((((V.setCell ⟨pb,0,none⟩ (.bool nn)).setCell ⟨w.heap.size+1,0,none⟩ (.bool nn)).setCell ⟨w.heap.size+1,1,none⟩ (.slice Af first.length cf)).setCell ⟨w.heap.size+1,2,none⟩ (.slice Al last.length cl)) ->
  w'.heap[w.heap.size+1]?=some (.cells #[.bool nn,.slice Af first.length cf,.slice Al last.length cl] 221 (0,0)) /\
  BuildPost w w' B M mb b0 b1 b2 (ts,fs) ⟨nn,first,last⟩ (.returned (.agg #[.bool nn,.slice Af first.length cf,.slice Al last.length cl])):=by
 rintro w' rfl
 have hs1:=Upd.x1v (S:=fun k=>k=pb) V (p:=⟨pb,0,none⟩) rfl (.bool nn)
 have hs2:=x3e (V.setCell ⟨pb,0,none⟩ (.bool nn)) (w.heap.size+1) (.bool nn) (.slice Af first.length cf) (.slice Al last.length cl)
 have hsz:((((V.setCell ⟨pb,0,none⟩ (.bool nn)).setCell ⟨w.heap.size+1,0,none⟩ (.bool nn)).setCell ⟨w.heap.size+1,1,none⟩ (.slice Af first.length cf)).setCell ⟨w.heap.size+1,2,none⟩ (.slice Al last.length cl)).heap.size=V.heap.size:=by simp[World.setCell]
 have hall:Upd (fun k=>k=pb\/k=w.heap.size+1) V ((((V.setCell ⟨pb,0,none⟩ (.bool nn)).setCell ⟨w.heap.size+1,0,none⟩ (.bool nn)).setCell ⟨w.heap.size+1,1,none⟩ (.slice Af first.length cf)).setCell ⟨w.heap.size+1,2,none⟩ (.slice Al last.length cl)):=Upd.trans (hs1.mono (fun _ _ h=>.inl h)) hs2 (fun _ _ h=>.inr h)
 refine⟨set3 ((Below.heap_setCell _ _ _ _ (show w.heap.size+1 ≠ pb by omega)).trans hrb) _ _ _,Af,cf,Al,cl,M2,tv,fv,vs,rfl,hm.upd hall (fun k _ hk=>?_),⟨hM1,fun k hk=>?_⟩,?_,?_,Upd.trans hu hall (fun k hk he=>by omega)⟩
 ·rcases hk with rfl | rfl
  ·exact⟨by omega,hpM⟩
  ·refine⟨by omega,fun h=>?_⟩
   rcases hM2 _ h with h | h
   ·have:=hMl _ h;omega
   ·omega
 ·rcases hM2 k hk with h | h
  ·exact .inl h
  ·exact .inr ⟨by omega,by rw[hsz];exact(hm.low k hk).2⟩
 ·exact Rp.x09 (Rp.x0f hf hall (fun k _ hk he=>by rcases he with he | he;exact hk.2 he;omega)) (fun k hk=>⟨by omega,hk.1.2⟩)
 ·exact Rp.x09 (Rp.x0f hl hall (fun k _ hk he=>by rcases he with he | he;exact hk.2 he;omega)) (fun k hk=>⟨by omega,hk.1.2⟩)
theorem build_one4 (nm:ByteArray) (x:Ex) (HI:x44 x) (hcnt:x.cnt<=199):x44 (.mk 4 nm [x]):=by
 intro w B M F G mb s b0 b1 b2 tv fv vs A Ag c cg g hsl0 hm hr hF hg hG hgl hs hfb
 obtain⟨s1,s2⟩:=s
 have HII:=mK HI
 have HM:=mK hm
 have HR:=mK hr
 have HF:=mK hF
 have HG:=mK hg
 have HGB:=mK hG
 simp only at hsl0
 have hlb:=(hm.low mb hm.mbM)
 have hc1:(Ex.mk 4 nm [x]).cnt=1+x.cnt:=by simp[Ex.cnt,Ex.cnts]
 rw[hc1] at hs hfb
 simp only at hs hfb
 have HV:=mK (show glu g (.mk 4 nm [x]) (s1,s2)=(((glu g x (s1,s2)).1.1,joinF (glu g x (s1,s2)).1.2 (glu g x (s1,s2)).2.last (glu g x (s1,s2)).2.first),⟨(glu g x (s1,s2)).2.none || decide ((4:Int) ≠ 5),(glu g x (s1,s2)).2.first,(glu g x (s1,s2)).2.last⟩) by rw[glu];simp[x2l])
 have HS:=mK hsl0
 have HFB:=mK hfb
 obtain⟨bA,oA,A1,c1,hAe,hFb,hbl,d0,d1,d2,hle1,hrow1⟩:=ex_at (j:=0) hr rfl
 subst hAe
 rw[show oA+0 * 3=oA by omega] at d0 d1 d2
 have HROW:=mK hrow1
 have hbB:=hF _ hFb
 clear hm hr hF hg hG hfb HI hc1 hsl0 hrow1
 show Calls Tryz.prog 165 #[.pointer (some ⟨mb,0,none⟩),.agg #[.int .i64 4,.string nm,.slice (some ⟨bA,oA,none⟩) 1 c],.slice Ag g.length cg] w _
 go_enter Tryz.func165,Tryz.ntmps165
 have HBC:=mK (fun (wz:World) (hz:Pure w wz)=>HII.o wz B M F G mb (s1,s2) b0 b1 b2 tv fv vs A1 Ag c1 cg g HS.o (HM.o.pure hz) (Rp.x01 HROW.o hz) HF.o (Rp.x01 HG.o hz) HGB.o hgl (by simp only;omega) (fun y hy=>by have:=HFB.o y hy;omega))
 go_wp2_with (go_at_call 165;refine(HBC.o _ (aU.alloc _)).mono ?_;rintro e w1 ⟨Aq,cq,Ar,cr,M1,tv1,fv1,vs1,rfl,hm1,hg1,hqf,hql,hu1⟩;have HMM:=mK hm1;have HGG:=mK hg1;have HQF:=mK hqf;have HQL:=mK hql;have HU1:=mK hu1;clear hm1 hg1 hqf hql hu1;apply As.o)
 refine⟨?_⟩
 have hlow0:=HM.o.low mb HM.o.mbM
 have hMl:∀ k,M k->k < w.heap.size:=fun k hk=>(HM.o.low k hk).2
 have hs0:((w.alloc (.cells #[.int .i64 4,.string nm,.slice (some ⟨bA,oA,none⟩) 1 c] 92)).alloc (.cells #[.bool false,.slice none 0 0,.slice none 0 0] 221)).heap.size=w.heap.size+2:=by simp
 have hw1:w.heap.size+2<=w1.heap.size:=by have:=HU1.o.size;omega
 have hrb:w1.heap[w.heap.size+1]?=some (.cells #[.bool false,.slice none 0 0,.slice none 0 0] 221 (0,0)):=(HU1.o.block _ (by omega) (fun h=>by have:=hMl _ h;omega)).trans (heap_alloc2_new w _ _)
 have heb:w1.heap[w.heap.size]?=some (.cells #[.int .i64 4,.string nm,.slice (some ⟨bA,oA,none⟩) 1 c] 92 (0,0)):=(HU1.o.block _ (by omega) (fun h=>by have:=hMl _ h;omega)).trans (heap_alloc2_old w _ _)
 have hbd:=glu_bd g x (s1,s2)
 have hqlen:=hbd.len HS.o
 have hqhi:=hbd.hi
 have hqlo:=hbd.lo
 have hqfl:=hbd.fl
 have hqll:=hbd.ll
 simp only at hqhi hqlo
 have hm1lt:∀ q,M1 q->q < w1.heap.size:=fun q hq=>(HMM.o.low q hq).2
 have hM12:∀ q,M1 q->M q\/w.heap.size+2<=q:=fun q hq=>by
  rcases HGG.o.2 q hq with h | h
  ·exact .inl h
  ·exact .inr (by have:=h.1;omega)
 have HPW:=mK (show Upd M w w1 from Upd.trans ((Upd.alloc1 M w _).alloc _) HU1.o (fun _ _ h=>h))
 have HQf:=mK (Rp.x1d (G:=fun q=>(w.heap.size+2<=q/\¬ M1 q)/\q < w1.heap.size) (fun q hq hl=>⟨⟨⟨by have:=hq.1;omega,hq.2⟩,hl⟩,hl,rfl⟩) HQF.o)
 have HQl:=mK (Rp.x1d (G:=fun q=>(w.heap.size+2<=q/\¬ M1 q)/\q < w1.heap.size) (fun q hq hl=>⟨⟨⟨by have:=hq.1;omega,hq.2⟩,hl⟩,hl,rfl⟩) HQL.o)
 have HJ:=mK (join_calls (cl:=cr) (cf:=cq) (HMM.o.pure (Upd.alloc1 (fun _=>False) w1 (.cells #[.bool (glu g x (s1,s2)).2.none,.slice Aq (glu g x (s1,s2)).2.first.length cq,.slice Ar (glu g x (s1,s2)).2.last.length cr] 221))) (Rp.x01 HQl.o (Upd.alloc1 (fun _=>False) w1 _)) (Rp.x01 HQf.o (Upd.alloc1 (fun _=>False) w1 _))
  (fun q hq _ hM=>hq.1.2 hM) (fun q hq _ hM=>hq.1.2 hM) (fun a ha=>by have:=hbd.last a ha;omega) (by omega) (by omega) (by omega) (fun y hy=>by have:=glu_fb g x (s1,s2) (1000000000 - 80000 * (1+x.cnt)) (fun z hz=>by have:=HFB.o z hz;omega) (by omega) y hy;omega))
 obtain⟨⟨e0,e1,e2⟩,_,_,_,el⟩:=cells3 heb
 have HEB:=mK heb
 have HRB:=mK hrb
 clear heb hrb
 go_wp2_with (go_at_call 193;refine HJ.o.mono ?_;rintro e w2 ⟨rfl,M2,fv2,vs2,hm2,hg2,hu2⟩;have HMJ:=mK hm2;have HGJ:=mK hg2;have HUJ:=mK hu2;clear hm2 hg2 hu2;apply As.o)
 refine⟨?_⟩
 have hal2:(w1.alloc (.cells #[.bool (glu g x (s1,s2)).2.none,.slice Aq (glu g x (s1,s2)).2.first.length cq,.slice Ar (glu g x (s1,s2)).2.last.length cr] 221)).heap.size=w1.heap.size+1:=by simp
 have hw2:w1.heap.size+1<=w2.heap.size:=by have:=HUJ.o.size;omega
 have hrb2:w2.heap[w.heap.size+1]?=some (.cells #[.bool false,.slice none 0 0,.slice none 0 0] 221 (0,0)):=(HUJ.o.block _ (by omega) (fun h=>by rcases hM12 _ h with h | h;(have:=hMl _ h;omega);omega)).trans ((Below.heap_alloc _ _ _ (by omega)).trans HRB.o)
 have heb2:w2.heap[w.heap.size]?=some (.cells #[.int .i64 4,.string nm,.slice (some ⟨bA,oA,none⟩) 1 c] 92 (0,0)):=(HUJ.o.block _ (by omega) (fun h=>by rcases hM12 _ h with h | h;(have:=hMl _ h;omega);omega)).trans ((Below.heap_alloc _ _ _ (by omega)).trans HEB.o)
 have hpb2:w2.heap[w1.heap.size]?=some (.cells #[.bool (glu g x (s1,s2)).2.none,.slice Aq (glu g x (s1,s2)).2.first.length cq,.slice Ar (glu g x (s1,s2)).2.last.length cr] 221 (0,0)):=(HUJ.o.block _ (by omega) (fun h=>by have:=hm1lt _ h;omega)).trans (heap_alloc_new w1 _)
 have hM2':∀ q,M2 q->M1 q\/w1.heap.size+1<=q:=fun q hq=>by
  rcases HGJ.o.2 q hq with h | h
  ·exact .inl h
  ·exact .inr (by have:=h.1;omega)
 have HEND:=mK (one_done (nn:=true) (cf:=cq) (cl:=cr) (pb:=w1.heap.size) HMJ.o (fun q hq=>HGJ.o.1 q (HGG.o.1 q hq)) (fun q hq=>by
  rcases hM2' q hq with h | h
  ·exact hM12 q h
  ·exact .inr (by omega)) hMl (by omega) hw1 (fun h=>by rcases hM2' _ h with h | h;(have:=hm1lt _ h;omega);omega) hrb2
  (Rp.x09 (Rp.x0f (Rp.x01 HQf.o (Upd.alloc1 (fun _=>False) w1 _)) HUJ.o (fun q _ hq hM=>hq.1.2 hM)) (fun q hq=>⟨⟨hq.1.1,fun hM=>by rcases hM2' q hM with h | h;exact hq.1.2 h;have:=hq.2;omega⟩,by have:=hq.2;omega⟩))
  (Rp.x09 (Rp.x0f (Rp.x01 HQl.o (Upd.alloc1 (fun _=>False) w1 _)) HUJ.o (fun q _ hq hM=>hq.1.2 hM)) (fun q hq=>⟨⟨hq.1.1,fun hM=>by rcases hM2' q hM with h | h;exact hq.1.2 h;have:=hq.2;omega⟩,by have:=hq.2;omega⟩))
  (Upd.trans HPW.o (Upd.trans (Upd.alloc1 M1 w1 _) HUJ.o (fun _ _ h=>h)) (fun q hq h=>by rcases hM12 q h with h | h;exact h;omega)))
 obtain⟨⟨p0,p1,p2⟩,pf0,pf1,pf2,pl0⟩:=cells3 hpb2
 obtain⟨⟨r0,r1,r2⟩,rf0,rf1,rf2,rl0⟩:=cells3 hrb2
 obtain⟨⟨x0,x1,x2⟩,_,_,_,xl0⟩:=cells3 heb2
 have hne1:w.heap.size+1 ≠ w1.heap.size:=by omega
 have hne2:w1.heap.size ≠ w.heap.size+1:=by omega
 have hne3:w.heap.size ≠ w1.heap.size:=by omega
 clear hpb2 hrb2 heb2
 cases hqn:(glu g x (s1,s2)).2.none
 all_goals
  simp only[hqn] at *
  go_wp2
  obtain⟨he1,he2⟩:=HEND.o _ rfl
  refine x4v (rb:=w.heap.size+1) rfl he1 rfl ?_
  rw[HV.o]
  first | exact he2 | simpa using he2
theorem build_one5 (nm:ByteArray) (x:Ex) (HI:x44 x) (hcnt:x.cnt<=199):x44 (.mk 5 nm [x]):=by
 intro w B M F G mb s b0 b1 b2 tv fv vs A Ag c cg g hsl0 hm hr hF hg hG hgl hs hfb
 obtain⟨s1,s2⟩:=s
 have HII:=mK HI
 have HM:=mK hm
 have HR:=mK hr
 have HF:=mK hF
 have HG:=mK hg
 have HGB:=mK hG
 simp only at hsl0
 have hlb:=(hm.low mb hm.mbM)
 have hc1:(Ex.mk 5 nm [x]).cnt=1+x.cnt:=by simp[Ex.cnt,Ex.cnts]
 rw[hc1] at hs hfb
 simp only at hs hfb
 have HV:=mK (show glu g (.mk 5 nm [x]) (s1,s2)=(((glu g x (s1,s2)).1.1,joinF (glu g x (s1,s2)).1.2 (glu g x (s1,s2)).2.last (glu g x (s1,s2)).2.first),⟨(glu g x (s1,s2)).2.none || decide ((5:Int) ≠ 5),(glu g x (s1,s2)).2.first,(glu g x (s1,s2)).2.last⟩) by rw[glu];simp[x2l])
 have HS:=mK hsl0
 have HFB:=mK hfb
 obtain⟨bA,oA,A1,c1,hAe,hFb,hbl,d0,d1,d2,hle1,hrow1⟩:=ex_at (j:=0) hr rfl
 subst hAe
 rw[show oA+0 * 3=oA by omega] at d0 d1 d2
 have HROW:=mK hrow1
 have hbB:=hF _ hFb
 clear hm hr hF hg hG hfb HI hc1 hsl0 hrow1
 show Calls Tryz.prog 165 #[.pointer (some ⟨mb,0,none⟩),.agg #[.int .i64 5,.string nm,.slice (some ⟨bA,oA,none⟩) 1 c],.slice Ag g.length cg] w _
 go_enter Tryz.func165,Tryz.ntmps165
 have HBC:=mK (fun (wz:World) (hz:Pure w wz)=>HII.o wz B M F G mb (s1,s2) b0 b1 b2 tv fv vs A1 Ag c1 cg g HS.o (HM.o.pure hz) (Rp.x01 HROW.o hz) HF.o (Rp.x01 HG.o hz) HGB.o hgl (by simp only;omega) (fun y hy=>by have:=HFB.o y hy;omega))
 go_wp2_with (go_at_call 165;refine(HBC.o _ (aU.alloc _)).mono ?_;rintro e w1 ⟨Aq,cq,Ar,cr,M1,tv1,fv1,vs1,rfl,hm1,hg1,hqf,hql,hu1⟩;have HMM:=mK hm1;have HGG:=mK hg1;have HQF:=mK hqf;have HQL:=mK hql;have HU1:=mK hu1;clear hm1 hg1 hqf hql hu1;apply As.o)
 refine⟨?_⟩
 have hlow0:=HM.o.low mb HM.o.mbM
 have hMl:∀ k,M k->k < w.heap.size:=fun k hk=>(HM.o.low k hk).2
 have hs0:((w.alloc (.cells #[.int .i64 5,.string nm,.slice (some ⟨bA,oA,none⟩) 1 c] 92)).alloc (.cells #[.bool false,.slice none 0 0,.slice none 0 0] 221)).heap.size=w.heap.size+2:=by simp
 have hw1:w.heap.size+2<=w1.heap.size:=by have:=HU1.o.size;omega
 have hrb:w1.heap[w.heap.size+1]?=some (.cells #[.bool false,.slice none 0 0,.slice none 0 0] 221 (0,0)):=(HU1.o.block _ (by omega) (fun h=>by have:=hMl _ h;omega)).trans (heap_alloc2_new w _ _)
 have heb:w1.heap[w.heap.size]?=some (.cells #[.int .i64 5,.string nm,.slice (some ⟨bA,oA,none⟩) 1 c] 92 (0,0)):=(HU1.o.block _ (by omega) (fun h=>by have:=hMl _ h;omega)).trans (heap_alloc2_old w _ _)
 have hbd:=glu_bd g x (s1,s2)
 have hqlen:=hbd.len HS.o
 have hqhi:=hbd.hi
 have hqlo:=hbd.lo
 have hqfl:=hbd.fl
 have hqll:=hbd.ll
 simp only at hqhi hqlo
 have hm1lt:∀ q,M1 q->q < w1.heap.size:=fun q hq=>(HMM.o.low q hq).2
 have hM12:∀ q,M1 q->M q\/w.heap.size+2<=q:=fun q hq=>by
  rcases HGG.o.2 q hq with h | h
  ·exact .inl h
  ·exact .inr (by have:=h.1;omega)
 have HPW:=mK (show Upd M w w1 from Upd.trans ((Upd.alloc1 M w _).alloc _) HU1.o (fun _ _ h=>h))
 have HQf:=mK (Rp.x1d (G:=fun q=>(w.heap.size+2<=q/\¬ M1 q)/\q < w1.heap.size) (fun q hq hl=>⟨⟨⟨by have:=hq.1;omega,hq.2⟩,hl⟩,hl,rfl⟩) HQF.o)
 have HQl:=mK (Rp.x1d (G:=fun q=>(w.heap.size+2<=q/\¬ M1 q)/\q < w1.heap.size) (fun q hq hl=>⟨⟨⟨by have:=hq.1;omega,hq.2⟩,hl⟩,hl,rfl⟩) HQL.o)
 have HJ:=mK (join_calls (cl:=cr) (cf:=cq) (HMM.o.pure (Upd.alloc1 (fun _=>False) w1 (.cells #[.bool (glu g x (s1,s2)).2.none,.slice Aq (glu g x (s1,s2)).2.first.length cq,.slice Ar (glu g x (s1,s2)).2.last.length cr] 221))) (Rp.x01 HQl.o (Upd.alloc1 (fun _=>False) w1 _)) (Rp.x01 HQf.o (Upd.alloc1 (fun _=>False) w1 _))
  (fun q hq _ hM=>hq.1.2 hM) (fun q hq _ hM=>hq.1.2 hM) (fun a ha=>by have:=hbd.last a ha;omega) (by omega) (by omega) (by omega) (fun y hy=>by have:=glu_fb g x (s1,s2) (1000000000 - 80000 * (1+x.cnt)) (fun z hz=>by have:=HFB.o z hz;omega) (by omega) y hy;omega))
 obtain⟨⟨e0,e1,e2⟩,_,_,_,el⟩:=cells3 heb
 have HEB:=mK heb
 have HRB:=mK hrb
 clear heb hrb
 go_wp2_with (go_at_call 193;refine HJ.o.mono ?_;rintro e w2 ⟨rfl,M2,fv2,vs2,hm2,hg2,hu2⟩;have HMJ:=mK hm2;have HGJ:=mK hg2;have HUJ:=mK hu2;clear hm2 hg2 hu2;apply As.o)
 refine⟨?_⟩
 have hal2:(w1.alloc (.cells #[.bool (glu g x (s1,s2)).2.none,.slice Aq (glu g x (s1,s2)).2.first.length cq,.slice Ar (glu g x (s1,s2)).2.last.length cr] 221)).heap.size=w1.heap.size+1:=by simp
 have hw2:w1.heap.size+1<=w2.heap.size:=by have:=HUJ.o.size;omega
 have hrb2:w2.heap[w.heap.size+1]?=some (.cells #[.bool false,.slice none 0 0,.slice none 0 0] 221 (0,0)):=(HUJ.o.block _ (by omega) (fun h=>by rcases hM12 _ h with h | h;(have:=hMl _ h;omega);omega)).trans ((Below.heap_alloc _ _ _ (by omega)).trans HRB.o)
 have heb2:w2.heap[w.heap.size]?=some (.cells #[.int .i64 5,.string nm,.slice (some ⟨bA,oA,none⟩) 1 c] 92 (0,0)):=(HUJ.o.block _ (by omega) (fun h=>by rcases hM12 _ h with h | h;(have:=hMl _ h;omega);omega)).trans ((Below.heap_alloc _ _ _ (by omega)).trans HEB.o)
 have hpb2:w2.heap[w1.heap.size]?=some (.cells #[.bool (glu g x (s1,s2)).2.none,.slice Aq (glu g x (s1,s2)).2.first.length cq,.slice Ar (glu g x (s1,s2)).2.last.length cr] 221 (0,0)):=(HUJ.o.block _ (by omega) (fun h=>by have:=hm1lt _ h;omega)).trans (heap_alloc_new w1 _)
 have hM2':∀ q,M2 q->M1 q\/w1.heap.size+1<=q:=fun q hq=>by
  rcases HGJ.o.2 q hq with h | h
  ·exact .inl h
  ·exact .inr (by have:=h.1;omega)
 have HEND:=mK (one_done (nn:=(glu g x (s1,s2)).2.none) (cf:=cq) (cl:=cr) (pb:=w1.heap.size) HMJ.o (fun q hq=>HGJ.o.1 q (HGG.o.1 q hq)) (fun q hq=>by
  rcases hM2' q hq with h | h
  ·exact hM12 q h
  ·exact .inr (by omega)) hMl (by omega) hw1 (fun h=>by rcases hM2' _ h with h | h;(have:=hm1lt _ h;omega);omega) hrb2
  (Rp.x09 (Rp.x0f (Rp.x01 HQf.o (Upd.alloc1 (fun _=>False) w1 _)) HUJ.o (fun q _ hq hM=>hq.1.2 hM)) (fun q hq=>⟨⟨hq.1.1,fun hM=>by rcases hM2' q hM with h | h;exact hq.1.2 h;have:=hq.2;omega⟩,by have:=hq.2;omega⟩))
  (Rp.x09 (Rp.x0f (Rp.x01 HQl.o (Upd.alloc1 (fun _=>False) w1 _)) HUJ.o (fun q _ hq hM=>hq.1.2 hM)) (fun q hq=>⟨⟨hq.1.1,fun hM=>by rcases hM2' q hM with h | h;exact hq.1.2 h;have:=hq.2;omega⟩,by have:=hq.2;omega⟩))
  (Upd.trans HPW.o (Upd.trans (Upd.alloc1 M1 w1 _) HUJ.o (fun _ _ h=>h)) (fun q hq h=>by rcases hM12 q h with h | h;exact h;omega)))
 obtain⟨⟨p0,p1,p2⟩,pf0,pf1,pf2,pl0⟩:=cells3 hpb2
 obtain⟨⟨r0,r1,r2⟩,rf0,rf1,rf2,rl0⟩:=cells3 hrb2
 obtain⟨⟨x0,x1,x2⟩,_,_,_,xl0⟩:=cells3 heb2
 have hne1:w.heap.size+1 ≠ w1.heap.size:=by omega
 have hne2:w1.heap.size ≠ w.heap.size+1:=by omega
 have hne3:w.heap.size ≠ w1.heap.size:=by omega
 clear hpb2 hrb2 heb2
 cases hqn:(glu g x (s1,s2)).2.none
 all_goals
  simp only[hqn] at *
  go_wp2
  obtain⟨he1,he2⟩:=HEND.o _ rfl
  refine x4v (rb:=w.heap.size+1) rfl he1 rfl ?_
  rw[HV.o]
  first | exact he2 | simpa using he2
theorem build_one6 (nm:ByteArray) (x:Ex) (HI:x44 x) (hcnt:x.cnt<=199):x44 (.mk 6 nm [x]):=by
 intro w B M F G mb s b0 b1 b2 tv fv vs A Ag c cg g hsl0 hm hr hF hg hG hgl hs hfb
 obtain⟨s1,s2⟩:=s
 have HII:=mK HI
 have HM:=mK hm
 have HR:=mK hr
 have HF:=mK hF
 have HG:=mK hg
 have HGB:=mK hG
 simp only at hsl0
 have hlb:=(hm.low mb hm.mbM)
 have hc1:(Ex.mk 6 nm [x]).cnt=1+x.cnt:=by simp[Ex.cnt,Ex.cnts]
 rw[hc1] at hs hfb
 simp only at hs hfb
 have HV:=mK (show glu g (.mk 6 nm [x]) (s1,s2)=(((glu g x (s1,s2)).1.1,(glu g x (s1,s2)).1.2),⟨(glu g x (s1,s2)).2.none || decide ((6:Int) ≠ 5),(glu g x (s1,s2)).2.first,(glu g x (s1,s2)).2.last⟩) by rw[glu];simp[x2l])
 have HS:=mK hsl0
 have HFB:=mK hfb
 obtain⟨bA,oA,A1,c1,hAe,hFb,hbl,d0,d1,d2,hle1,hrow1⟩:=ex_at (j:=0) hr rfl
 subst hAe
 rw[show oA+0 * 3=oA by omega] at d0 d1 d2
 have HROW:=mK hrow1
 have hbB:=hF _ hFb
 clear hm hr hF hg hG hfb HI hc1 hsl0 hrow1
 show Calls Tryz.prog 165 #[.pointer (some ⟨mb,0,none⟩),.agg #[.int .i64 6,.string nm,.slice (some ⟨bA,oA,none⟩) 1 c],.slice Ag g.length cg] w _
 go_enter Tryz.func165,Tryz.ntmps165
 have HBC:=mK (fun (wz:World) (hz:Pure w wz)=>HII.o wz B M F G mb (s1,s2) b0 b1 b2 tv fv vs A1 Ag c1 cg g HS.o (HM.o.pure hz) (Rp.x01 HROW.o hz) HF.o (Rp.x01 HG.o hz) HGB.o hgl (by simp only;omega) (fun y hy=>by have:=HFB.o y hy;omega))
 go_wp2_with (go_at_call 165;refine(HBC.o _ (aU.alloc _)).mono ?_;rintro e w1 ⟨Aq,cq,Ar,cr,M1,tv1,fv1,vs1,rfl,hm1,hg1,hqf,hql,hu1⟩;have HMM:=mK hm1;have HGG:=mK hg1;have HQF:=mK hqf;have HQL:=mK hql;have HU1:=mK hu1;clear hm1 hg1 hqf hql hu1;apply As.o)
 refine⟨?_⟩
 have hlow0:=HM.o.low mb HM.o.mbM
 have hMl:∀ k,M k->k < w.heap.size:=fun k hk=>(HM.o.low k hk).2
 have hs0:((w.alloc (.cells #[.int .i64 6,.string nm,.slice (some ⟨bA,oA,none⟩) 1 c] 92)).alloc (.cells #[.bool false,.slice none 0 0,.slice none 0 0] 221)).heap.size=w.heap.size+2:=by simp
 have hw1:w.heap.size+2<=w1.heap.size:=by have:=HU1.o.size;omega
 have hrb:w1.heap[w.heap.size+1]?=some (.cells #[.bool false,.slice none 0 0,.slice none 0 0] 221 (0,0)):=(HU1.o.block _ (by omega) (fun h=>by have:=hMl _ h;omega)).trans (heap_alloc2_new w _ _)
 have heb:w1.heap[w.heap.size]?=some (.cells #[.int .i64 6,.string nm,.slice (some ⟨bA,oA,none⟩) 1 c] 92 (0,0)):=(HU1.o.block _ (by omega) (fun h=>by have:=hMl _ h;omega)).trans (heap_alloc2_old w _ _)
 have hbd:=glu_bd g x (s1,s2)
 have hqlen:=hbd.len HS.o
 have hqhi:=hbd.hi
 have hqlo:=hbd.lo
 have hqfl:=hbd.fl
 have hqll:=hbd.ll
 simp only at hqhi hqlo
 have hm1lt:∀ q,M1 q->q < w1.heap.size:=fun q hq=>(HMM.o.low q hq).2
 have hM12:∀ q,M1 q->M q\/w.heap.size+2<=q:=fun q hq=>by
  rcases HGG.o.2 q hq with h | h
  ·exact .inl h
  ·exact .inr (by have:=h.1;omega)
 have HPW:=mK (show Upd M w w1 from Upd.trans ((Upd.alloc1 M w _).alloc _) HU1.o (fun _ _ h=>h))
 have HQf:=mK (Rp.x1d (G:=fun q=>(w.heap.size+2<=q/\¬ M1 q)/\q < w1.heap.size) (fun q hq hl=>⟨⟨⟨by have:=hq.1;omega,hq.2⟩,hl⟩,hl,rfl⟩) HQF.o)
 have HQl:=mK (Rp.x1d (G:=fun q=>(w.heap.size+2<=q/\¬ M1 q)/\q < w1.heap.size) (fun q hq hl=>⟨⟨⟨by have:=hq.1;omega,hq.2⟩,hl⟩,hl,rfl⟩) HQL.o)
 have hrb2:(w1.alloc (.cells #[.bool (glu g x (s1,s2)).2.none,.slice Aq (glu g x (s1,s2)).2.first.length cq,.slice Ar (glu g x (s1,s2)).2.last.length cr] 221)).heap[w.heap.size+1]?=some (.cells #[.bool false,.slice none 0 0,.slice none 0 0] 221 (0,0)):=(Below.heap_alloc _ _ _ (by omega)).trans hrb
 have heb2:(w1.alloc (.cells #[.bool (glu g x (s1,s2)).2.none,.slice Aq (glu g x (s1,s2)).2.first.length cq,.slice Ar (glu g x (s1,s2)).2.last.length cr] 221)).heap[w.heap.size]?=some (.cells #[.int .i64 6,.string nm,.slice (some ⟨bA,oA,none⟩) 1 c] 92 (0,0)):=(Below.heap_alloc _ _ _ (by omega)).trans heb
 have hpb2:(w1.alloc (.cells #[.bool (glu g x (s1,s2)).2.none,.slice Aq (glu g x (s1,s2)).2.first.length cq,.slice Ar (glu g x (s1,s2)).2.last.length cr] 221)).heap[w1.heap.size]?=some (.cells #[.bool (glu g x (s1,s2)).2.none,.slice Aq (glu g x (s1,s2)).2.first.length cq,.slice Ar (glu g x (s1,s2)).2.last.length cr] 221 (0,0)):=heap_alloc_new w1 _
 have HEND:=mK (one_done (nn:=true) (cf:=cq) (cl:=cr) (pb:=w1.heap.size) (HMM.o.pure (Upd.alloc1 (fun _=>False) w1 (.cells #[.bool (glu g x (s1,s2)).2.none,.slice Aq (glu g x (s1,s2)).2.first.length cq,.slice Ar (glu g x (s1,s2)).2.last.length cr] 221))) (fun q hq=>HGG.o.1 q hq) hM12 hMl (by omega) hw1 (fun h=>by have:=hm1lt _ h;omega) hrb2
  (Rp.x09 (Rp.x01 HQf.o (Upd.alloc1 (fun _=>False) w1 _)) (fun q hq=>⟨hq.1,by have:=hq.2;omega⟩))
  (Rp.x09 (Rp.x01 HQl.o (Upd.alloc1 (fun _=>False) w1 _)) (fun q hq=>⟨hq.1,by have:=hq.2;omega⟩))
  (Upd.trans HPW.o (Upd.alloc1 M w1 _) (fun q hq h=>h)))
 clear heb hrb
 obtain⟨⟨p0,p1,p2⟩,pf0,pf1,pf2,pl0⟩:=cells3 hpb2
 obtain⟨⟨r0,r1,r2⟩,rf0,rf1,rf2,rl0⟩:=cells3 hrb2
 obtain⟨⟨x0,x1,x2⟩,_,_,_,xl0⟩:=cells3 heb2
 have hne1:w.heap.size+1 ≠ w1.heap.size:=by omega
 have hne2:w1.heap.size ≠ w.heap.size+1:=by omega
 have hne3:w.heap.size ≠ w1.heap.size:=by omega
 clear hpb2 hrb2 heb2
 generalize hW2:(w1.alloc (.cells #[.bool (glu g x (s1,s2)).2.none,.slice Aq (glu g x (s1,s2)).2.first.length cq,.slice Ar (glu g x (s1,s2)).2.last.length cr] 221))=w2 at *
 cases hqn:(glu g x (s1,s2)).2.none
 all_goals
  simp only[hqn] at *
  go_wp2
  obtain⟨he1,he2⟩:=HEND.o _ rfl
  refine x4v (rb:=w.heap.size+1) rfl he1 rfl ?_
  rw[HV.o]
  first | exact he2 | simpa using he2
/-- Every tree that is right. -/
theorem build_right (N:Nat):∀ (e:Ex) (i:Int),e.cnt<=N->e.okB i=true->e.cnt<=200->x44 e:=by
 induction N with
 | zero=>intro e i he;have:=e.x3r;omega
 | succ N ih=>
   intro e i he hok hc
   obtain⟨k,nm,l⟩:=e
   have hc1:(Ex.mk k nm l).cnt=1+Ex.cnts l:=by simp[Ex.cnt]
   by_cases h1:k=1
   ·subst h1;exact build_name nm l
   ·by_cases h2:(k=0/\i ≠ 0)\/((k=2\/k=3)/\i=k)\/¬ (k=0\/k=2\/k=3\/k=4\/k=5\/k=6)
    ·rw[right_early h1 h2] at hok;cases hok
    ·rw[x4n h1 h2] at hok
     simp only[Bool.and_eq_true,decide_eq_true_eq] at hok
     obtain⟨⟨⟨hall,_⟩,hlo⟩,hhi⟩:=hok
     rw[Ex.oksB_all,List.all_eq_true] at hall
     have hI:∀ x ∈ l,x44 x:=fun x hx=>ih x k (by have:=Ex.x52 hx;omega) (hall x hx) (by have:=Ex.x52 hx;omega)
     have h3:k=0\/k=2\/k=3\/k=4\/k=5\/k=6:=by omega
     rcases h3 with rfl | rfl | rfl | rfl | rfl | rfl
     ·exact build_none nm l
     ·exact build_seq nm l hI (by omega)
     ·exact build_alt nm l hI (by omega)
     ·match l,hlo,hhi with
      | [x],_,_=>exact build_one4 nm x (hI x (by simp)) (by have:=Ex.x52 (x:=x) (l:=[x]) (by simp);omega)
      | [],h,_=>simp[x23] at h
      | _ :: _ :: _,_,h=>simp[mostE] at h
     ·match l,hlo,hhi with
      | [x],_,_=>exact build_one5 nm x (hI x (by simp)) (by have:=Ex.x52 (x:=x) (l:=[x]) (by simp);omega)
      | [],h,_=>simp[x23] at h
      | _ :: _ :: _,_,h=>simp[mostE] at h
     ·match l,hlo,hhi with
      | [x],_,_=>exact build_one6 nm x (hI x (by simp)) (by have:=Ex.x52 (x:=x) (l:=[x]) (by simp);omega)
      | [],h,_=>simp[x23] at h
      | _ :: _ :: _,_,h=>simp[mostE] at h
abbrev AnyB:Nat->Prop:=fun _=>True
/-- A machine that is read; all of it lies below N. -/
def Mac (w:World) (N mb:Nat) (ts fs:List (List Int)) (p:Part):Prop:=
 mb < N/\N<=w.heap.size/\∃ At ct Ag cg Af cf Al cl,w.heap[mb]?=some (.cells #[.slice At ts.length ct,.slice Ag fs.length cg,.bool p.none,.slice Af p.first.length cf,.slice Al p.last.length cl] 223 (0,0)) /\
  intR.slice.row w (fun k=>k < N) At ts/\intR.slice.row w (fun k=>k < N) Ag fs/\intR.row w (fun k=>k < N) Af p.first/\intR.row w (fun k=>k < N) Al p.last
theorem Mac.upd {w w1:World} {S:Nat->Prop} {N mb:Nat} {ts fs:List (List Int)} {p:Part} (h:Mac w N mb ts fs p) (hu:Upd S w w1) (hS:∀ k,S k->N<=k):Mac w1 N mb ts fs p:=by
 obtain⟨hm,hN,At,ct,Ag,cg,Af,cf,Al,cl,hb,h1,h2,h3,h4⟩:=h
 have hk:∀ k,k < w.heap.size->k < N->¬ S k:=fun k _ hk h=>by have:=hS k h;omega
 exact⟨hm,Nat.le_trans hN hu.size,At,ct,Ag,cg,Af,cf,Al,cl,(hu.block _ (lB hb) (fun h=>by have:=hS _ h;omega)).trans hb,Rp.x0f h1 hu hk,Rp.x0f h2 hu hk,Rp.x0f h3 hu hk,Rp.x0f h4 hu hk⟩
theorem Mac.pure {w w1:World} {N mb:Nat} {ts fs:List (List Int)} {p:Part} (h:Mac w N mb ts fs p) (hu:Pure w w1):Mac w1 N mb ts fs p:=h.upd hu (fun _ h=>h.elim)
theorem Foll.own' {w:World} {M:Nat->Prop} {v:Value} {fs:List (List Int)} {vs:List Value} (h:Foll w M v fs vs):intR.slice.own 83 w AnyB v fs:=by
 have hl:vs.length=fs.length:=by simpa using h.own.1
 refine⟨vs,h.own,fun _ _=>trivial,by simpa[Rp.slice] using hl,fun j x hx=>?_⟩
 have hj:j < vs.length:=by rw[hl];exact(List.getElem?_eq_some_iff.1 hx).1
 obtain⟨ho,_⟩:=h.each j vs[j] x (List.getElem?_eq_getElem hj) hx
 obtain⟨A,c,he,hlc,hr⟩:=Rp.x0c ho
 have e1:(vs.drop (j * intR.slice.sz)).take intR.slice.sz=[vs[j]]:=by
  show (vs.drop (j * 1)).take 1=_
  rw[Nat.mul_one,List.drop_eq_getElem_cons hj]
  rfl
 rw[e1,he]
 refine⟨A,c,rfl,hlc,Rp.x09 hr (fun k hk=>⟨trivial,?_⟩)⟩
 intro hk'
 obtain⟨inner,h7,_⟩:=ho
 exact own_ne h7 h.own (by decide) k hk hk'.symm
theorem Mach.mac {w:World} {B:Nat} {M:Nat->Prop} {mb:Nat} {ts fs:List (List Int)} {p:Part} {Af Al:Option Addr} {cf cl:Nat} {tv fv:Value} {vs:List Value} (h:Mach w B M mb ts fs (.bool p.none) (.slice Af p.first.length cf) (.slice Al p.last.length cl) tv fv vs) {F1 F2:Nat->Prop} (hf:intR.row w F1 Af p.first) (hl:intR.row w F2 Al p.last):Mac w w.heap.size mb ts fs p:=by
 obtain⟨At,ct,rfl,_,ht⟩:=Rp.x0c h.types
 obtain⟨Ag,cg,rfl,_,hg⟩:=Rp.x0c h.foll.own'
 exact⟨(h.low mb h.mbM).2,Nat.le_refl _,At,ct,Ag,cg,Af,cf,Al,cl,h.blk,Rp.x1d (fun _ _ hl=>⟨hl,hl,rfl⟩) ht,Rp.x1d (fun _ _ hl=>⟨hl,hl,rfl⟩) hg,Rp.x1d (fun _ _ hl=>⟨hl,hl,rfl⟩) hf,Rp.x1d (fun _ _ hl=>⟨hl,hl,rfl⟩) hl⟩
/-- What begins is laid into the machine. -/
theorem Mach.begin {w:World} {B:Nat} {M:Nat->Prop} {mb:Nat} {ts fs:List (List Int)} {b0 b1 b2 tv fv:Value} {vs:List Value} (h:Mach w B M mb ts fs b0 b1 b2 tv fv vs) (c0 c1 c2:Value) :
 Mach (((w.setCell ⟨mb,2,none⟩ c0).setCell ⟨mb,3,none⟩ c1).setCell ⟨mb,4,none⟩ c2) B M mb ts fs c0 c1 c2 tv fv vs/\Upd (fun k=>k=mb) w (((w.setCell ⟨mb,2,none⟩ c0).setCell ⟨mb,3,none⟩ c1).setCell ⟨mb,4,none⟩ c2):=by
 have hu:Upd (fun k=>k=mb) w (((w.setCell ⟨mb,2,none⟩ c0).setCell ⟨mb,3,none⟩ c1).setCell ⟨mb,4,none⟩ c2):=
  (((Upd.refl (fun k=>k=mb) w).setCell (p:=⟨mb,2,none⟩) (fun _=>rfl) _).setCell (p:=⟨mb,3,none⟩) (fun _=>rfl) _).setCell (p:=⟨mb,4,none⟩) (fun _=>rfl) _
 obtain⟨ti,hto,_⟩:=h.types
 refine⟨⟨by simp[World.setCell,Array.getElem?_modify,h.blk],h.mbM,fun k hk=>⟨(h.low k hk).1,by simpa[World.setCell] using (h.low k hk).2⟩,Rp.x0w h.types hu (fun k _ hk he=>?_),h.typesM,h.foll.upd2 hu ?_ ?_ (fun _ h=>h),h.apart⟩,hu⟩
 ·subst he
  rcases hk with hk | hk
  ·have:=(h.low k h.mbM).1;omega
  ·exact x1j hto h.blk (by decide) hk
 ·rintro k hk rfl
  exact x1j h.foll.own h.blk (by decide) hk
 ·rintro u hu' k hk rfl
  obtain⟨n,inner,h5,_⟩:=h.foll.int hu'
  exact x1j h5 h.blk (by decide) hk
theorem exprCheck_zero {e:Ex} (h:x0z e=0):e.cnt<=200/\e.okB 0=true:=by
 unfold x0z at h
 split at h
 ·simp at h
 ·split at h
  ·simp at h
  ·rename_i h1 h2
   exact⟨by omega,by simpa using h2⟩
theorem x6f {e:Ex} {g:List Grp} (h:x0k e g=0):x0z e=0/\longB g=false/\e.x2p g=true:=by
 unfold x0k at h
 split at h
 ·rename_i h1;exact absurd h h1
 ·rename_i h1
  split at h
  ·simp at h
  ·split at h
   ·simp at h
   ·rename_i h2 h3
    exact⟨by simpa using h1,by simpa using h2,by simpa using h3⟩
theorem made_none {F G:Nat->Prop} {A B:Option Addr} {c d:Nat} {e:Ex} {g:List Grp} {w:World} (hr:exR.row w F A e.l) (hg:grpR.row w G B g) (hb:e.wt<=1048576 * 4) (hgl:g.length<=1048576) (hgt:∀ x ∈ g,x.types.length<=1048576) (h:x0k e g ≠ 0) :
 Calls Tryz.prog 128 #[e.val A c,.slice B g.length d] w fun r w'=>r=.returned (.pointer none)/\Pure w w':=by
 have e0:(x0k e g != 0)=true:=by simp[h]
 have HC:=mK (fun (W:World) (hu:Pure w W)=>x62 (c:=c) (d:=d) (Rp.x01 hr hu) (Rp.x01 hg hu) hb hgl hgt)
 obtain⟨k0,nm,l⟩:=e
 generalize x0k (.mk k0 nm l) g=v at *
 clear h hr hg
 show Calls Tryz.prog 128 #[.agg #[.int .i64 k0,.string nm,.slice A l.length c],.slice B g.length d] w _
 go_enter Tryz.func128,Tryz.ntmps128
 go_wp2_with (go_at_call 125;refine(HC.o _ aU).mono ?_;rintro e w1 ⟨rfl,hu⟩;have HU:=mK (Upd.trans aP hu (fun _ _ h=>h));clear hu)
 go_ret
 exact⟨rfl,HU.o⟩
theorem made_some {F G:Nat->Prop} {A Bg:Option Addr} {c d:Nat} {e:Ex} {g:List Grp} {w:World} (hr:exR.row w F A e.l) (hg:grpR.row w G Bg g) (hF:∀ k,F k->k < w.heap.size) (hG:∀ k,G k->k < w.heap.size) (hb:e.wt<=1048576 * 4) (hgl:g.length<=1048576) (hgt:∀ x ∈ g,x.types.length<=1048576) (h:x0k e g=0) :
 Calls Tryz.prog 128 #[e.val A c,.slice Bg g.length d] w fun r w'=>∃ mb,r=.returned (.pointer (some ⟨mb,0,none⟩))/\Mac w' w'.heap.size mb (glu g e ([],[])).1.1 (glu g e ([],[])).1.2 (glu g e ([],[])).2/\Pure w w':=by
 obtain⟨hx,_,_⟩:=x6f h
 obtain⟨hcnt,hok⟩:=exprCheck_zero hx
 have HBC:=mK (build_right 200 e 0 hcnt hok hcnt)
 have HC:=mK (fun (W:World) (hu:Pure w W)=>x62 (c:=c) (d:=d) (Rp.x01 hr hu) (Rp.x01 hg hu) hb hgl hgt)
 rw[h] at HC
 have HR:=mK hr
 have HG:=mK hg
 have HF:=mK hF
 have HGB:=mK hG
 obtain⟨k0,nm,l⟩:=e
 clear h hr hg hF hG hx hok
 show Calls Tryz.prog 128 #[.agg #[.int .i64 k0,.string nm,.slice A l.length c],.slice Bg g.length d] w _
 go_enter Tryz.func128,Tryz.ntmps128
 go_wp2_with (go_at_call 125;refine(HC.o _ aU).mono ?_;rintro e w1 ⟨rfl,hu⟩;have HU:=mK (Upd.trans aP hu (fun _ _ h=>h));have hz:=hu.size;have heb:=(hu.block w.heap.size (by simp) (fun h=>h)).trans (heap_alloc_new w _);clear hu;apply As.o)
 refine⟨?_⟩
 have hw1:w.heap.size+1<=w1.heap.size:=by simpa using hz
 have hmach:Mach (w1.alloc (.cells #[.slice none 0 0,.slice none 0 0,.bool false,.slice none 0 0,.slice none 0 0] 223)) w1.heap.size (fun k=>k=w1.heap.size) w1.heap.size [] [] (.bool false) (.slice none 0 0) (.slice none 0 0) (.slice none 0 0) (.slice none 0 0) []:=
  ⟨heap_alloc_new w1 _,rfl,fun k hk=>by subst hk;simp,Rp.x0v _ _ _ _,fun k hk=>by simp[Value.ownBlock] at hk,⟨World.ownsRow_nil _ _ _ _,fun k hk=>by simp[Value.ownBlock] at hk,fun i u x hu=>by simp at hu,fun i j u u' k hu=>by simp at hu⟩,fun k hk=>by simp[Value.ownBlock] at hk⟩
 have HB2:=mK (HBC.o _ _ _ F G w1.heap.size ([],[]) _ _ _ _ _ _ A Bg c d g rfl hmach (Rp.x01 HR.o (HU.o.alloc _)) (fun k hk=>by have:=HF.o k hk;omega) (Rp.x01 HG.o (HU.o.alloc _)) (fun k hk=>by have:=HGB.o k hk;omega) hgl (by simp only[List.length_nil];omega) (fun y hy=>by cases hy))
 obtain⟨⟨x0,x1,x2⟩,_,_,_,hel⟩:=cells3 heb
 have HM0:=mK hmach
 clear hmach heb hz
 go_wp2_with (go_at_call 165;refine HB2.o.mono ?_;rintro e w2 ⟨Aq,cq,Ar,cr,M1,tv1,fv1,vs1,rfl,hm1,hg1,hqf,hql,hu1⟩;have HMM:=mK hm1;have HGG:=mK hg1;have HQF:=mK hqf;have HQL:=mK hql;have HU1:=mK hu1;clear hm1 hg1 hqf hql hu1;apply As.o)
 refine⟨?_⟩
 have hblk:=HMM.o.blk
 have hmb0:w2.cell? ⟨w1.heap.size,2,none⟩=some (.bool false):=by unfold World.cell?;simp only[hblk];rfl
 have hmb1:w2.cell? ⟨w1.heap.size,3,none⟩=some (.slice none 0 0):=by unfold World.cell?;simp only[hblk];rfl
 have hmb2:w2.cell? ⟨w1.heap.size,4,none⟩=some (.slice none 0 0):=by unfold World.cell?;simp only[hblk];rfl
 have f0:w2.frozen? ⟨w1.heap.size,2,none⟩=false:=by simp[World.frozen?,hblk]
 have f1:w2.frozen? ⟨w1.heap.size,3,none⟩=false:=by simp[World.frozen?,hblk]
 have f2:w2.frozen? ⟨w1.heap.size,4,none⟩=false:=by simp[World.frozen?,hblk]
 have hml:=lB hblk
 have hbeg:=Mach.begin HMM.o (.bool (glu g (.mk k0 nm l) ([],[])).2.none) (.slice Aq (glu g (.mk k0 nm l) ([],[])).2.first.length cq) (.slice Ar (glu g (.mk k0 nm l) ([],[])).2.last.length cr)
 have HBG:=mK hbeg
 clear hbeg hblk
 go_wp2
 go_ret
 have hne:∀ (q:Nat),(w1.alloc (.cells #[.slice none 0 0,.slice none 0 0,.bool false,.slice none 0 0,.slice none 0 0] 223)).heap.size<=q/\¬ M1 q->q ≠ w1.heap.size:=fun q hq he=>by have:=hq.1;simp at this;omega
 refine⟨w1.heap.size,rfl,HBG.o.1.mac (Rp.x0f HQF.o HBG.o.2 (fun q _ hq he=>hne q hq he)) (Rp.x0f HQL.o HBG.o.2 (fun q _ hq he=>hne q hq he)),?_⟩
 have u1:Upd (fun k=>k=w1.heap.size) w1 w2:=Upd.trans (Upd.alloc1 _ w1 _) HU1.o (fun _ _ h=>h)
 exact Upd.trans HU.o (Upd.trans u1 HBG.o.2 (fun _ _ h=>h)) (fun q hq h=>by omega)
end Go.Proofs.YtofjodppljnlaaaGreatDoor
