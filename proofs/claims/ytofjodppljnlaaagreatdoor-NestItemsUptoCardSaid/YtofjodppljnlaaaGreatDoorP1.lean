/- My own texts, packed: Base, FlatC, Expr, OpenKit. -/
import Derived.Test.YtofjodppljnlaaaGreatDoorP0
import Derived.WalkKit
import Derived.Below
import Derived.OwnWalk
import Derived.Laws.AppendOwn
import Derived.Maps.AppendAt
import Derived.Lib.Hide
import Derived.Lib.Builder
import Derived.Lib.AppendStr
import Derived.KernelRfl
import Derived.Deep.Draws
import Derived.Deep.AppendLies
import Derived.Deep.QuietTactic
import Derived.BigQuiet
import Derived.Deep.LoopGhost
import Derived.LoopTactic
import Derived.Outline
import Derived.Deep.DeepCutAuto
import Derived.Deep.CutBlock
import Derived.Deep.DeepFit
import Derived.Deep.RegionHeld3
import Derived.Deep.RegionWith
import Derived.Test.YtofjodppljnlaaaGreatDoorProg
import Derived.Laws.Shifts
import Derived.Laws.BitsAll
import Derived.Laws.IdiomStrings
import Derived.Test.YtofjodppljnlaaaGreatDoorRows
import Derived.ProofKit
import Derived.OpenShut
import Derived.ShutString
import Derived.ChangeOld
import Derived.ChangeArms
import Derived.JoinedCond
import Derived.Deep.Slices
import Derived.Deep.Fields
import Derived.ChangeSame
import Derived.Carry
set_option maxRecDepth 100000
set_option maxHeartbeats 4000000
set_option linter.unusedVariables false
set_option linter.unusedSimpArgs false
variable {w w1 W:Go.World} {F G:Nat → Prop} {A B:Option Go.Addr} {cb c:Nat}
namespace Go.Proofs.YtofjodppljnlaaaGreatDoor
open Go.RowKit
/-- A fact put aside from the walk. -/
structure As (p:Prop):Prop where mk :: (o:p)
/-- From w to w' only blocks of S (and new ones) have turned. -/
structure Upd (S:Nat->Prop) (w w':World):Prop where
 os:w'.os=w.os
 tape:w'.tape=w.tape
 output:w'.output=w.output
 size:w.heap.size<=w'.heap.size
 block:∀ k,k < w.heap.size->¬ S k->w'.heap[k]?=w.heap[k]?
namespace Upd
theorem refl (S:Nat->Prop) (w:World):Upd S w w:=⟨rfl,rfl,rfl,Nat.le_refl _,fun _ _ _=>rfl⟩
theorem trans {S S':Nat->Prop} {w w1 w2:World} (h:Upd S w w1) (h':Upd S' w1 w2) (hs:∀ k,k < w.heap.size->S' k->S k):Upd S w w2:=
 ⟨h'.os.trans h.os,h'.tape.trans h.tape,h'.output.trans h.output,Nat.le_trans h.size h'.size,
   fun k hk hn=>(h'.block k (Nat.lt_of_lt_of_le hk h.size) (fun hs'=>hn (hs k hk hs'))).trans (h.block k hk hn)⟩
theorem mono {S S':Nat->Prop} {w w1:World} (h:Upd S w w1) (hs:∀ k,k < w.heap.size->S k->S' k):Upd S' w w1:=
 ⟨h.os,h.tape,h.output,h.size,fun k hk hn=>h.block k hk (fun h'=>hn (hs k hk h'))⟩
theorem drew {S:Nat->Prop} {a w:World} (h:Upd S a w):Upd S a w.drew:=⟨h.os,h.tape,h.output,h.size,h.block⟩
theorem drewN {S:Nat->Prop} {a w:World} (h:Upd S a w) (n:Nat):Upd S a (w.drewN n):=⟨h.os,h.tape,h.output,h.size,h.block⟩
theorem alloc1 (S:Nat->Prop) (w:World) (o:Obj):Upd S w (w.alloc o):=⟨rfl,rfl,rfl,by simp,fun k hk _=>Below.heap_alloc w o k hk⟩
theorem alloc {S:Nat->Prop} {a w:World} (h:Upd S a w) (o:Obj):Upd S a (w.alloc o):=
 h.trans (alloc1 (fun _=>False) w o) (fun _ _ h=>h.elim)
theorem x1v {S:Nat->Prop} (w:World) {p:Addr} (hp:S p.block) (u:Value):Upd S w (w.setCell p u):=
 ⟨rfl,rfl,rfl,by simp[World.setCell],fun k _ hn=>Below.heap_setCell w p u k (fun e=>hn (e ▸ hp))⟩
theorem setCell {S:Nat->Prop} {a w:World} (h:Upd S a w) {p:Addr} (hp:p.block < a.heap.size->S p.block) (u:Value):Upd S a (w.setCell p u):=
 h.trans (x1v (S:=fun k=>k=p.block) w rfl u) (fun k hk e=>by subst e;exact hp hk)
theorem x3o {S:Nat->Prop} {w w':World} {row:Option Nat} (hg:w.grownBy w' row) (hr:∀ k,row=some k->S k):Upd S w w':=
 ⟨hg.os,hg.tape,hg.output,hg.size,fun k hk hn=>hg.block k hk (fun e=>hn (hr k e.symm))⟩
theorem grown {S:Nat->Prop} {a w w':World} {row:Option Nat} (h:Upd S a w) (hg:w.grownBy w' row) (hr:∀ k,k < a.heap.size->row=some k->S k):Upd S a w':=
 h.trans (x3o (S:=fun k=>row=some k) hg (fun _ e=>e)) hr
theorem below {S:Nat->Prop} {B:Nat} {w w':World} (h:Upd S w w') (hB:B<=w.heap.size) (hs:∀ k,k < B->¬ S k):Below B w w':=
 ⟨h.os,h.tape,h.output,h.size,fun k hk=>h.block k (by omega) (hs k hk)⟩
theorem cell {S:Nat->Prop} {w w':World} (h:Upd S w w') {b o:Nat} (hb:b < w.heap.size) (hn:¬ S b):w'.cell? ⟨b,o,none⟩=w.cell? ⟨b,o,none⟩:=by
 simp[World.cell?,h.block b hb hn]
theorem frozen {S:Nat->Prop} {w w':World} (h:Upd S w w') {b o:Nat} (hb:b < w.heap.size) (hn:¬ S b):w'.frozen? ⟨b,o,none⟩=w.frozen? ⟨b,o,none⟩:=by
 simp[World.frozen?,h.block b hb hn]
/-- Old cells and marks, below a bound that S does not reach: two rules for the walk. -/
theorem olds {S:Nat->Prop} {w w':World} (h:Upd S w w') (n:Nat) (hn:n<=w.heap.size) (hs:∀ k,k < n->¬ S k) :
 (∀ b o,b < n->w'.cell? ⟨b,o,none⟩=w.cell? ⟨b,o,none⟩)/\(∀ b o,b < n->w'.frozen? ⟨b,o,none⟩=w.frozen? ⟨b,o,none⟩):=
 ⟨fun b o hb=>h.cell (by omega) (hs b hb),fun b o hb=>h.frozen (by omega) (hs b hb)⟩
end Upd
/-- Nothing old has turned. -/
abbrev Pure (w w':World):Prop:=Upd (fun _=>False) w w'
theorem Pure.below {w w':World} (h:Pure w w'):Below w.heap.size w w':=Upd.below h (Nat.le_refl _) (fun _ _ h=>h)
theorem Pure.olds {w w':World} (h:Pure w w'):(∀ b o,b < w.heap.size->w'.cell? ⟨b,o,none⟩=w.cell? ⟨b,o,none⟩)/\(∀ b o,b < w.heap.size->w'.frozen? ⟨b,o,none⟩=w.frozen? ⟨b,o,none⟩):=
 Upd.olds h _ (Nat.le_refl _) (fun _ _ h=>h)
section
variable {P:Program} (w:World)
end
/-- One step of the walk through a drawn region: nothing old has turned. -/
structure Stp (w w1:World):Prop where mk :: (out:Pure w w1)
/-- sz cells; what they say (in a world, with a footprint F: the blocks below the heap's end that are looked into). -/
structure Rp (α:Type) where
 sz:Nat
 rep:World->(Nat->Prop)->α->List Value->Prop
 len:∀ {w F x cs},rep w F x cs->cs.length=sz
 one:∀ {w F x cs},rep w F x cs->∀ u ∈ cs,u.oneCell'=true
 move:∀ {w w1:World} {F G:Nat->Prop} {x cs},(∀ k,F k->k < w.heap.size->G k/\k < w1.heap.size/\w1.heap[k]?=w.heap[k]?)->rep w F x cs->rep w1 G x cs
/-- A row of cells: element after element. -/
def Reps {α:Type} (R:α->List Value->Prop) (size:Nat) (xs:List α) (cs:List Value):Prop:=
 cs.length=xs.length * size/\∀ j x,xs[j]?=some x->R x ((cs.drop (j * size)).take size)
theorem Reps.imp {α:Type} {R R':α->List Value->Prop} {size:Nat} {xs:List α} {cs:List Value} (h:Reps R size xs cs) (hi:∀ x c,R x c->R' x c):Reps R' size xs cs:=
 ⟨h.1,fun j x hx=>hi _ _ (h.2 j x hx)⟩
theorem Reps.nil {α:Type} (R:α->List Value->Prop) (size:Nat):Reps R size ([]:List α) []:=⟨by simp,by simp⟩
theorem Reps.append {α:Type} {R:α->List Value->Prop} {size:Nat} {xs ys:List α} {cs ds:List Value} (h:Reps R size xs cs) (h':Reps R size ys ds):Reps R size (xs ++ ys) (cs ++ ds):=by
 refine⟨by rw[List.length_append,List.length_append,h.1,h'.1,Nat.add_mul],fun j x hx=>?_⟩
 rcases Nat.lt_or_ge j xs.length with hj | hj
 ·rw[List.getElem?_append_left hj] at hx
  have hle:(j+1) * size<=xs.length * size:=Nat.mul_le_mul_right _ hj
  have h2:j * size+size<=cs.length:=by rw[h.1];rw[Nat.add_mul] at hle;omega
  rw[List.drop_append_of_le_length (by omega),List.take_append_of_le_length (by rw[List.length_drop];omega)]
  exact h.2 j x hx
 ·rw[List.getElem?_append_right hj] at hx
  have hle:xs.length * size<=j * size:=Nat.mul_le_mul_right _ hj
  have e:j * size - cs.length=(j - xs.length) * size:=by rw[h.1,Nat.sub_mul]
  rw[List.drop_append,List.drop_eq_nil_of_le (by rw[h.1];exact hle),List.nil_append,e]
  exact h'.2 _ x hx
theorem Reps.single {α:Type} {R:α->List Value->Prop} {size:Nat} {x:α} {cs:List Value} (h:R x cs) (hl:cs.length=size):Reps R size [x] cs:=by
 refine⟨by simp[hl],fun j y hy=>?_⟩
 match j,hy with
 | 0,hy=>
   simp at hy
   subst hy
   rw[Nat.zero_mul,List.drop_zero,<- hl,List.take_length]
   exact h
 | j+1,hy=>simp at hy
namespace Rp
variable {α β:Type}
/-- A row that is read: its first element lies at A. -/
def row (d:Rp α) (w:World) (F:Nat->Prop) (A:Option Addr) (xs:List α):Prop:=
 xs=[]\/∃ b o,A=some ⟨b,o,none⟩/\F b/\b < w.heap.size/\∀ j x,xs[j]?=some x->∃ cs,d.rep w F x cs/\∀ i u,cs[i]?=some u->w.cell? ⟨b,o+j * d.sz+i,none⟩=some u
theorem x1d {d:Rp α} {w w1:World} {F G:Nat->Prop} {A:Option Addr} {xs:List α} (hm:∀ k,F k->k < w.heap.size->G k/\k < w1.heap.size/\w1.heap[k]?=w.heap[k]?) (h:d.row w F A xs):d.row w1 G A xs:=by
 rcases h with h | ⟨b,o,hA,hF,hb,hc⟩
 ·exact .inl h
 ·obtain⟨hG,hb1,he⟩:=hm b hF hb
  refine .inr ⟨b,o,hA,hG,hb1,fun j x hx=>?_⟩
  obtain⟨cs,hr,hcs⟩:=hc j x hx
  refine⟨cs,d.move hm hr,fun i u hu=>?_⟩
  rw[<- hcs i u hu]
  simp[World.cell?,he]
/-- A slice in one cell. -/
def slice (d:Rp α):Rp (List α) where
 sz:=1
 rep:=fun w F xs cs=>∃ A c,cs=[.slice A xs.length c]/\xs.length<=c/\d.row w F A xs
 len:=by
  rintro w F x cs ⟨A,c,rfl,_⟩
  rfl
 one:=by
  rintro w F x cs ⟨A,c,rfl,_⟩ u hu
  rw[List.mem_singleton.1 hu]
  rfl
 move:=by
  rintro w w1 F G x cs hm ⟨A,c,rfl,hl,hr⟩
  exact⟨A,c,rfl,hl,x1d hm hr⟩
def scalar (enc:α->Value) (h1:∀ x,(enc x).oneCell'=true):Rp α where
 sz:=1
 rep:=fun _ _ x cs=>cs=[enc x]
 len:=fun h=>by rw[h];rfl
 one:=fun h u hu=>by
  rw[h] at hu
  rw[List.mem_singleton.1 hu]
  exact h1 _
 move:=fun _ h=>h
def int (k:IntKind):Rp Int:=scalar (Value.int k) (fun _=>rfl)
def bool:Rp Bool:=scalar Value.bool (fun _=>rfl)
def string:Rp ByteArray:=scalar Value.string (fun _=>rfl)
def pair (a:Rp α) (b:Rp β):Rp (α × β) where
 sz:=a.sz+b.sz
 rep:=fun w F x cs=>∃ c0 c1,cs=c0 ++ c1/\a.rep w F x.1 c0/\b.rep w F x.2 c1
 len:=by
  rintro w F x cs ⟨c0,c1,rfl,h0,h1⟩
  rw[List.length_append,a.len h0,b.len h1]
 one:=by
  rintro w F x cs ⟨c0,c1,rfl,h0,h1⟩ u hu
  rcases List.mem_append.1 hu with hu | hu
  ·exact a.one h0 u hu
  ·exact b.one h1 u hu
 move:=by
  rintro w w1 F G x cs hm ⟨c0,c1,rfl,h0,h1⟩
  exact⟨c0,c1,rfl,a.move hm h0,b.move hm h1⟩
theorem row_nil (d:Rp α) (w:World) (F:Nat->Prop) (A:Option Addr):d.row w F A []:=.inl rfl
/-- An element of a row that is read. -/
theorem x42 {d:Rp α} {w:World} {F:Nat->Prop} {A:Option Addr} {xs:List α} (h:d.row w F A xs) {j:Nat} {x:α} (hx:xs[j]?=some x) :
 ∃ b o cs,A=some ⟨b,o,none⟩/\F b/\b < w.heap.size/\d.rep w F x cs/\∀ i u,cs[i]?=some u->w.cell? ⟨b,o+j * d.sz+i,none⟩=some u:=by
 rcases h with rfl | ⟨b,o,hA,hF,hb,hc⟩
 ·simp at hx
 ·obtain⟨cs,hr,hcs⟩:=hc j x hx
  exact⟨b,o,cs,hA,hF,hb,hr,hcs⟩
/-- A block whose cells are known, as a row. -/
theorem x1k {d:Rp α} {w:World} {F:Nat->Prop} {b:Nat} {cs:Array Value} {e:TypeId} {fr:Nat × Nat} {xs:List α} (hb:w.heap[b]?=some (.cells cs e fr)) (hF:F b) (h:Reps (d.rep w F) d.sz xs cs.toList):d.row w F (some ⟨b,0,none⟩) xs:=by
 refine .inr ⟨b,0,rfl,hF,(Array.getElem?_eq_some_iff.1 hb).1,fun j x hx=>⟨_,h.2 j x hx,fun i u hu=>?_⟩⟩
 rw[List.getElem?_take] at hu
 split at hu
 ·rw[List.getElem?_drop] at hu
  simp[World.cell?,hb]
  simpa using hu
 ·cases hu
/-- A row of the call's own (elements of type e): a block of its own, or nil. -/
def own (d:Rp α) (e:Nat) (w:World) (F:Nat->Prop) (v:Value) (xs:List α):Prop:=
 ∃ inner,w.ownsRow 0 e d.sz v xs.length inner/\(∀ k,v.ownBlock=some k->F k)/\Reps (d.rep w (fun k=>F k/\some k ≠ v.ownBlock)) d.sz xs inner
theorem x0v (d:Rp α) (e:Nat) (w:World) (F:Nat->Prop):d.own e w F (.slice none 0 0) []:=
 ⟨[],World.ownsRow_nil _ _ _ _,fun k hk=>by simp[Value.ownBlock] at hk,Reps.nil _ _⟩
theorem own_move {d:Rp α} {e:Nat} {w w1:World} {F G:Nat->Prop} {v:Value} {xs:List α} (hm:∀ k,F k->k < w.heap.size->G k/\k < w1.heap.size/\w1.heap[k]?=w.heap[k]?) (h:d.own e w F v xs):d.own e w1 G v xs:=by
 obtain⟨inner,ho,hF,hr⟩:=h
 refine⟨inner,⟨ho.1,?_⟩,fun k hk=>(hm k (hF k hk) (ho.lt k hk).2).1,hr.imp fun x c hc=>d.move (fun k hk hk'=>?_) hc⟩
 ·rcases ho.2 with hn | ⟨g,cap,cur,rfl,hb,hg,rest⟩
  ·exact .inl hn
  ·refine .inr ⟨g,cap,cur,rfl,hb,?_,rest⟩
   rw[(hm g (hF g (by simp[Value.ownBlock])) (Array.getElem?_eq_some_iff.1 hg).1).2.2]
   exact hg
 ·obtain⟨h1,h2,h3⟩:=hm k hk.1 hk'
  exact⟨⟨h1,hk.2⟩,h2,h3⟩
theorem x0w {d:Rp α} {e:Nat} {w w1:World} {F S:Nat->Prop} {v:Value} {xs:List α} (h:d.own e w F v xs) (hu:Upd S w w1) (hs:∀ k,k < w.heap.size->F k->¬ S k):d.own e w1 F v xs:=
 own_move (fun k hk hl=>⟨hk,Nat.lt_of_lt_of_le hl hu.size,hu.block k hl (hs k hl hk)⟩) h
theorem x1s {d:Rp α} {e:Nat} {w:World} {F:Nat->Prop} {v:Value} {xs:List α} (h:d.own e w F v xs) (o:Obj):d.own e (w.alloc o) F v xs:=
 x0w h (Upd.alloc1 (fun _=>False) w o) (fun _ _ _ h=>h)
theorem own_drew {d:Rp α} {e:Nat} {w:World} {F:Nat->Prop} {v:Value} {xs:List α} (h:d.own e w F v xs):d.own e w.drew F v xs:=
 x0w h ((Upd.refl (fun _=>False) w).drew) (fun _ _ _ h=>h)
theorem x0f {d:Rp α} {w w1:World} {F S:Nat->Prop} {A:Option Addr} {xs:List α} (h:d.row w F A xs) (hu:Upd S w w1) (hs:∀ k,k < w.heap.size->F k->¬ S k):d.row w1 F A xs:=
 x1d (fun k hk hl=>⟨hk,Nat.lt_of_lt_of_le hl hu.size,hu.block k hl (hs k hl hk)⟩) h
theorem x01 {d:Rp α} {w w1:World} {F:Nat->Prop} {A:Option Addr} {xs:List α} (h:d.row w F A xs) (hu:Pure w w1):d.row w1 F A xs:=
 x0f h hu (fun _ _ _ h=>h)
theorem x09 {d:Rp α} {w:World} {F G:Nat->Prop} {A:Option Addr} {xs:List α} (h:d.row w F A xs) (hG:∀ k,F k->G k):d.row w G A xs:=
 x1d (fun k hk hl=>⟨hG k hk,hl,rfl⟩) h
theorem x3a {d:Rp α} {e:Nat} {w:World} {F G:Nat->Prop} {v:Value} {xs:List α} (h:d.own e w F v xs) (hG:∀ k,F k->G k):d.own e w G v xs:=
 own_move (fun k hk hl=>⟨hG k hk,hl,rfl⟩) h
theorem x0c {d:Rp α} {e:Nat} {w:World} {F:Nat->Prop} {v:Value} {xs:List α} (h:d.own e w F v xs):∃ A c,v=.slice A xs.length c/\xs.length<=c/\d.row w F A xs:=by
 obtain⟨inner,ho,hF,hr⟩:=h
 rcases ho.2 with ⟨rfl,h0⟩ | ⟨g,cap,cur,rfl,_,hg,hle,_,hcs,htake⟩
 ·have:xs=[]:=List.eq_nil_of_length_eq_zero h0
  subst this
  exact⟨none,0,rfl,Nat.le_refl _,.inl rfl⟩
 ·refine⟨_,cap,rfl,hle,.inr ⟨g,0,rfl,hF g (by simp[Value.ownBlock]),(Array.getElem?_eq_some_iff.1 hg).1,fun j x hx=>⟨_,d.move (fun k hk hk'=>⟨hk.1,hk',rfl⟩) (hr.2 j x hx),fun i u hu=>?_⟩⟩⟩
  rw[List.getElem?_take] at hu
  split at hu
  ·rw[List.getElem?_drop] at hu
   rw[<- htake,List.getElem?_take] at hu
   split at hu
   ·simp[World.cell?,hg]
    simpa using hu
   ·cases hu
  ·cases hu
theorem x03 {d:Rp α} {e:Nat} {w:World} {F:Nat->Prop} {v:Value} {xs:List α} (h:d.own e w F v xs):∀ k,v.ownBlock=some k->F k/\k < w.heap.size:=by
 obtain⟨inner,ho,hF,_⟩:=h
 exact fun k hk=>⟨hF k hk,(ho.lt k hk).2⟩
/-- What an append leaves. The new elements' blocks (Fp) are no block of the row's own; new blocks are in G. -/
theorem own_appended {d:Rp α} {e:Nat} {w w1:World} {F Fp G:Nat->Prop} {v v1:Value} {xs ys:List α} {news inner:List Value}
 (h0:∀ k,v.ownBlock=some k->F k) (hr:Reps (d.rep w (fun k=>F k/\some k ≠ v.ownBlock)) d.sz xs inner)
 (hy:Reps (d.rep w Fp) d.sz ys news) (hFp:∀ k,Fp k->k < w.heap.size->G k/\some k ≠ v.ownBlock) (hFG:∀ k,F k->k < w.heap.size->G k) (hnew:∀ k,w.heap.size<=k->G k)
 (hown:w1.ownsRow 0 e d.sz v1 (xs.length+ys.length) (inner ++ news)) (hg:w.grownBy w1 v.ownBlock) (hlt:∀ k,v.ownBlock=some k->k < w.heap.size)
 (hat:v1.ownBlock=v.ownBlock\/∃ b,v1.ownBlock=some b/\w.heap.size<=b):d.own e w1 G v1 (xs ++ ys):=by
 have hne:∀ k,some k ≠ v.ownBlock->k < w.heap.size->some k ≠ v1.ownBlock:=by
  intro k hk hl
  rcases hat with hat | ⟨b,hb,hle⟩
  ·rw[hat];exact hk
  ·rw[hb]
   intro he
   injection he with he
   omega
 refine⟨inner ++ news,by rw[List.length_append];exact hown,fun k hk=>?_,Reps.append (hr.imp fun x c hc=>d.move (fun k hk hl=>?_) hc) (hy.imp fun x c hc=>d.move (fun k hk hl=>?_) hc)⟩
 ·rcases hat with hat | ⟨b,hb,hle⟩
  ·rw[hat] at hk
   exact hFG k (h0 k hk) (hlt k hk)
  ·rw[hb] at hk
   injection hk with hk
   exact hnew k (by omega)
 ·exact⟨⟨hFG k hk.1 hl,hne k hk.2 hl⟩,Nat.lt_of_lt_of_le hl hg.size,hg.block k hl hk.2⟩
 ·obtain⟨h1,h2⟩:=hFp k hk hl
  exact⟨⟨h1,hne k h2 hl⟩,Nat.lt_of_lt_of_le hl hg.size,hg.block k hl h2⟩
section
variable {P:Program} {ops:Array Oper} {rest:List Oper} {o:Oper} {a:Act} {Q:Exit->Act->World->Prop}
/-- append(v, x) of one element, behind 'at_builtin': the goal's world is W with the variadic box of x's cells. -/
theorem x0o (d:Rp α) {e:Nat} {W:World} {F Fp G:Nat->Prop} {v:Value} {xs:List α} (HO:d.own e W F v xs) (p:α) (cs:List Value) (hp:d.rep W Fp p cs)
 (hFp:∀ k,Fp k->k < W.heap.size->G k/\some k ≠ v.ownBlock) (hFG:∀ k,F k->k < W.heap.size->G k) (hnew:∀ k,W.heap.size<=k->G k)
 (hgd:o.guard=none) (s x:Operand) (t:TypeId) (z:Value) (bytes:Nat)
 (ho:o.op=.call { callee:=.builtin .append,args:=#[s,x],argTypes:=#[t,t] })
 (ht:P.underlying t=some (.slice e)) (hinfo:(P.info? e).map (fun i=>(i.zero,i.size,i.bytes))=some (some z,d.sz,bytes)) (hz:z.cells.size=d.sz) (hs0:0 < d.sz) (hb0:0 < bytes)
 (hs:a.eval s=v) (hx:a.eval x=.slice (some ⟨W.heap.size,0,none⟩) 1 1) (hl:(xs.length+1) * bytes<=140737488355328)
 (h:∀ v1 w1,d.own e w1 G v1 (xs ++ [p])->Upd (fun k=>v.ownBlock=some k) W w1->wpList P ops Q rest (a.put o.dst v1) w1) :
 wpList P ops Q (o :: rest) a (W.alloc (.cells cs.toArray e)):=by
 obtain⟨inner,hown,hF,hr⟩:=HO
 obtain⟨i0,hi,hzz⟩:=Option.map_eq_some_iff.1 hinfo
 simp only[Prod.mk.injEq] at hzz
 obtain⟨hz0,hz1,hz2⟩:=hzz
 have hlen:xs.length+1<=140737488355328:=Nat.le_trans (Nat.le_mul_of_pos_right _ hb0) hl
 refine wpList_append_own_at (W.alloc (.cells cs.toArray e)) hgd s x t ho 0 e i0 z d.sz bytes ht hi hz0 hz1 hz2 hz hs0 v xs.length inner hs (hown.alloc _) ⟨W.heap.size,0,none⟩ 1 1 cs hx (by rw[d.len hp];simp)
  (by simpa using World.news_of_block (cs:=cs.toArray) (t:=e) (fr:=(0,0)) (heap_alloc_new W (.cells cs.toArray e))) (d.one hp) (by simp only[maxLen];omega) hl (by simp) ?_
 intro v1 w1 hown1 hg1 _ hat
 have hg:W.grownBy w1 v.ownBlock:=World.grownBy.trans (World.grownBy_alloc W _ _) hg1
 refine h v1 w1 (own_appended (Fp:=Fp) hF hr (Reps.single hp (d.len hp)) hFp hFG hnew (by simpa using hown1) hg (fun k hk=>(hown.lt k hk).2) ?_) (Upd.x3o hg (fun k hk=>hk))
 rcases hat with hat | hat
 ·exact .inl hat
 ·exact .inr ⟨_,hat,by simp⟩
end
end Rp
theorem lB {α:Type} {a:Array α} {k:Nat} {x:α} (h:a[k]?=some x):k < a.size:=(Array.getElem?_eq_some_iff.1 h).1
theorem fZ {w:World} {k:Nat} {c:Array Value} {t:TypeId} (h:w.heap[k]?=some (.cells c t (0,0))):∀ i,w.frozen? ⟨k,i,none⟩=false:=fun i=>by simp[World.frozen?,h]
theorem sC1 {n:Nat} (h:0 < n):∃ m,n=m+1:=⟨n - 1,by omega⟩
theorem gS {α:Type} {l:List α} {k:Nat} (h:k < l.length):∃ x,l[k]?=some x:=⟨_,List.getElem?_eq_getElem h⟩
theorem kP {w v:World} {k:Nat} {X:Obj} (h:Pure w v) (hb:w.heap[k]?=some X):v.heap[k]?=some X:=(h.block k (Array.getElem?_eq_some_iff.1 hb).1 (fun h=>h)).trans hb
theorem Upd.tt {S:Nat->Prop} {w v u:World} (h:Upd S w v) (h':Upd S v u):Upd S w u:=h.trans h' (fun _ _ h=>h)
theorem mK {p:Prop} (h:p):As p:=⟨h⟩
theorem aU {S:Nat->Prop} {w:World} {X:Obj}:Upd S w (w.alloc X):=Upd.alloc1 S w X
theorem aP {w:World} {X:Obj}:Pure w (w.alloc X):=Upd.alloc1 (fun _=>False) w X
theorem rU {S:Nat->Prop} {w:World}:Upd S w w:=Upd.refl S w
theorem hK1 {p:Prop} {w:World} {S:World->Prop} {i L:Nat} (h:i ≠ L->S w) (hi:i ≠ L:=by decide):S w:=h hi
end Go.Proofs.YtofjodppljnlaaaGreatDoor
namespace Go.Proofs.YtofjodppljnlaaaGreatDoor
open Go.RowKit
structure Tok where
 k:Int
 t:Int
 n:Int
 m:Int
deriving DecidableEq
abbrev Tok.cs (x:Tok):List Value:=[.int .i64 x.k,.int .i64 x.t,.int .i64 x.n,.int .i64 x.m]
abbrev Tok.val (x:Tok):Value:=.agg #[.int .i64 x.k,.int .i64 x.t,.int .i64 x.n,.int .i64 x.m]
def tokR:Rp Tok where
 sz:=4
 rep:=fun _ _ x cs=>cs=x.cs
 len:=fun h=>by rw[h];rfl
 one:=fun h u hu=>by
  rw[h] at hu
  simp[Tok.cs] at hu
  rcases hu with rfl | rfl | rfl | rfl <;> rfl
 move:=fun _ h=>h
/-- A token of a row that is read. -/
theorem x0j {xs:List Tok} (h:tokR.row w F A xs) {j:Nat} {x:Tok} (hx:xs[j]?=some x) :
 ∃ b o,A=some ⟨b,o,none⟩/\F b/\b < w.heap.size/\w.cell? ⟨b,o+j * 4,none⟩=some (.int .i64 x.k)/\w.cell? ⟨b,o+j * 4+1,none⟩=some (.int .i64 x.t)/\w.cell? ⟨b,o+j * 4+2,none⟩=some (.int .i64 x.n)/\w.cell? ⟨b,o+j * 4+3,none⟩=some (.int .i64 x.m):=by
 obtain⟨b,o,cs,hA,hF,hb,hr,hc⟩:=Rp.x42 h hx
 have hr':cs=x.cs:=hr
 subst hr'
 exact⟨b,o,hA,hF,hb,hc 0 _ rfl,hc 1 _ rfl,hc 2 _ rfl,hc 3 _ rfl⟩
theorem x0y:(Tryz.prog.info? 71).map (fun i=>(i.zero,i.size,i.bytes))=some (some (.agg #[.int .i64 0,.int .i64 0,.int .i64 0,.int .i64 0]),4,32):=by kernel_rfl
theorem x0h {a b:Bool} (h:a=b):Ending.returned (.bool a)=.returned (.bool b):=by rw[h]
def MarkP (s:Int):Prop:=0<=s/\s<=4
instance (s:Int):Decidable (MarkP s):=by unfold MarkP;infer_instance
def PointP (n:Int):Prop:=0<=n/\n<=1114111/\n / 2048 ≠ 27
instance (n:Int):Decidable (PointP n):=by unfold PointP;infer_instance
/-- A token that is one. -/
def RightP (x:Tok):Prop:=
 (x.k=0/\x.t=0/\PointP x.n/\MarkP x.m)\/(x.k=2/\x.t=0/\x.n=0/\x.m=0)\/((x.k=1\/x.k=3)/\0 < x.t/\x.t < 16/\0<=x.n/\x.n < 16/\x.m=0)
instance (x:Tok):Decidable (RightP x):=by unfold RightP;infer_instance
def markB (s:Int):Bool:=decide (MarkP s)
def pointB (n:Int):Bool:=decide (PointP n)
def x0p (x:Tok):Bool:=decide (RightP x)
theorem drop_cons {α:Type} {l:List α} {k:Nat} {x:α} (h:l[k]?=some x):l.drop k=x :: l.drop (k+1):=by
 obtain⟨hk,he⟩:=List.getElem?_eq_some_iff.1 h
 rw[List.drop_eq_getElem_cons hk,he]
theorem x4a (s:Int) (w:World):Calls Tryz.prog 148 #[.int .i64 s] w fun e w'=>e=.returned (.bool (markB s))/\w=w':=by
 go_enter Tryz.func148,Tryz.ntmps148
 go_wp2
 all_goals go_ret
 all_goals exact⟨x0h (by rw[Bool.eq_iff_iff];(try simp only[markB,decide_eq_true_eq,Bool.and_eq_true,Bool.or_eq_true,Bool.not_eq_true',Bool.not_eq_eq_eq_not,Bool.not_true,Bool.not_false,beq_iff_eq,bne_iff_ne,beq_eq_false_iff_ne,bne_eq_false_iff_eq,decide_eq_false_iff_not,Bool.false_eq_true,Bool.true_eq_false,ne_eq,iff_true,true_iff,iff_false,false_iff,eq_self_iff_true,Bool.and_true,Bool.true_and,Bool.and_false,Bool.false_and,Bool.or_true,Bool.true_or,Bool.or_false,Bool.false_or] at *);all_goals (try simp only[MarkP,decide_eq_true_eq,Bool.and_eq_true,Bool.or_eq_true,Bool.not_eq_true',Bool.not_eq_eq_eq_not,Bool.not_true,Bool.not_false,beq_iff_eq,bne_iff_ne,beq_eq_false_iff_ne,bne_eq_false_iff_eq,decide_eq_false_iff_not,Bool.false_eq_true,Bool.true_eq_false,ne_eq,iff_true,true_iff,iff_false,false_iff,eq_self_iff_true,Bool.and_true,Bool.true_and,Bool.and_false,Bool.false_and,Bool.or_true,Bool.true_or,Bool.or_false,Bool.false_or] at *);all_goals omega),rfl⟩
theorem x46 (x:Tok) (w:World):Calls Tryz.prog 102 #[x.val] w fun e w'=>e=.returned (.bool (x0p x))/\Pure w w':=by
 go_enter Tryz.func102,Tryz.ntmps102
 go_wp2_with (go_at_call 148;refine(x4a _ _).mono ?_;rintro e w1 ⟨rfl,rfl⟩)
 all_goals go_ret
 all_goals exact⟨x0h (by rw[Bool.eq_iff_iff];(try simp only[x0p,markB,decide_eq_true_eq,Bool.and_eq_true,Bool.or_eq_true,Bool.not_eq_true',Bool.not_eq_eq_eq_not,Bool.not_true,Bool.not_false,beq_iff_eq,bne_iff_ne,beq_eq_false_iff_ne,bne_eq_false_iff_eq,decide_eq_false_iff_not,Bool.false_eq_true,Bool.true_eq_false,ne_eq,iff_true,true_iff,iff_false,false_iff,eq_self_iff_true,Bool.and_true,Bool.true_and,Bool.and_false,Bool.false_and,Bool.or_true,Bool.true_or,Bool.or_false,Bool.false_or] at *);all_goals (try simp only[RightP,MarkP,PointP,decide_eq_true_eq,Bool.and_eq_true,Bool.or_eq_true,Bool.not_eq_true',Bool.not_eq_eq_eq_not,Bool.not_true,Bool.not_false,beq_iff_eq,bne_iff_ne,beq_eq_false_iff_ne,bne_eq_false_iff_eq,decide_eq_false_iff_not,Bool.false_eq_true,Bool.true_eq_false,ne_eq,iff_true,true_iff,iff_false,false_iff,eq_self_iff_true,Bool.and_true,Bool.true_and,Bool.and_false,Bool.false_and,Bool.or_true,Bool.true_or,Bool.or_false,Bool.false_or] at *);all_goals omega),rU.alloc _⟩
theorem x2a {x:Tok} {b:Bool} (h:x0p x=b) (w:World):Calls Tryz.prog 102 #[x.val] w fun e w'=>e=.returned (.bool b)/\Pure w w':=h ▸ x46 x w
/-- P4.1: the place and the number of what is wrong. -/
def fcGo:Nat->Nat->List Tok->Int × Int
 | i,n,[]=>(i,if n=0 then 0 else 3)
 | i,n,t :: r=>if x0p t=false\/(t.k=2/\n=0) then (i,4) else if t.k=1 then (if n=32 then (i,8) else fcGo (i+1) (n+1) r) else if t.k=2 then fcGo (i+1) (n - 1) r else fcGo (i+1) n r
def x0a (l:List Tok):Int × Int:=if l.length > 2048 then (0,2) else fcGo 0 0 l
/-- What the call has of its own: the places of what is open. -/
def FcRel (w wr:World) (l:List Tok) (k n:Nat):Prop:=
 fcGo k n (l.drop k)=x0a l/\Pure w wr/\w.heap.size < wr.heap.size/\∃ cs,cs.size=32/\wr.heap[w.heap.size]?=some (.cells cs 171)
theorem FcRel.upd {wr:World} {l:List Tok} {k n':Nat} (h:As (Pure w wr)) (hz:w.heap.size < wr.heap.size) {cs:Array Value} (hc:cs.size=32) (hb:As (wr.heap[w.heap.size]?=some (.cells cs 171))) (hu:Pure wr w1) (he:fcGo (k+1) n' (l.drop (k+1))=x0a l):FcRel w w1 l (k+1) n':=
 ⟨he,h.o.tt hu,Nat.lt_of_lt_of_le hz hu.size,cs,hc,by rw[hu.block _ hz (fun h=>h)];exact hb.o⟩
theorem FcRel.set {wr:World} {l:List Tok} {k n n':Nat} {u:Value} (h:As (Pure w wr)) (hz:w.heap.size < wr.heap.size) {cs:Array Value} (hc:cs.size=32) (hb:As (wr.heap[w.heap.size]?=some (.cells cs 171))) (hu:Pure wr w1) (he:fcGo (k+1) n' (l.drop (k+1))=x0a l):FcRel w (w1.setCell ⟨w.heap.size,n,none⟩ u) l (k+1) n':=
 ⟨he,(h.o.tt hu).setCell (p:=⟨w.heap.size,n,none⟩) (fun h=>absurd h (Nat.lt_irrefl _)) u,by simpa[World.setCell] using Nat.lt_of_lt_of_le hz hu.size,cs.setIfInBounds n u,by simpa using hc,by
   have:=hu.block _ hz (fun h=>h)
   simp[World.setCell,Array.getElem?_modify,this,hb.o]⟩
inductive Ex where
 | mk (k:Int) (name:ByteArray) (l:List Ex)
abbrev Ex.k:Ex->Int | .mk k _ _=>k
abbrev Ex.name:Ex->ByteArray | .mk _ n _=>n
abbrev Ex.l:Ex->List Ex | .mk _ _ l=>l
mutual
def Ex.cnt:Ex->Nat | .mk _ _ l=>1+Ex.cnts l
def Ex.cnts:List Ex->Nat | []=>0 | x :: r=>x.cnt+Ex.cnts r
end
mutual
def Ex.dep:Ex->Nat | .mk _ _ l=>1+Ex.deps l
def Ex.deps:List Ex->Nat | []=>0 | x :: r=>max x.dep (Ex.deps r)
end
theorem Ex.cnts_sum (l:List Ex):Ex.cnts l=(l.map Ex.cnt).sum:=by
 induction l with
 | nil=>rfl
 | cons x r ih=>simp[Ex.cnts,ih]
theorem Ex.x64 (a b:List Ex):Ex.cnts (a ++ b)=Ex.cnts a+Ex.cnts b:=by simp[Ex.cnts_sum]
theorem Ex.deps_append (a b:List Ex):Ex.deps (a ++ b)=max (Ex.deps a) (Ex.deps b):=by
 induction a with
 | nil=>simp[Ex.deps]
 | cons x r ih=>simp[Ex.deps,ih,Nat.max_assoc]
theorem Ex.x52 {x:Ex} {l:List Ex} (h:x ∈ l):x.cnt<=Ex.cnts l:=by
 induction l with
 | nil=>cases h
 | cons y r ih=>
   simp only[Ex.cnts]
   rcases List.mem_cons.1 h with rfl | h
   ·omega
   ·have:=ih h;omega
theorem Ex.cnts_take (l:List Ex) (k:Nat):Ex.cnts (l.take k)<=Ex.cnts l:=by
 have:=Ex.x64 (l.take k) (l.drop k)
 rw[List.take_append_drop] at this
 omega
theorem Ex.cnts_succ {l:List Ex} {k:Nat} {x:Ex} (hx:l[k]?=some x):Ex.cnts (l.take (k+1))=Ex.cnts (l.take k)+x.cnt:=by
 rw[List.take_add_one,hx,Ex.x64]
 simp[Ex.cnts]
theorem Ex.deps_succ {l:List Ex} {k:Nat} {x:Ex} (hx:l[k]?=some x):Ex.deps (l.take (k+1))=max (Ex.deps (l.take k)) x.dep:=by
 rw[List.take_add_one,hx,Ex.deps_append]
 simp[Ex.deps]
mutual
theorem Ex.x5w:∀ e:Ex,e.dep<=e.cnt
 | .mk k n l=>by have:=Ex.x4g l;simp only[Ex.dep,Ex.cnt];omega
theorem Ex.x4g:∀ l:List Ex,Ex.deps l<=Ex.cnts l
 | []=>by simp[Ex.deps,Ex.cnts]
 | x :: r=>by have h1:=Ex.x5w x;have h2:=Ex.x4g r;simp only[Ex.deps,Ex.cnts];omega
end
mutual
def Ex.wt:Ex->Nat | .mk _ nm l=>1+nm.size+Ex.wts l
def Ex.wts:List Ex->Nat | []=>0 | x :: r=>x.wt+Ex.wts r
end
mutual
theorem Ex.cnt_le_wt:∀ e:Ex,e.cnt<=e.wt
 | .mk k n l=>by have:=Ex.cnts_le_wts l;simp only[Ex.cnt,Ex.wt];omega
theorem Ex.cnts_le_wts:∀ l:List Ex,Ex.cnts l<=Ex.wts l
 | []=>by simp[Ex.cnts,Ex.wts]
 | x :: r=>by have h1:=Ex.cnt_le_wt x;have h2:=Ex.cnts_le_wts r;simp only[Ex.cnts,Ex.wts];omega
end
theorem Ex.wt_mem {x:Ex} {l:List Ex} (h:x ∈ l):x.wt<=Ex.wts l:=by
 induction l with
 | nil=>cases h
 | cons y r ih=>
   simp only[Ex.wts]
   rcases List.mem_cons.1 h with rfl | h
   ·omega
   ·have:=ih h;omega
theorem Ex.wts_len (l:List Ex):l.length<=Ex.wts l:=by
 induction l with
 | nil=>simp
 | cons x r ih=>cases x;simp only[Ex.wts,Ex.wt,List.length_cons];omega
theorem Ex.wt_pos (e:Ex):1<=e.wt:=by cases e;simp[Ex.wt];omega
theorem Ex.x3r (e:Ex):1<=e.cnt:=by cases e;simp[Ex.cnt];
/-- How an expression lies: its three cells. -/
inductive ExRep (w:World) (F:Nat->Prop):Ex->List Value->Prop
 | mk (k:Int) (nm:ByteArray) (l:List Ex) (A:Option Addr) (c:Nat) (css:Nat->List Value) (hle:l.length<=c) (hr:∀ j x,l[j]?=some x->ExRep w F x (css j))
    (hp:l=[]\/∃ b o,A=some ⟨b,o,none⟩/\F b/\b < w.heap.size/\∀ j x,l[j]?=some x->∀ i u,(css j)[i]?=some u->w.cell? ⟨b,o+j * 3+i,none⟩=some u) :
    ExRep w F (.mk k nm l) [.int .i64 k,.string nm,.slice A l.length c]
theorem ExRep.move {e:Ex} {cs:List Value} (hm:∀ k,F k->k < w.heap.size->G k/\k < w1.heap.size/\w1.heap[k]?=w.heap[k]?) (h:ExRep w F e cs):ExRep w1 G e cs:=by
 induction h with
 | mk k nm l A c css hle hr hp ih=>
   refine .mk k nm l A c css hle ih ?_
   rcases hp with hp | ⟨b,o,hA,hF,hb,hc⟩
   ·exact .inl hp
   ·obtain⟨hG,hb1,he⟩:=hm b hF hb
    refine .inr ⟨b,o,hA,hG,hb1,fun j x hx i u hu=>?_⟩
    rw[<- hc j x hx i u hu]
    simp[World.cell?,he]
def exR:Rp Ex where
 sz:=3
 rep:=ExRep
 len:=fun h=>by cases h;rfl
 one:=fun h u hu=>by
  cases h
  simp at hu
  rcases hu with rfl | rfl | rfl <;> rfl
 move:=ExRep.move
/-- Its parts. -/
theorem ExRep.parts {e:Ex} {cs:List Value} (h:ExRep w F e cs):∃ A c,cs=[.int .i64 e.k,.string e.name,.slice A e.l.length c]/\e.l.length<=c/\exR.row w F A e.l:=by
 cases h with
 | mk k nm l A c css hle hr hp=>
   refine⟨A,c,rfl,hle,?_⟩
   rcases hp with hp | ⟨b,o,hA,hF,hb,hc⟩
   ·exact .inl hp
   ·exact .inr ⟨b,o,hA,hF,hb,fun j x hx=>⟨css j,hr j x hx,hc j x hx⟩⟩
theorem ExRep.of_parts {k:Int} {nm:ByteArray} {l:List Ex} (hl:l.length<=c) (h:exR.row w F A l):ExRep w F (.mk k nm l) [.int .i64 k,.string nm,.slice A l.length c]:=by
 rcases h with rfl | ⟨b,o,hA,hF,hb,hc⟩
 ·exact .mk k nm [] A c (fun _=>[]) hl (fun j x hx=>by simp at hx) (.inl rfl)
 ·have hex:∃ css:Nat->List Value,∀ j x,l[j]?=some x->ExRep w F x (css j)/\∀ i u,(css j)[i]?=some u->w.cell? ⟨b,o+j * 3+i,none⟩=some u:=by
   classical
   refine⟨fun j=>if h:∃ cs,∀ x,l[j]?=some x->ExRep w F x cs/\∀ i u,cs[i]?=some u->w.cell? ⟨b,o+j * 3+i,none⟩=some u then h.choose else [],fun j x hx=>?_⟩
   have hh:∃ cs,∀ x,l[j]?=some x->ExRep w F x cs/\∀ i u,cs[i]?=some u->w.cell? ⟨b,o+j * 3+i,none⟩=some u:=by
    obtain⟨cs,h1,h2⟩:=hc j x hx
    refine⟨cs,fun y hy=>?_⟩
    rw[hx] at hy
    cases hy
    exact⟨h1,h2⟩
   simp only[dif_pos hh]
   exact hh.choose_spec x hx
  obtain⟨css,hcss⟩:=hex
  exact .mk k nm l A c css hl (fun j x hx=>(hcss j x hx).1) (.inr ⟨b,o,hA,hF,hb,fun j x hx=>(hcss j x hx).2⟩)
/-- An expression of a row that is read. -/
theorem ex_at {xs:List Ex} (h:exR.row w F A xs) {j:Nat} {x:Ex} (hx:xs[j]?=some x) :
 ∃ b o A1 c1,A=some ⟨b,o,none⟩/\F b/\b < w.heap.size/\w.cell? ⟨b,o+j * 3,none⟩=some (.int .i64 x.k)/\w.cell? ⟨b,o+j * 3+1,none⟩=some (.string x.name)/\w.cell? ⟨b,o+j * 3+2,none⟩=some (.slice A1 x.l.length c1)/\x.l.length<=c1/\exR.row w F A1 x.l:=by
 obtain⟨b,o,cs,hA,hF,hb,hr,hc⟩:=Rp.x42 h hx
 obtain⟨A1,c1,rfl,hle,hrow⟩:=ExRep.parts hr
 exact⟨b,o,A1,c1,hA,hF,hb,hc 0 _ rfl,hc 1 _ rfl,hc 2 _ rfl,hle,hrow⟩
abbrev intR:Rp Int:=Rp.int .i64
theorem int_at {xs:List Int} (h:intR.row w F A xs) {j:Nat} {x:Int} (hx:xs[j]?=some x) :
 ∃ b o,A=some ⟨b,o,none⟩/\F b/\b < w.heap.size/\w.cell? ⟨b,o+j,none⟩=some (.int .i64 x):=by
 obtain⟨b,o,cs,hA,hF,hb,hr,hc⟩:=Rp.x42 h hx
 have hr':cs=[.int .i64 x]:=hr
 subst hr'
 have:=hc 0 _ rfl
 rw[show (intR.sz)=1 from rfl,Nat.mul_one] at this
 exact⟨b,o,hA,hF,hb,this⟩
structure Grp where
 name:ByteArray
 types:List Int
def grpR:Rp Grp where
 sz:=2
 rep:=fun w F x cs=>∃ A c,cs=[.string x.name,.slice A x.types.length c]/\x.types.length<=c/\intR.row w F A x.types
 len:=by
  rintro w F x cs ⟨A,c,rfl,_⟩
  rfl
 one:=by
  rintro w F x cs ⟨A,c,rfl,_⟩ u hu
  simp at hu
  rcases hu with rfl | rfl <;> rfl
 move:=by
  rintro w w1 F G x cs hm ⟨A,c,rfl,hl,hr⟩
  exact⟨A,c,rfl,hl,Rp.x1d hm hr⟩
theorem grp_at {xs:List Grp} (h:grpR.row w F A xs) {j:Nat} {x:Grp} (hx:xs[j]?=some x) :
 ∃ b o A1 c1,A=some ⟨b,o,none⟩/\F b/\b < w.heap.size/\w.cell? ⟨b,o+j * 2,none⟩=some (.string x.name)/\w.cell? ⟨b,o+j * 2+1,none⟩=some (.slice A1 x.types.length c1)/\x.types.length<=c1/\intR.row w F A1 x.types:=by
 obtain⟨b,o,cs,hA,hF,hb,hr,hc⟩:=Rp.x42 h hx
 obtain⟨A1,c1,rfl,hle,hrow⟩:=hr
 exact⟨b,o,A1,c1,hA,hF,hb,hc 0 _ rfl,hc 1 _ rfl,hle,hrow⟩
theorem x3n:(Tryz.prog.info? 3).map (fun i=>(i.zero,i.size,i.bytes))=some (some (.int .i64 0),1,8):=by kernel_rfl
theorem x3u {k:IntKind} {a b:Int} (h:a=b):Ending.returned (.int k a)=.returned (.int k b):=by rw[h]
theorem x53 {α:Type} {l:List α} {k:Nat} {x:α} (h:l[k]?=some x):l.drop k=x :: l.drop (k+1):=by
 obtain⟨hk,he⟩:=List.getElem?_eq_some_iff.1 h
 rw[List.drop_eq_getElem_cons hk,he]
abbrev Ex.val (e:Ex) (A:Option Addr) (c:Nat):Value:=.agg #[.int .i64 e.k,.string e.name,.slice A e.l.length c]
theorem size_all (N:Nat):∀ (e:Ex),e.cnt<=N->N<=1048576 * 4->∀ (F:Nat->Prop) (A:Option Addr) (c:Nat) (w:World),exR.row w F A e.l ->
 Calls Tryz.prog 186 #[e.val A c] w fun r w'=>r=.returned (.tuple #[.int .i64 e.cnt,.int .i64 e.dep])/\Pure w w':=by
 induction N with
 | zero=>intro e he;have:=e.x3r;omega
 | succ N ih=>
   intro e he hN F A c w hr
   obtain⟨k0,nm,l⟩:=e
   have HI:=mK (fun (x:Ex) (hx:x.cnt<=N)=>ih x hx (by omega))
   have HR:=mK hr
   have hc0:Ex.cnts l<=N:=by simp only[Ex.cnt] at he;omega
   have hd0:Ex.deps l<=Ex.cnts l:=Ex.x4g l
   have hll:l.length<=Ex.cnts l:=by
    clear he HI HR hr hc0 hd0
    induction l with
    | nil=>simp
    | cons x r ih=>have:=x.x3r;simp only[Ex.cnts,List.length_cons];omega
   clear hr he ih
   go_enter Tryz.func186,Tryz.ntmps186
   go_wp2
   go_loopg [4,5,13] l.length (fun g n d i wr=>∃ k:Nat,k+g=l.length/\i=.int .i64 k/\n=.int .i64 ((1+Ex.cnts (l.take k):Nat):Int)/\d=.int .i64 ((Ex.deps (l.take k):Nat):Int)/\As (Pure w wr))
   case atStart=>exact⟨0,by omega,rfl,rfl,rfl,⟨rU.alloc _⟩⟩
   case round=>
    obtain⟨k,hk,rfl,rfl,rfl,HP⟩:=hrel
    by_cases hlt:k < l.length
    ·obtain⟨x,hx⟩:=gS hlt
     obtain⟨b,o,A1,c1,rfl,hF,hbl,c0,c1',c2,hle1,hrow1⟩:=ex_at (Rp.x01 HR.o HP.o) hx
     obtain⟨g1,rfl⟩:=sC1 (by omega:0 < gk)
     have hx1:x.cnt<=N:=Nat.le_trans (Ex.x52 (List.mem_of_getElem? hx)) hc0
     have hct:=Ex.cnts_take l k
     have hct2:=Ex.cnts_take l (k+1)
     have hdt:=Ex.x4g (l.take k)
     have hxd:=Ex.x5w x
     have H1:=mK (Ex.cnts_succ hx)
     have H2:=mK (Ex.deps_succ hx)
     rw[H1.o] at hct2
     have HR1:=mK hrow1
     have HK:=mK hk
     clear hrow1 hk hx
     go_wp2_with (go_at_call 186;refine(HI.o x hx1 _ _ c1 _ (Rp.x01 HR1.o aU)).mono ?_;rintro e w1 ⟨rfl,hu⟩;have HU:=mK (show Pure wr w1 from Upd.trans aU hu (fun _ _ h=>h));clear hu)
     all_goals
      go_roundg g1
      case measure=>omega
      case rel=>exact⟨k+1,by have:=HK.o;omega,by go_num,by rw[H1.o];go_num,by rw[H2.o];congr 1;omega,⟨Upd.trans HP.o HU.o (fun _ _ h=>h)⟩⟩
    ·have hkl:k=l.length:=by omega
     subst hkl
     rw[List.take_length]
     go_wp2
     go_ret2
     refine⟨?_,HP.o⟩
     simp only[Ex.cnt,Ex.dep,Int.natCast_add,Int.add_comm]
     rfl
theorem size_calls {e:Ex} (hr:exR.row w F A e.l) (hb:e.cnt<=1048576 * 4) :
 Calls Tryz.prog 186 #[e.val A c] w fun r w'=>r=.returned (.tuple #[.int .i64 e.cnt,.int .i64 e.dep])/\Pure w w':=
 size_all (1048576 * 4) e hb (Nat.le_refl _) F A c w hr
theorem x1h (s:ByteArray):s.toList.isEmpty=decide (s.size=0):=by
 rw[ByteArray.toList_eq]
 have e:s.data.toList.length=s.size:=by rw[Array.length_toList];rfl
 cases h:s.data.toList with
 | nil=>rw[h] at e;simp at e;simp[<- e]
 | cons x r=>rw[h] at e;simp at e;simp[<- e]
/-- A name: small letters, one at the least. -/
def lettB (c:UInt8):Bool:=decide (97<=c.toNat) && decide (c.toNat<=122)
def nameB (s:ByteArray):Bool:=s.data.toList.all lettB && decide (s.size ≠ 0)
/-- A tree is, within one of the kind i. -/
def x23 (k:Int):Nat:=if k=0 then 0 else if k=2\/k=3 then 2 else 1
def mostE (k:Int) (n:Nat):Nat:=if k=0 then 0 else if k=2\/k=3 then n else 1
mutual
def Ex.okB:Int->Ex->Bool
 | i,.mk k nm l=>
   if k=1 then nameB nm && decide (l.length=0)
   else if (k=0/\i ≠ 0)\/((k=2\/k=3)/\i=k)\/¬ (k=0\/k=2\/k=3\/k=4\/k=5\/k=6) then false
   else Ex.oksB k l && decide (nm.size=0) && decide (x23 k<=l.length) && decide (l.length<=mostE k l.length)
def Ex.oksB:Int->List Ex->Bool
 | _,[]=>true
 | i,x :: r=>Ex.okB i x && Ex.oksB i r
end
theorem Ex.oksB_all (i:Int) (l:List Ex):Ex.oksB i l=l.all (Ex.okB i):=by
 induction l with
 | nil=>rfl
 | cons x r ih=>simp[Ex.oksB,ih]
theorem Ex.oks_succ {i:Int} {l:List Ex} {k:Nat} {x:Ex} (hx:l[k]?=some x):Ex.oksB i (l.take (k+1))=(Ex.oksB i (l.take k) && Ex.okB i x):=by
 rw[List.take_add_one,hx,Ex.oksB_all,Ex.oksB_all,List.all_append]
 simp
theorem Ex.oks_mem {i:Int} {l:List Ex} {x:Ex} (hx:x ∈ l) (h:Ex.okB i x=false):Ex.oksB i l=false:=by
 rw[Ex.oksB_all,List.all_eq_false]
 exact⟨x,hx,by simp[h]⟩
theorem right_early {i k:Int} {nm:ByteArray} {l:List Ex} (h1:k ≠ 1) (h:(k=0/\i ≠ 0)\/((k=2\/k=3)/\i=k)\/¬ (k=0\/k=2\/k=3\/k=4\/k=5\/k=6)):Ex.okB i (.mk k nm l)=false:=by
 rw[Ex.okB,if_neg h1,if_pos h]
theorem x4n {i k:Int} {nm:ByteArray} {l:List Ex} (h1:k ≠ 1) (h:¬ ((k=0/\i ≠ 0)\/((k=2\/k=3)/\i=k)\/¬ (k=0\/k=2\/k=3\/k=4\/k=5\/k=6))) :
 Ex.okB i (.mk k nm l)=(Ex.oksB k l && decide (nm.size=0) && decide (x23 k<=l.length) && decide (l.length<=mostE k l.length)):=by
 rw[Ex.okB,if_neg h1,if_neg h]
/-- The box of an expression. -/
def BoxE (b:Nat) (k:Int) (nm:ByteArray) (n:Nat) (A:Option Addr) (c:Nat) (w:World):Prop:=
 w.cell? ⟨b,0,none⟩=some (.int .i64 k)/\w.cell? ⟨b,1,none⟩=some (.string nm)/\w.cell? ⟨b,2,none⟩=some (.slice A n c)/\b < w.heap.size
theorem BoxE.pure {b:Nat} {k:Int} {nm:ByteArray} {n:Nat} (h:BoxE b k nm n A c w) (hu:Pure w w1):BoxE b k nm n A c w1:=by
 obtain⟨h0,h1,h2,h3⟩:=h
 exact⟨(hu.cell h3 (fun h=>h)).trans h0,(hu.cell h3 (fun h=>h)).trans h1,(hu.cell h3 (fun h=>h)).trans h2,Nat.lt_of_lt_of_le h3 hu.size⟩
theorem BoxE.new (w:World) (k:Int) (nm:ByteArray) (n:Nat) (A:Option Addr) (c:Nat) (t:TypeId):BoxE w.heap.size k nm n A c (w.alloc (.cells #[.int .i64 k,.string nm,.slice A n c] t)):=by
 have h:=heap_alloc_new w (.cells #[.int .i64 k,.string nm,.slice A n c] t)
 exact⟨by unfold World.cell?;simp only[h];rfl,by unfold World.cell?;simp only[h];rfl,by unfold World.cell?;simp only[h];rfl,by simp⟩
end Go.Proofs.YtofjodppljnlaaaGreatDoor
namespace Go.Proofs.YtofjodppljnlaaaGreatDoor
open Go.ChangeShapes Go.WideShapes Go.ChangeAt Go.RowKit
/-- What data of type t gives: a Lean value that the cells say, of which Q holds at its bulk. -/
def Opens {α:Type} (P:Program) (t:TypeId) (d:Rp α) (Q:α->Nat->Prop):Prop:=
 ∀ (H:Type) (enc:TypeId × Value->H) (w:World) (base:Nat) (spare:Nat->Bool) (held:Bool) (fuel:Nat) (cs:List Value) (x:DataW H × List MemPlace),
  DataW.trod enc P w base spare held fuel t cs=some x->∃ y,d.rep w (fun k=>k < w.heap.size) y cs/\Q y (Rows.uptoBulk x.1)
theorem bulk_pos {H:Type} (d:DataW H):1<=Rows.uptoBulk d:=by
 cases d with
 | lit l=>cases l <;> simp[Rows.uptoBulk]
 | nil=>simp[Rows.uptoBulk]
 | ptr d=>simp[Rows.uptoBulk]
 | slice elems spare=>simp[Rows.uptoBulk]
 | agg parts=>simp[Rows.uptoBulk]
 | iface t d=>simp[Rows.uptoBulk]
 | map entries=>simp[Rows.uptoBulk]
 | held h=>simp[Rows.uptoBulk]
theorem bulk_part {H:Type} {d:DataW H} {l:List (DataW H)} (h:d ∈ l):Rows.uptoBulk d<=Rows.uptoBulkAll l:=by
 induction l with
 | nil=>cases h
 | cons x r ih=>
   simp only[Rows.uptoBulkAll]
   cases List.mem_cons.1 h with
   | inl e=>subst e;omega
   | inr e=>have:=ih e;omega
theorem bulk_len {H:Type} (l:List (DataW H)):l.length<=Rows.uptoBulkAll l:=by
 induction l with
 | nil=>simp[Rows.uptoBulkAll]
 | cons x r ih=>have:=bulk_pos x;simp only[Rows.uptoBulkAll,List.length_cons];omega
theorem choose_list {α:Type} (P:Nat->α->Prop):∀ n:Nat,(∀ i,i < n->∃ y,P i y)->∃ l:List α,l.length=n/\∀ i y,l[i]?=some y->P i y:=by
 intro n
 induction n with
 | zero=>intro _;exact⟨[],rfl,by simp⟩
 | succ n ih=>
   intro h
   obtain⟨l,hl,hp⟩:=ih (fun i hi=>h i (by omega))
   obtain⟨y,hy⟩:=h n (by omega)
   refine⟨l ++ [y],by simp[hl],fun i z hz=>?_⟩
   rcases Nat.lt_or_ge i l.length with hi | hi
   ·rw[List.getElem?_append_left hi] at hz
    exact hp i z hz
   ·rw[List.getElem?_append_right hi] at hz
    match hk:i - l.length,hz with
    | 0,hz=>
      simp[hk] at hz
      subst hz
      obtain rfl:i=n:=by omega
      exact hy
    | k+1,hz=>simp[hk] at hz
def QSlice {α:Type} (Q:α->Nat->Prop) (l:List α) (n:Nat):Prop:=l.length < n/\∀ y ∈ l,∃ m,m < n/\Q y m
theorem opens_slice {α:Type} {P:Program} {t e:TypeId} {d:Rp α} {Q:α->Nat->Prop} (ht:P.underlying t=some (.slice e)) (hc:P.cellsOf e=d.sz) (hs:0 < d.sz) (he:Opens P e d Q):Opens P t d.slice (QSlice Q):=by
 intro H enc w base spare held fuel cs x h
 rcases Deep.open_slice ht h with ⟨rfl,rfl⟩ | ⟨a,len,cap,m,n,D,Pl,rfl,hb,hl,hm,hmm,rfl,hi⟩
 ·exact⟨[],⟨none,0,rfl,Nat.le_refl _,.inl rfl⟩,by simp[Rows.uptoBulk],by simp⟩
 ·have hlm:len<=m:=by rw[hmm];split <;> omega
  obtain⟨l,hll,hp⟩:=choose_list (fun i y=>∃ cs',w.cells? base (a.add (i * P.cellsOf e)) (P.cellsOf e)=some cs'/\d.rep w (fun k=>k < w.heap.size) y cs'/\Q y (Rows.uptoBulk (D i))) len (fun i hlt=>by
   obtain⟨cs',h1,h2⟩:=hi i (by omega)
   obtain⟨y,hy,hq⟩:=he H enc w base spare held n cs' _ h2
   exact⟨y,cs',h1,hy,hq⟩)
  refine⟨l,⟨some a,cap,by rw[hll],by omega,?_⟩,?_,?_⟩
  ·cases l with
   | nil=>exact .inl rfl
   | cons y r=>
     obtain⟨cs',h1,h2,_⟩:=hp 0 y rfl
     obtain⟨_,hcl,hat⟩:=World.cells?_some h1
     have h0:=hat 0 (by omega)
     have hlt:0 < cs'.length:=by omega
     rw[List.getElem?_eq_getElem hlt] at h0
     obtain⟨b,o,sp⟩:=a
     have hsp:sp=none:=by
      cases sp with
      | none=>rfl
      | some q=>
        simp[World.cell?,Addr.add] at h0
        split at h0 <;> simp_all
     subst hsp
     have hadd:∀ o j,(⟨b,o,none⟩:Addr).add j=⟨b,o+j,none⟩:=fun o j=>by unfold Addr.add;split <;> simp_all
     have hblt:b < w.heap.size:=by
      have:=World.block_lt_of_cell? w _ h0
      rw[hadd,hadd] at this
      exact this
     refine .inr ⟨b,o,rfl,hblt,hblt,fun j z hz=>?_⟩
     obtain⟨cs2,h3,h4,_⟩:=hp j z hz
     obtain⟨_,hcl2,hat2⟩:=World.cells?_some h3
     refine⟨cs2,h4,fun i u hu=>?_⟩
     have hi2:i < cs2.length:=(List.getElem?_eq_some_iff.1 hu).1
     have:=hat2 i (by omega)
     rw[hadd,hadd,hc] at this
     rw[this,hu]
  ·have h1:=bulk_len ((List.range len).map D)
   simp only[Rows.uptoBulk,List.length_map,List.length_range] at h1 ⊢
   omega
  ·intro y hy
   obtain⟨i,hi2⟩:=List.getElem?_of_mem hy
   obtain⟨cs',_,_,hq⟩:=hp i y hi2
   have hil:i < len:=by have:=(List.getElem?_eq_some_iff.1 hi2).1;omega
   refine⟨_,?_,hq⟩
   have:=bulk_part (d:=D i) (l:=(List.range len).map D) (List.mem_map.2 ⟨i,List.mem_range.2 hil,rfl⟩)
   simp only[Rows.uptoBulk]
   omega
end Go.Proofs.YtofjodppljnlaaaGreatDoor
