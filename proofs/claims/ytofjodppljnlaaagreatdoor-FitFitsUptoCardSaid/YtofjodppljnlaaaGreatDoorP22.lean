/- My own texts, packed: NetT, NetV, NetR, NetX. -/
import Derived.Test.YtofjodppljnlaaaGreatDoorP20
import Derived.Laws.OwnMore
set_option maxRecDepth 100000
set_option maxHeartbeats 4000000
set_option linter.unusedVariables false
set_option linter.unusedSimpArgs false
variable {w w1 W:Go.World} {F G:Nat → Prop} {A B:Option Go.Addr} {cb c:Nat}
namespace Go.Proofs.YtofjodppljnlaaaGreatDoor
open Go.RowKit
theorem lay_sign (k0:Int) (nm:ByteArray) (l:List Ex) (h0:k0 ≠ 0) (h1:k0 ≠ 1) (h2:k0 ≠ 2) (h3:k0 ≠ 3) (hI:∀ x ∈ l,LayC x):LayD (.mk k0 nm l):=by
 intro w B M F G nb N A Ag c cg a b g h ok ha hb hr hgr hF hG hl hw hgl
 have HL:=mK (LayS.mk' (k0:=k0) (nm:=nm) (l:=l) (c:=c) h hr hgr hF hG 92)
 have HF:=mK hF
 have HG:=mK hG
 rw[liveE,if_neg h0,if_neg h1,if_neg h2,if_neg h3] at hl
 have HE:=mK (show layE (typesOf g) (.mk k0 nm l) a b N=_ by rw[layE,if_neg h0,if_neg h1,if_neg h2,if_neg h3])
 obtain⟨x,r,rfl⟩:∃ x r,l=x :: r:=by
  cases l with
  | nil=>exact absurd rfl hl.1
  | cons x r=>exact⟨x,r,rfl⟩
 have HI:=mK (hI x (List.mem_cons_self ..))
 have HLV:=mK (show liveE (typesOf g) x by have:=hl.2;rw[x1p] at this;exact this.1)
 rw[Ex.cnt,Ex.cnts] at hw
 obtain⟨bb,o,_,_,rfl,_,_,_,_,_,_,_⟩:=ex_at (j:=0) (x:=x) hr rfl
 have ok1:=NetD.x4f ok
 have ok2:=NetD.x4f ok1
 have l1:=N.x1o
 have l2:=N.place.x1o
 have ok3:=NetD.x4s ok2 (a:=a) (b:=N.nx.length) (by omega)
 have l3:=N.place.place.x2t a N.nx.length
 have w1:=N.x4y
 have w2:=N.place.x4y
 have w3:=N.place.place.x4j a N.nx.length
 have hL:=laid_E (typesOf g) x (N.place.place.free a N.nx.length) N.nx.length (N.nx.length+1) ok3 (by omega) (by omega)
 have l4:=hL.le
 have ok4:=hL.ok
 have w4:=layE_wt (typesOf g) x N.nx.length (N.nx.length+1) (N.place.place.free a N.nx.length)
 have HX4:=mK (show x3l (typesOf g) (x :: r) N.nx.length (N.nx.length+1) (N.place.place.free a N.nx.length)=layE (typesOf g) x N.nx.length (N.nx.length+1) (N.place.place.free a N.nx.length) by rw[x3l])
 rw[HX4.o] at HE
 generalize hN4:layE (typesOf g) x N.nx.length (N.nx.length+1) (N.place.place.free a N.nx.length)=N4 at *
 have ok5:=NetD.x4s ok4 (a:=N.nx.length+1) (b:=b) (by omega)
 have l5:=N4.x2t (N.nx.length+1) b
 have w5:=N4.x4j (N.nx.length+1) b
 have ok6:=NetD.x4s ok5 (a:=N.nx.length+1) (b:=N.nx.length) (by omega)
 have l6:=(N4.free (N.nx.length+1) b).x2t (N.nx.length+1) N.nx.length
 have w6:=(N4.free (N.nx.length+1) b).x4j (N.nx.length+1) N.nx.length
 have HOK:=mK (And.intro ok (And.intro ok1 (And.intro ok2 (And.intro ok3 (And.intro ok4 (And.intro ok5 ok6))))))
 have HW:As (N.wt<=1048576/\N.place.wt<=1048576/\N.place.place.wt<=1048576/\(N.place.place.free a N.nx.length).wt+8 * x.cnt<=1048576/\N4.wt<=1048576/\(N4.free (N.nx.length+1) b).wt<=1048576/\((N4.free (N.nx.length+1) b).free (N.nx.length+1) N.nx.length).wt<=1048576):=⟨by omega,by omega,by omega,by omega,by omega,by omega,by omega⟩
 have HA:As (a < N.place.place.nx.length/\N.nx.length < (N.place.place.free a N.nx.length).nx.length/\N.nx.length+1 < (N.place.place.free a N.nx.length).nx.length/\N.nx.length+1 < N4.nx.length/\N.nx.length+1 < (N4.free (N.nx.length+1) b).nx.length/\a < (N4.free (N.nx.length+1) b).nx.length/\a < ((N4.free (N.nx.length+1) b).free (N.nx.length+1) N.nx.length).nx.length):=⟨by omega,by omega,by omega,by omega,by omega,by omega,by omega⟩
 have HP1:=mK l1
 have HE4:=mK hN4
 generalize hd:N.nx.length+1=dd at *
 clear hd
 clear h hr hgr hF hG hl hw ok hI ha hb ok1 ok2 ok3 ok4 ok5 ok6 l1 l2 l3 l4 l5 l6 w1 w2 w3 w4 w5 w6 hL hN4 HX4
 show Calls Tryz.prog 171 #[.pointer (some ⟨nb,0,none⟩),.agg #[.int .i64 k0,.string nm,.slice (some ⟨bb,o,none⟩) (x :: r).length c],.slice Ag g.length cg,.int .i64 a,.int .i64 b] w _
 go_enter Tryz.func171,Tryz.ntmps171
 go_wp2_with (go_at_call 170;refine(place_go HL.o.go HOK.o.1 HW.o.1).mono ?_;rintro e w1 ⟨rfl,hn⟩;have HN1:=mK hn;clear hn;apply As.o)
 refine⟨?_⟩
 clear h0 h1 h2 h3
 go_wp2_with (go_at_call 170;refine(place_go2 HN1.o HOK.o.2.1 HW.o.2.1 HP1.o).mono ?_;rintro e w2 ⟨rfl,hn⟩;have HN2:=mK hn;clear hn;apply As.o)
 refine⟨?_⟩
 go_wp2_with (go_at_call 200;refine(x54 HN2.o HOK.o.2.2.1 HW.o.2.2.1 HA.o.1).mono ?_;rintro e w3 ⟨rfl,hn⟩;have HN3:=mK hn;clear hn;apply As.o)
 refine⟨?_⟩
 obtain⟨q0,q1,q2,q3⟩:=HL.o.box.go HN3.o HL.o.nM
 obtain⟨A1,c1,hbl,d0,d1,d2,hle1,hrow1⟩:=ex_at2 (j:=0) (x:=x) (HL.o.row _ _ HN3.o) rfl
 simp only[Nat.zero_mul,Nat.add_zero] at d0 d1 d2
 have HR1:=mK hrow1
 have HG1:=mK (HL.o.grp _ _ HN3.o)
 clear hrow1
 go_wp2_with (go_at_call 171;refine(HI.o _ _ B M F G nb _ A1 Ag c1 cg _ _ g HN3.o HOK.o.2.2.2.1 HA.o.2.1 HA.o.2.2.1 HR1.o HG1.o HF.o HG.o HLV.o HW.o.2.2.2.1 hgl).mono ?_;rintro e w4 ⟨rfl,hn⟩;rw[HE4.o] at hn;have HN4:=mK hn;clear hn;apply As.o)
 refine⟨?_⟩
 clear q0 q1 q2 q3 hbl d0 d1 d2
 go_wp2_with (go_at_call 200;refine(x54 HN4.o HOK.o.2.2.2.2.1 HW.o.2.2.2.2.1 HA.o.2.2.2.1).mono ?_;rintro e w5 ⟨rfl,hn⟩;have HN5:=mK hn;clear hn;apply As.o)
 refine⟨?_⟩
 obtain⟨q0,q1,q2,q3⟩:=HL.o.box.go HN5.o HL.o.nM
 by_cases h6:k0=6
 ·subst h6
  go_wp2_with (go_at_call 200;refine(x54 HN5.o HOK.o.2.2.2.2.2.1 HW.o.2.2.2.2.2.1 HA.o.2.2.2.2.2.1).mono ?_;rintro e w6 ⟨rfl,hn⟩;have HN6:=mK hn;clear hn)
  go_end0
  refine⟨rfl,?_⟩
  have e1:=HE.o
  simp at e1
  rw[e1]
  exact HL.o.start _ _ HN6.o
 ·by_cases h5:k0=5
  ·subst h5
   go_wp2_with (go_at_call 200;refine(x54 HN5.o HOK.o.2.2.2.2.2.1 HW.o.2.2.2.2.2.1 HA.o.2.2.2.2.1).mono ?_;rintro e w6 ⟨rfl,hn⟩;have HN6:=mK hn;clear hn;apply As.o)
   refine⟨?_⟩
   clear q0 q1 q2 q3
   obtain⟨q0,q1,q2,q3⟩:=HL.o.box.go HN6.o HL.o.nM
   go_wp2
   go_end0
   refine⟨rfl,?_⟩
   have e1:=HE.o
   simp at e1
   rw[e1]
   exact HL.o.start _ _ HN6.o
  ·have HZ:=mK (And.intro h5 h6)
   have h5':(k0 == 5)=false:=by simp[h5]
   have h6':(k0 == 6)=false:=by simp[h6]
   clear h5 h6
   go_wp2_with (go_at_call 200;refine(x54 HN5.o HOK.o.2.2.2.2.2.1 HW.o.2.2.2.2.2.1 HA.o.2.2.2.2.1).mono ?_;rintro e w6 ⟨rfl,hn⟩;have HN6:=mK hn;clear hn;apply As.o)
   refine⟨?_⟩
   clear q0 q1 q2 q3
   obtain⟨q0,q1,q2,q3⟩:=HL.o.box.go HN6.o HL.o.nM
   go_wp2_with (go_at_call 200;refine(x54 HN6.o HOK.o.2.2.2.2.2.2 HW.o.2.2.2.2.2.2 HA.o.2.2.2.2.2.2).mono ?_;rintro e w7 ⟨rfl,hn⟩;have HN7:=mK hn;clear hn)
   go_end0
   refine⟨rfl,?_⟩
   have e1:=HE.o
   simp[HZ.o.1,HZ.o.2] at e1
   rw[e1]
   exact HL.o.start _ _ HN7.o
theorem lay_all:∀ (n:Nat) (e:Ex),e.cnt<=n->LayD e:=by
 intro n
 induction n with
 | zero=>intro e he;have:=e.x3r;omega
 | succ n ih=>
   intro e he
   obtain⟨k0,nm,l⟩:=e
   have hI:∀ x ∈ l,LayC x:=fun x hx=>LayC.of (ih x (by have:=Ex.x52 hx;rw[Ex.cnt] at he;omega))
   by_cases h0:k0=0
   ·subst h0;exact lay_none nm l
   ·by_cases h1:k0=1
    ·subst h1;exact lay_name nm l
    ·by_cases h2:k0=2
     ·subst h2;exact lay_seq nm l hI
     ·by_cases h3:k0=3
      ·subst h3;exact lay_alt nm l hI
      ·exact lay_sign k0 nm l h0 h1 h2 h3 hI
theorem made_calls {Ag:Option Addr} {cg:Nat} {e:Ex} {g:List Grp} (hr:exR.row w F A e.l) (hgr:grpR.row w G Ag g) (hF:∀ k,F k->k < w.heap.size) (hG:∀ k,G k->k < w.heap.size) (hl:liveE (typesOf g) e) (hw:8 * e.cnt<=1000000) (hgl:g.length<=1048576) :
 Calls Tryz.prog 134 #[e.val A c,.slice Ag g.length cg] w fun r w'=>(∃ nb,r=.returned (.pointer (some ⟨nb,0,none⟩))/\NetV w' nb (netOf (typesOf g) e))/\Pure w w':=by
 obtain⟨k0,nm,l⟩:=e
 generalize hX:w.alloc (.cells #[.int .i64 k0,.string nm,.slice A l.length c] 92)=X
 have hPX:Pure w X:=hX ▸ rU.alloc _
 have hXs:X.heap.size=w.heap.size+1:=by rw[<- hX];simp
 have HB:=mK (show BoxE w.heap.size k0 nm l.length A c X from hX ▸ BoxE.new _ _ _ _ _ _ _)
 have HX:=mK hX
 have hn0:=netE_new X
 rw[hXs] at hn0
 have hS0:NetGo (X.alloc (.cells #[.slice none 0 0,.slice none 0 0,.slice none 0 0] 229)) (X.alloc (.cells #[.slice none 0 0,.slice none 0 0,.slice none 0 0] 229)) (w.heap.size+1) (fun k=>k=w.heap.size+1) (w.heap.size+1) netE:=NetGo.refl hn0
 generalize hW:X.alloc (.cells #[.slice none 0 0,.slice none 0 0,.slice none 0 0] 229)=W at *
 have hPW:Pure X W:=hW ▸ rU.alloc _
 have HROW:As (∀ w' N',NetGo W w' (w.heap.size+1) (fun k=>k=w.heap.size+1) (w.heap.size+1) N'->exR.row w' F A l/\grpR.row w' G Ag g/\BoxE w.heap.size k0 nm l.length A c w'):=⟨fun w' N' hn=>by
  have hu:=hn.upd
  refine⟨Rp.x0f (Rp.x01 (Rp.x01 hr hPX) hPW) hu (fun k _ hk hM=>by have:=hF k hk;omega),Rp.x0f (Rp.x01 (Rp.x01 hgr hPX) hPW) hu (fun k _ hk hM=>by have:=hG k hk;omega),BoxE.go (HB.o.pure hPW) hn (by omega)⟩⟩
 have HEND:As (∀ w' N',NetGo W w' (w.heap.size+1) (fun k=>k=w.heap.size+1) (w.heap.size+1) N'->NetV w' (w.heap.size+1) N'/\Pure w w'):=⟨fun w' N' hn=>by
  obtain⟨M',⟨lab,tv,bv,nv,vs,hs⟩,_,hu⟩:=hn
  refine⟨hs.view,hPX.trans (hPW.trans hu (fun k hk h=>by omega)) (fun _ _ h=>h)⟩⟩
 have HFX:As (∀ k,F k->k < w.heap.size+1):=⟨fun k hk=>by have:=hF k hk;omega⟩
 have HGX:As (∀ k,G k->k < w.heap.size+1):=⟨fun k hk=>by have:=hG k hk;omega⟩
 have HS0:=mK hS0
 have HW:=mK hW
 have HL:=mK hl
 have hcw:net0.wt+8 * (Ex.mk k0 nm l).cnt<=1048576:=by have:net0.wt=2:=rfl;omega
 have HLY:=mK (LayC.of (lay_all _ (.mk k0 nm l) (Nat.le_refl _)))
 have HCW:=mK hcw
 clear hr hgr hF hG hl hw hcw hn0 hS0 hPX hPW
 show Calls Tryz.prog 134 #[.agg #[.int .i64 k0,.string nm,.slice A l.length c],.slice Ag g.length cg] w _
 go_enter Tryz.func134,Tryz.ntmps134
 go_wp2_with (go_at_call 170;refine(place_go2 (n:=0) HS0.o netE_ok (by decide) rfl).mono ?_;rintro e w1 ⟨rfl,hn⟩;have HN1:=mK hn;clear hn;apply As.o)
 refine⟨?_⟩
 go_wp2_with (go_at_call 170;refine(place_go2 (n:=1) HN1.o (NetD.x4f netE_ok) (by decide) rfl).mono ?_;rintro e w2 ⟨rfl,hn⟩;rw[net0_eq] at hn;have HN2:=mK hn;clear hn;apply As.o)
 refine⟨?_⟩
 obtain⟨hr2,hg2,q0,q1,q2,q3⟩:=HROW.o _ _ HN2.o
 have HR2:=mK hr2
 have HG2:=mK hg2
 clear hr2 hg2
 go_wp2_with (go_at_call 171;refine(HLY.o _ _ _ _ F G _ net0 A Ag c cg 0 1 g HN2.o net0_ok (by decide) (by decide) HR2.o HG2.o HFX.o HGX.o HL.o HCW.o hgl).mono ?_;rintro e w3 ⟨rfl,hn⟩;have HN3:=mK hn;clear hn)
 go_ret
 obtain⟨h1,h2⟩:=HEND.o _ _ HN3.o
 exact⟨⟨_,rfl,h1⟩,h2⟩
/-- The places to which a word leads. -/
structure Plc (N:NetD) (u:List Int) (out:List Bool):Prop where
 len:out.length=N.nx.length
 iff:∀ j,out.getD j false=true ↔ Rch N.E 0 u j
theorem rch_one {N:NetD} {p j:Nat} {u:List Int} (h:Rch N.E p u j):∀ t,u=[t]->∃ (i q:Nat),Rch N.E p [] i/\t ∈ N.bys.getD i []/\N.nx.getD i (-1)=(q:Int)/\Rch N.E q [] j:=by
 induction h with
 | nil p=>intro t h;cases h
 | cons he hr ih=>
   intro t hu
   rcases he with ⟨rfl,hm⟩ | ⟨t',rfl,h1,h2⟩
   ·obtain⟨i,q,a,b,c,d⟩:=ih t hu
    exact⟨i,q,by simpa using Rch.cons (u:=[]) (.inl ⟨rfl,hm⟩) a,b,c,d⟩
   ·simp only[List.cons_append,List.nil_append,List.cons.injEq] at hu
    obtain⟨rfl,rfl⟩:=hu
    exact⟨_,_,.nil _,h1,h2,hr⟩
theorem Plc.first {N:NetD} {out:List Bool} {n:Nat} (h0:0 < n) (h:SpreadR N ((List.replicate n false).set 0 true) out):Plc N [] out:=by
 refine⟨h.len,fun j=>(h.iff j).trans ⟨fun ⟨i,hi,hr⟩=>?_,fun hr=>⟨0,?_,hr⟩⟩⟩
 ·rw[x47] at hi
  split at hi
  ·rename_i hc
   rw[hc.1];exact hr
  ·simp[List.getD,List.getElem?_replicate] at hi
   split at hi <;> simp at hi
 ·rw[x47,if_pos ⟨rfl,by simpa using h0⟩]
/-- What the loop of step has laid. -/
def StpK (N:NetD) (inn:List Bool) (t:Int) (k:Nat) (xs:List Bool):Prop:=∀ q:Nat,xs.getD q false=true ↔ ∃ i,i < k/\inn.getD i false=true/\t ∈ N.bys.getD i []/\N.nx.getD i (-1)=(q:Int)
def StpQ (N:NetD) (inn:List Bool) (t:Int) (k m:Nat) (xs:List Bool):Prop:=∀ q:Nat,xs.getD q false=true ↔ (∃ i,i < k/\inn.getD i false=true/\t ∈ N.bys.getD i []/\N.nx.getD i (-1)=(q:Int))\/(inn.getD k false=true/\t ∈ (N.bys.getD k []).take m/\N.nx.getD k (-1)=(q:Int))
structure StpR (N:NetD) (u:List Int) (out:List Bool) (some:Bool):Prop where
 plc:Plc N u out
 any:some=true ↔ ∃ j,Rch N.E 0 u j
theorem StpR.done {N:NetD} {inn xs out:List Bool} {u:List Int} {t:Int} {some:Bool} {n:Nat} (hok:N.Ok) (hn:n=N.nx.length) (hp:Plc N u inn) (hs:StpK N inn t n xs) (ha:some=true ↔ ∃ q,xs.getD q false=true) (h:SpreadR N xs out):StpR N (u ++ [t]) out some:=by
 have key:∀ j,(∃ q,xs.getD q false=true/\Rch N.E q [] j) ↔ Rch N.E 0 (u ++ [t]) j:=by
  intro j
  constructor
  ·rintro ⟨q,hq,hr⟩
   obtain⟨i,_,h1,h2,h3⟩:=(hs q).1 hq
   have h4:Rch N.E i [t] q:=Rch.one (.inr ⟨t,rfl,h2,h3⟩)
   exact((hp.iff i).1 h1).trans (by simpa using h4.trans hr)
  ·intro hr
   obtain⟨r,h1,h2⟩:=hr.split u [t] rfl
   obtain⟨i,q,a,b,c,d⟩:=rch_one h2 t rfl
   have h3:Rch N.E 0 u i:=by simpa using h1.trans a
   have h4:=(hp.iff i).2 h3
   have h5:i < N.nx.length:=(Ok.lt hok (u:=[t]) (q:=q) (.inr ⟨t,rfl,b,c⟩)).1
   exact⟨q,(hs q).2 ⟨i,by omega,h4,b,c⟩,d⟩
 refine⟨⟨h.len,fun j=>(h.iff j).trans (key j)⟩,ha.trans ⟨fun ⟨q,hq⟩=>⟨q,(key q).1 ⟨q,hq,.nil q⟩⟩,fun ⟨j,hj⟩=>?_⟩⟩
 obtain⟨q,hq,_⟩:=(key j).2 hj
 exact⟨q,hq⟩
theorem bool_made {g n:Nat} (h:w.ownsRow 0 4 1 (.slice (some ⟨g,0,none⟩) n n) n (madeCells (Value.bool false).cells (n * 1)).toList) {F:Nat->Prop} (hF:F g):BoolO w F (.slice (some ⟨g,0,none⟩) n n) (List.replicate n false):=by
 refine bool_own.2 ⟨?_,fun k hk=>by simp[Value.ownBlock] at hk;subst hk;exact hF⟩
 have e:(madeCells (Value.bool false).cells (n * 1)).toList=(List.replicate n false).map .bool:=by
  rw[Nat.mul_one,List.map_replicate]
  exact toList_madeCells_one _ _
 rw[List.length_replicate,<- e]
 exact h
theorem first_set (w:World) {g n:Nat} (h0:0 < n) {F:Nat->Prop} (h:BoolO w F (.slice (some ⟨g,0,none⟩) n n) (List.replicate n false)):BoolO (w.setCell ⟨g,0,none⟩ (.bool true)) F (.slice (some ⟨g,0,none⟩) n n) ((List.replicate n false).set 0 true):=
 bool_set2 h (by simp) h0 true
theorem NetV.nx0 {nb:Nat} {N:NetD} (h:NetV w nb N):∃ An cn,w.cell? ⟨nb,2,none⟩=some (.slice An N.nx.length cn)/\intR.row w AnyB An N.nx:=by
 obtain⟨At,ct,Ab,cb,An,cn,h0,h1,h2,h3⟩:=h
 exact⟨An,cn,by unfold World.cell?;simp only[h0];rfl,h3⟩
theorem bool_row {g n:Nat} {xs:List Bool} (h:BoolO w F (.slice (some ⟨g,0,none⟩) n c) xs):Rp.bool.row w F (some ⟨g,0,none⟩) xs:=by
 obtain⟨A,c',hv,_,hr⟩:=Rp.x0c h
 simp only[Value.slice.injEq] at hv
 rw[hv.1]
 exact hr
theorem nfirst_calls {nb:Nat} {N:NetD} (hN:NetV w nb N) (ok:N.Ok) (h0:0 < N.nx.length) (hb:N.nx.length<=1048576) (hrow:∀ x ∈ N.tos,x.length<=1048576) :
 Calls Tryz.prog 172 #[.pointer (some ⟨nb,0,none⟩)] w fun r w'=>(∃ v out,r=.returned v/\BoolO w' (fun k=>w.heap.size<=k) v out/\Plc N [] out)/\Pure w w':=by
 have HN:=mK hN
 have HK:=mK ok
 have HR:=mK hrow
 obtain⟨An,cn,q0,_⟩:=hN.nx0
 obtain⟨i0,hi,hz0,hz1,hz2⟩:=info_parts bool_info
 clear hN ok hrow
 go_enter Tryz.func172,Tryz.ntmps172
 go_wp2_with (at_make;refine wpList_make_full _ rfl _ _ 180 rfl 0 4 i0 (.bool false) 1 Tryz.underlying180 hi hz0 hz1 .i64 .i64 _ _ N.nx.length rfl rfl rfl rfl (by rw[hz2];omega) (by unfold maxLen;omega) (Nat.zero_le _) ?_;intro w1 ho1 hg1;apply As.o)
 refine⟨?_⟩
 have HP1:As (Pure w w1):=⟨Upd.x3o hg1 (fun k hk=>by cases hk)⟩
 have HB1:=mK (bool_made ho1 (F:=fun k=>w.heap.size<=k) (Nat.le_refl _))
 have hP2:Pure w (w1.setCell ⟨w.heap.size,0,none⟩ (.bool true)):=HP1.o.trans (Upd.x1v (S:=fun k=>k=w.heap.size) w1 (p:=⟨w.heap.size,0,none⟩) rfl _) (fun k hk h=>by omega)
 have hB2:=first_set w1 h0 HB1.o
 have HP2:=mK hP2
 have HR2:=mK (bool_row hB2)
 obtain⟨u0,u1⟩:=x5u HB1.o (by simp) (i:=0) (b:=false) (by rw[List.getElem?_replicate,if_pos h0])
 have hwl:w.heap.size < w1.heap.size:=(Rp.x03 HB1.o _ rfl).2
 have hn0:(0:Int) < (N.nx.length:Int):=by omega
 clear ho1 hg1 hP2 hB2 hi hz0 hz1 hz2 q0
 go_wp2_with (go_at_call 201;refine(spread_calls (HN.o.pure HP2.o) HK.o HR2.o (by simp) h0 hb HR.o).mono ?_;rintro r w3 ⟨⟨v3,out,rfl,ho,hs⟩,hu⟩;have HO3:=mK ho;have HS3:=mK hs;have HU3:=mK hu;clear ho hs hu)
 go_ret
 exact⟨⟨_,out,rfl,Rp.x3a HO3.o (fun k hk=>by have:=HP2.o.size;omega),Plc.first h0 HS3.o⟩,HP2.o.tt HU3.o⟩
theorem NetV.bys {nb:Nat} {N:NetD} (h:NetV w nb N) (ok:N.Ok) {k:Nat} {x:List Int} (hx:N.bys[k]?=some x) :
 ∃ b o ct A1 c1,w.cell? ⟨nb,1,none⟩=some (.slice (some ⟨b,o,none⟩) N.nx.length ct)/\w.cell? ⟨b,o+k,none⟩=some (.slice A1 x.length c1)/\intR.row w AnyB A1 x:=by
 obtain⟨At,ct,Ab,cb,An,cn,h0,h1,h2,h3⟩:=h
 obtain⟨b,o,A1,c1,rfl,_,h4,h5⟩:=tyrow_at h2 hx
 rw[ok.bl] at h0
 exact⟨b,o,cb,A1,c1,by unfold World.cell?;simp only[h0];rfl,h4,h5⟩
theorem NetV.bys0 {nb:Nat} {N:NetD} (h:NetV w nb N) (ok:N.Ok):∃ At ct,w.cell? ⟨nb,1,none⟩=some (.slice At N.nx.length ct):=by
 obtain⟨At,ct,Ab,cb,An,cn,h0,h1,h2,h3⟩:=h
 rw[ok.bl] at h0
 exact⟨Ab,cb,by unfold World.cell?;simp only[h0];rfl⟩
theorem NetV.nx {nb:Nat} {N:NetD} (h:NetV w nb N) {k:Nat} {x:Int} (hx:N.nx[k]?=some x) :
 ∃ b o ct,w.cell? ⟨nb,2,none⟩=some (.slice (some ⟨b,o,none⟩) N.nx.length ct)/\w.cell? ⟨b,o+k,none⟩=some (.int .i64 x):=by
 obtain⟨An,cn,h1,h2⟩:=h.nx0
 obtain⟨b,o,rfl,_,_,h3⟩:=int_at h2 hx
 exact⟨b,o,cn,h1,h3⟩
theorem StpQ.hit {N:NetD} {inn xs:List Bool} {t:Int} {k m z:Nat} (h:StpQ N inn t k m xs) (hi:inn.getD k false=true) (hb:(N.bys.getD k [])[m]?=some t) (hz:N.nx.getD k (-1)=(z:Int)) (hl:z < xs.length):StpQ N inn t k (m+1) (xs.set z true):=by
 intro q
 rw[x47]
 constructor
 ·intro hq
  split at hq
  ·rename_i hc
   refine .inr ⟨hi,?_,by rw[hz,hc.1]⟩
   rw[List.take_add_one,hb]
   simp
  ·rcases(h q).1 hq with h1 | ⟨_,h2,h3⟩
   ·exact .inl h1
   ·exact .inr ⟨hi,by rw[List.take_add_one];exact List.mem_append_left _ h2,h3⟩
 ·intro hq
  split
  ·rfl
  ·rename_i hc
   rcases hq with h1 | ⟨_,h2,h3⟩
   ·exact(h q).2 (.inl h1)
   ·exfalso
    rw[hz] at h3
    exact hc ⟨by omega,by omega⟩
theorem StpQ.miss {N:NetD} {inn xs:List Bool} {t y:Int} {k m:Nat} (h:StpQ N inn t k m xs) (hb:(N.bys.getD k [])[m]?=some y) (hy:¬ y=t):StpQ N inn t k (m+1) xs:=by
 intro q
 rw[h q,List.take_add_one,hb,Option.toList_some,List.mem_append,List.mem_singleton]
 constructor
 ·rintro (h1 | ⟨h1,h2,h3⟩)
  ·exact .inl h1
  ·exact .inr ⟨h1,.inl h2,h3⟩
 ·rintro (h1 | ⟨h1,h2 | h2,h3⟩)
  ·exact .inl h1
  ·exact .inr ⟨h1,h2,h3⟩
  ·exact absurd h2.symm hy
theorem StpQ.shut {N:NetD} {inn xs:List Bool} {t:Int} {k m:Nat} (h:StpQ N inn t k m xs) (hi:inn.getD k false=false\/(N.bys.getD k []).length<=m):StpK N inn t (k+1) xs:=by
 intro q
 rw[h q]
 constructor
 ·rintro (⟨i,h1,h2⟩ | ⟨h1,h2,h3⟩)
  ·exact⟨i,by omega,h2⟩
  ·exact⟨k,by omega,h1,List.mem_of_mem_take h2,h3⟩
 ·rintro ⟨i,h1,h2,h3,h4⟩
  rcases Nat.lt_succ_iff_lt_or_eq.1 h1 with h1 | rfl
  ·exact .inl ⟨i,h1,h2,h3,h4⟩
  ·rcases hi with hi | hi
   ·rw[hi] at h2;cases h2
   ·exact .inr ⟨h2,by rw[List.take_of_length_le hi];exact h3,h4⟩
theorem getD_rep (n q:Nat):(List.replicate n false).getD q false=false:=by
 simp only[List.getD,List.getElem?_replicate]
 split <;> rfl
theorem any_set {xs:List Bool} {z:Nat} (hl:z < xs.length):true=true ↔ ∃ q,(xs.set z true).getD q false=true:=
 ⟨fun _=>⟨z,by rw[x47,if_pos ⟨rfl,hl⟩]⟩,fun _=>rfl⟩
structure StpS (N:NetD) (inn:List Bool) (t:Int) (k:Nat) (xs:List Bool) (sm:Bool):Prop where
 len:xs.length=N.nx.length
 at_:StpK N inn t k xs
 any:sm=true ↔ ∃ q,xs.getD q false=true
structure StpT (N:NetD) (inn:List Bool) (t:Int) (k m:Nat) (xs:List Bool) (sm:Bool):Prop where
 len:xs.length=N.nx.length
 at_:StpQ N inn t k m xs
 any:sm=true ↔ ∃ q,xs.getD q false=true
theorem step_calls2 {nb:Nat} {N:NetD} {inn:List Bool} {u:List Int} (t:Int) (hN:NetV w nb N) (ok:N.Ok) (h0:0 < N.nx.length) (hb:N.nx.length<=1048576) (hrow:∀ x ∈ N.tos,x.length<=1048576) (hby:∀ x ∈ N.bys,x.length<=1048576) (hin:Rp.bool.row w F A inn) (hp:Plc N u inn) :
 Calls Tryz.prog 173 #[.pointer (some ⟨nb,0,none⟩),.slice A N.nx.length c,.int .i64 t] w fun r w'=>(∃ v out s,r=.returned (.tuple #[v,.bool s])/\BoolO w' (fun k=>w.heap.size<=k) v out/\StpR N (u ++ [t]) out s)/\Pure w w':=by
 have HN:=mK hN
 have HK:=mK ok
 have HR:=mK hrow
 have HBL:=mK hby
 have HIN:=mK hin
 have HPL:=mK hp
 have hil:=hp.len
 obtain⟨An,cn,q0,_⟩:=hN.nx0
 obtain⟨i0,hi,hz0,hz1,hz2⟩:=info_parts bool_info
 have HIL:=mK hil
 clear hN ok hrow hby hin hp hil
 go_enter Tryz.func173,Tryz.ntmps173
 go_wp2_with (at_make;refine wpList_make_full _ rfl _ _ 180 rfl 0 4 i0 (.bool false) 1 Tryz.underlying180 hi hz0 hz1 .i64 .i64 _ _ N.nx.length rfl rfl rfl rfl (by rw[hz2];omega) (by unfold maxLen;omega) (Nat.zero_le _) ?_;intro w1 ho1 hg1;apply As.o)
 refine⟨?_⟩
 have HP1:As (Pure w w1):=⟨Upd.x3o hg1 (fun k hk=>by cases hk)⟩
 have HB1:=mK (bool_made ho1 (F:=fun k=>w.heap.size<=k) (Nat.le_refl _))
 clear ho1 hg1 hi hz0 hz1 hz2 q0
 go_wp2
 go_loopg [10,9] N.nx.length (fun g1 i s wr=>∃ (k:Nat) (xs:List Bool) (sm:Bool),k+g1=N.nx.length/\i=.int .i64 k/\s=.bool sm/\As (StpS N inn t k xs sm)/\As (BoolO wr (fun k=>w.heap.size<=k) (.slice (some ⟨w.heap.size,0,none⟩) N.nx.length N.nx.length) xs)/\As (Pure w wr))
 case atStart=>exact⟨0,List.replicate N.nx.length false,false,by omega,rfl,rfl,⟨⟨by simp,fun q=>by rw[getD_rep];simp,by simp only[getD_rep];simp⟩⟩,HB1,HP1⟩
 case round=>
  obtain⟨k,xs,sm,hk,rfl,rfl,HS,HO,HP⟩:=hrel
  obtain⟨Ab,cb,q0⟩:=(HN.o.pure HP.o).bys0 HK.o
  by_cases hlt:k < N.nx.length
  ·obtain⟨x,hx⟩:∃ x,N.bys[k]?=some x:=⟨_,List.getElem?_eq_getElem (by rw[HK.o.bl];exact hlt)⟩
   obtain⟨g1,rfl⟩:=sC1 (by omega:0 < gk)
   have hxl:=HBL.o x (List.mem_of_getElem? hx)
   have HX:=mK hx
   have HXD:=mK (x55 (d:=[]) hx)
   have HKK:=mK hk
   clear hk hx
   go_wp2
   go_loopg [11,9] x.length (fun g2 j s wx=>∃ (m:Nat) (xs2:List Bool) (s2:Bool),m+g2=x.length/\j=.int .i64 m/\s=.bool s2/\As (StpT N inn t k m xs2 s2)/\As (BoolO wx (fun k=>w.heap.size<=k) (.slice (some ⟨w.heap.size,0,none⟩) N.nx.length N.nx.length) xs2)/\As (Pure w wx))
   case atStart=>exact⟨0,xs,sm,by omega,rfl,rfl,⟨⟨HS.o.len,fun q=>by rw[HS.o.at_ q];simp,HS.o.any⟩⟩,HO,HP⟩
   case round=>
    obtain⟨m,xs2,s2,hm,rfl,rfl,HT,HOx,HPx⟩:=hrel
    obtain⟨bt,ot,ct2,A1,c1,t0,t1,hr1⟩:=(HN.o.pure HPx.o).bys HK.o HX.o
    obtain⟨bk,hbk⟩:∃ b,inn[k]?=some b:=⟨_,List.getElem?_eq_getElem (by rw[HIL.o];exact hlt)⟩
    obtain⟨bi,oi,rfl,_,_,u0⟩:=bool_at (Rp.x01 HIN.o HPx.o) hbk
    have HR1:=mK hr1
    have HBK:=mK (x55 (d:=false) hbk)
    have HQ:=mK hm
    clear q0 hr1 hbk hm
    cases bk with
    | false=>
      go_wp2
      go_roundg g1
      case measure=>omega
      case rel=>exact⟨k+1,xs2,s2,by have:=HKK.o;omega,by go_num,rfl,⟨⟨HT.o.len,HT.o.at_.shut (.inl HBK.o),HT.o.any⟩⟩,HOx,HPx⟩
    | true=>
      by_cases hlt2:m < x.length
      ·obtain⟨y,hy⟩:=gS hlt2
       obtain⟨g2,rfl⟩:∃ m,gk=m+1:=⟨gk - 1,by have:=HQ.o;omega⟩
       obtain⟨by0,oy,rfl,_,_,y0⟩:=int_at HR1.o hy
       have HY:=mK (show (N.bys.getD k [])[m]?=some y by rw[HXD.o];exact hy)
       have hne:N.bys.getD k [] ≠ []:=fun h=>by rw[HXD.o] at h;rw[h] at hlt2;simp at hlt2
       obtain⟨hz1,hz2⟩:=HK.o.nx k hne
       obtain⟨zz,hzz⟩:∃ z,N.nx[k]?=some z:=⟨_,List.getElem?_eq_getElem hlt⟩
       rw[x55 hzz] at hz1 hz2
       obtain⟨z,rfl⟩:∃ z:Nat,zz=z:=⟨zz.toNat,by omega⟩
       obtain⟨bn,on,cn2,n0,n1⟩:=(HN.o.pure HPx.o).nx hzz
       have HZ:=mK (x55 (d:=-1) hzz)
       have hzl:z < N.nx.length:=by omega
       obtain⟨bz,hbz⟩:∃ b,xs2[z]?=some b:=⟨_,List.getElem?_eq_getElem (by rw[HT.o.len];exact hzl)⟩
       obtain⟨v0,v1⟩:=x5u HOx.o HT.o.len hbz
       have hgl:=(Rp.x03 HOx.o _ rfl).2
       clear hy hne hzz hbz hz1
       by_cases hyt:y=t
       ·subst hyt
        go_wp2
        go_roundg g2
        case measure=>omega
        case rel=>exact⟨m+1,xs2.set z true,true,by have:=HQ.o;omega,by go_num,rfl,⟨⟨by rw[List.length_set];exact HT.o.len,HT.o.at_.hit HBK.o HY.o HZ.o (by rw[HT.o.len];exact hzl),any_set (by rw[HT.o.len];exact hzl)⟩⟩,⟨bool_set2 HOx.o HT.o.len hzl true⟩,⟨HPx.o.trans (Upd.x1v (S:=fun k=>k=w.heap.size) _ (p:=⟨w.heap.size,z,none⟩) rfl _) (fun k hk h=>by omega)⟩⟩
       ·go_wp2
        go_roundg g2
        case measure=>omega
        case rel=>exact⟨m+1,xs2,s2,by have:=HQ.o;omega,by go_num,rfl,⟨⟨HT.o.len,HT.o.at_.miss HY.o hyt,HT.o.any⟩⟩,HOx,HPx⟩
      ·have hql:m=x.length:=by have:=HQ.o;omega
       subst hql
       go_wp2
       go_roundg g1
       case measure=>omega
       case rel=>exact⟨k+1,xs2,s2,by have:=HKK.o;omega,by go_num,rfl,⟨⟨HT.o.len,HT.o.at_.shut (.inr (by rw[HXD.o];exact Nat.le_refl _)),HT.o.any⟩⟩,HOx,HPx⟩
  ·have hkl:k=N.nx.length:=by omega
   subst hkl
   have HR2:=mK (bool_row HO.o)
   go_wp2_with (go_at_call 201;refine(spread_calls (HN.o.pure HP.o) HK.o HR2.o HS.o.len h0 hb HR.o).mono ?_;rintro r w3 ⟨⟨v3,out,rfl,ho,hs⟩,hu⟩;have HO3:=mK ho;have HS3:=mK hs;have HU3:=mK hu;clear ho hs hu)
   refine bodyPost_ret (results_tmp2 rfl _ _ _) rfl ?_
   exact⟨⟨_,out,sm,rfl,Rp.x3a HO3.o (fun k hk=>by have:=HP.o.size;omega),StpR.done HK.o rfl HPL.o HS.o.at_ HS.o.any HS3.o⟩,HP.o.tt HU3.o⟩
structure RunR (N:NetD) (word:List Int) (k:Nat) (out:List Bool):Prop where
 le:k<=word.length
 plc:Plc N (word.take k) out
 live:∃ j,Rch N.E 0 (word.take k) j
 stop:k < word.length->¬ ∃ j,Rch N.E 0 (word.take (k+1)) j
mutual
theorem layE_bys (ty:ByteArray->List Int) (m:Nat) (hty:∀ nm,(ty nm).length<=m):∀ (e:Ex) (a b:Nat) (N:NetD),(∀ x ∈ N.bys,x.length<=m)->∀ x ∈ (layE ty e a b N).bys,x.length<=m
 | .mk k nm l,a,b,N,h=>by
   have hp:∀ N:NetD,(∀ x ∈ N.bys,x.length<=m)->∀ x ∈ N.place.bys,x.length<=m:=fun N h x hx=>by
    rcases List.mem_append.1 (show x ∈ N.bys ++ [[]] from hx) with hx | hx
    ·exact h x hx
    ·rw[List.mem_singleton.1 hx];exact Nat.zero_le _
   have hf:∀ (N:NetD) (a b:Nat),(∀ x ∈ N.bys,x.length<=m)->∀ x ∈ (N.free a b).bys,x.length<=m:=fun N a b h=>h
   unfold layE
   by_cases h0:k=0
   ·rw[if_pos h0];exact hf _ _ _ h
   ·rw[if_neg h0]
    by_cases h1:k=1
    ·rw[if_pos h1]
     intro x hx
     rcases List.mem_or_eq_of_mem_set (show x ∈ ((N.place.free a N.nx.length).bys).set N.nx.length (ty nm) from hx) with hx | hx
     ·exact hp N h x hx
     ·rw[hx];exact hty nm
    ·rw[if_neg h1]
     by_cases h2:k=2
     ·rw[if_pos h2];exact laySeq_bys ty m hty l a b N h
     ·rw[if_neg h2]
      by_cases h3:k=3
      ·rw[if_pos h3];exact layAlt_bys ty m hty l a b N h
      ·rw[if_neg h3]
       have i4:=layOne_bys ty m hty l N.nx.length (N.nx.length+1) (N.place.place.free a N.nx.length) (hf _ _ _ (hp _ (hp _ h)))
       dsimp only
       split <;> split <;> exact i4
theorem laySeq_bys (ty:ByteArray->List Int) (m:Nat) (hty:∀ nm,(ty nm).length<=m):∀ (l:List Ex) (a b:Nat) (N:NetD),(∀ x ∈ N.bys,x.length<=m)->∀ x ∈ (x40 ty l a b N).bys,x.length<=m
 | [],a,b,N,h=>by unfold x40;exact h
 | x :: r,a,b,N,h=>by
   unfold x40
   refine laySeq_bys ty m hty r _ _ _ (layE_bys ty m hty x _ _ _ fun y hy=>?_)
   rcases List.mem_append.1 (show y ∈ N.bys ++ [[]] from hy) with hy | hy
   ·exact h y hy
   ·rw[List.mem_singleton.1 hy];exact Nat.zero_le _
theorem layAlt_bys (ty:ByteArray->List Int) (m:Nat) (hty:∀ nm,(ty nm).length<=m):∀ (l:List Ex) (a b:Nat) (N:NetD),(∀ x ∈ N.bys,x.length<=m)->∀ x ∈ (x3z ty l a b N).bys,x.length<=m
 | [],a,b,N,h=>by unfold x3z;exact h
 | x :: r,a,b,N,h=>by unfold x3z;exact layAlt_bys ty m hty r _ _ _ (layE_bys ty m hty x _ _ _ h)
theorem layOne_bys (ty:ByteArray->List Int) (m:Nat) (hty:∀ nm,(ty nm).length<=m):∀ (l:List Ex) (a b:Nat) (N:NetD),(∀ x ∈ N.bys,x.length<=m)->∀ x ∈ (x3l ty l a b N).bys,x.length<=m
 | [],a,b,N,h=>by unfold x3l;exact h
 | x :: r,a,b,N,h=>by unfold x3l;exact layE_bys ty m hty x _ _ _ h
end
theorem typesOf_len {g:List Grp} {m:Nat} (h:∀ x ∈ g,x.types.length<=m) (nm:ByteArray):(typesOf g nm).length<=m:=by
 induction g with
 | nil=>simp[typesOf]
 | cons x r ih=>
   unfold typesOf
   split
   ·exact h x (List.mem_cons_self ..)
   ·exact ih (fun y hy=>h y (List.mem_cons_of_mem _ hy))
structure NetB (N:NetD):Prop where
 ok:N.Ok
 pos:0 < N.nx.length
 two:1 < N.nx.length
 le:N.nx.length<=1048576
 tos:∀ x ∈ N.tos,x.length<=1048576
 bys:∀ x ∈ N.bys,x.length<=1048576
theorem netB {g:List Grp} {e:Ex} (hc:e.cnt<=100000) (hg:∀ x ∈ g,x.types.length<=1048576):NetB (netOf (typesOf g) e):=by
 have hL:=net_laid (typesOf g) e
 have hle:2<=(netOf (typesOf g) e).nx.length:=hL.le
 have hw:(netOf (typesOf g) e).wt+1<=2+8 * e.cnt:=layE_wt (typesOf g) e 0 1 net0
 have hn:=(netOf (typesOf g) e).nx_wt
 refine⟨hL.ok,by omega,by omega,by omega,fun x hx=>?_,layE_bys (typesOf g) 1048576 (typesOf_len hg) e 0 1 net0 (fun x hx=>by simp[net0] at hx;rw[hx];exact Nat.zero_le _)⟩
 obtain⟨i,hi⟩:=List.getElem?_of_mem hx
 have:=NetD.wt_row hi
 omega
theorem run_acc {g:List Grp} {e:Ex} {word:List Int} {k:Nat} {out:List Bool} (hc:x0k e g=0) (h:RunR (netOf (typesOf g) e) word k out):x0n e g word=(decide (k=word.length) && out.getD 1 false)/\x18 e g word=k:=by
 have hl:=x5v hc
 have hacc:x0n e g word=true ↔ Rch (netOf (typesOf g) e).E 0 word 1:=by
  rw[accepts_iff,net_word]
  exact⟨fun h=>(acc_lang hc word).1 h.2,fun h=>⟨hc,(acc_lang hc word).2 h⟩⟩
 constructor
 ·rw[Bool.eq_iff_iff,hacc,Bool.and_eq_true,decide_eq_true_eq]
  constructor
  ·intro hr
   by_cases hk:k=word.length
   ·refine⟨hk,(h.plc.iff 1).2 ?_⟩
    rw[hk,List.take_length]
    exact hr
   ·exfalso
    have hlt:k < word.length:=by have:=h.le;omega
    obtain⟨r,h1,_⟩:=hr.split (word.take (k+1)) (word.drop (k+1)) (List.take_append_drop _ _).symm
    exact h.stop hlt ⟨r,h1⟩
  ·rintro ⟨hk,ho⟩
   have:=(h.plc.iff 1).1 ho
   rw[hk,List.take_length] at this
   exact this
 ·have e1:x18 e g word=(x2b e g word).2:=by unfold x18;rw[if_pos hc]
  rw[e1]
  refine run_eq hc word k h.le ((live_lang hc _).2 ((net_live _ e hl _).1 h.live)) (fun hlt hL=>h.stop hlt ((net_live _ e hl _).2 ((live_lang hc _).1 hL)))
theorem Rp.row_here {α:Type} {d:Rp α} {xs:List α} (h:d.row w F A xs):d.row w (fun k=>k < w.heap.size) A xs:=Rp.x1d (fun _ _ hl=>⟨hl,hl,rfl⟩) h
theorem check_cnt {g:List Grp} {e:Ex} (h:x0k e g=0):e.cnt<=200:=by
 unfold x0k at h
 by_cases h0:x0z e=0
 ·unfold x0z at h0
  split at h0
  ·cases h0
  ·omega
 ·exfalso;revert h;simp[h0]
/-- The net of a right tree, made. -/
theorem made6 {Ag:Option Addr} {cg:Nat} {e:Ex} {g:List Grp} (hr:exR.row w F A e.l) (hgr:grpR.row w G Ag g) (hc:x0k e g=0) (hgl:g.length<=1048576) :
 Calls Tryz.prog 134 #[e.val A c,.slice Ag g.length cg] w fun r w'=>(∃ nb,r=.returned (.pointer (some ⟨nb,0,none⟩))/\NetV w' nb (netOf (typesOf g) e))/\Pure w w':=
 made_calls (Rp.row_here hr) (Rp.row_here hgr) (fun _ h=>h) (fun _ h=>h) (x5v hc) (by have:=check_cnt hc;omega) hgl
theorem run6_calls {nb:Nat} {N:NetD} {Aw:Option Addr} {cw:Nat} {word:List Int} (hN:NetV w nb N) (ok:N.Ok) (h0:0 < N.nx.length) (hb:N.nx.length<=1048576) (hrow:∀ x ∈ N.tos,x.length<=1048576) (hby:∀ x ∈ N.bys,x.length<=1048576) (hw:intR.row w G Aw word) (hwl:word.length<=1048576 * 4) :
 Calls Tryz.prog 135 #[.pointer (some ⟨nb,0,none⟩),.slice Aw word.length cw] w fun r w'=>(∃ g cap out k,r=.returned (.tuple #[.slice (some ⟨g,0,none⟩) N.nx.length cap,.int .i64 (k:Nat)])/\BoolO w' (fun k=>w.heap.size<=k) (.slice (some ⟨g,0,none⟩) N.nx.length cap) out/\RunR N word k out)/\Pure w w':=by
 have HN:=mK hN
 have HK:=mK ok
 have HR:=mK hrow
 have HBL:=mK hby
 have HW:=mK hw
 clear hN ok hrow hby hw
 go_enter Tryz.func135,Tryz.ntmps135
 go_wp2_with (go_at_call 172;refine(nfirst_calls HN.o HK.o h0 hb HR.o).mono ?_;rintro r w1 ⟨⟨v1,out,rfl,ho,hp⟩,hu⟩;have HO1:=mK ho;have HP1:=mK hp;have HU1:=mK hu;obtain⟨gb,cap,rfl,_,_⟩:=bool_form2 ho hp.len h0;clear ho hp hu)
 go_loopg [6,7] word.length (fun g iv i wr=>∃ (k gb cap:Nat) (out:List Bool),k+g=word.length/\iv=.slice (some ⟨gb,0,none⟩) N.nx.length cap/\i=.int .i64 k/\As (Plc N (word.take k) out/\∃ j,Rch N.E 0 (word.take k) j)/\As (BoolO wr (fun k=>w.heap.size<=k) (.slice (some ⟨gb,0,none⟩) N.nx.length cap) out)/\As (Pure w wr))
 case atStart=>exact⟨0,gb,cap,out,by omega,rfl,rfl,⟨HP1.o,0,.nil 0⟩,HO1,HU1⟩
 case round=>
  obtain⟨k,gb,cap,out,hk,rfl,rfl,HPL,HO,HP⟩:=hrel
  by_cases hlt:k < word.length
  ·obtain⟨x,hx⟩:=gS hlt
   obtain⟨b,o,rfl,_,_,d0⟩:=int_at (Rp.x01 HW.o HP.o) hx
   obtain⟨g1,rfl⟩:=sC1 (by omega:0 < gk)
   have HE:=mK (show word.take k ++ [x]=word.take (k+1) by rw[List.take_add_one,hx];rfl)
   have HKK:=mK hk
   have HRB:=mK (bool_row HO.o)
   clear hk hx
   go_wp2_with (go_at_call 173;refine(step_calls2 x (HN.o.pure HP.o) HK.o h0 hb HR.o HBL.o HRB.o HPL.o.1).mono ?_;rintro r w2 ⟨⟨v2,out2,s2,rfl,ho,hs⟩,hu⟩;rw[HE.o] at hs;have HO2:=mK ho;have HS2:=mK hs;have HU2:=mK hu;obtain⟨gb2,cap2,rfl,_,_⟩:=bool_form2 ho hs.plc.len h0;clear ho hs hu;apply As.o)
   refine⟨?_⟩
   cases s2 with
   | false=>
     go_wp2
     go_simp
     refine bodyPost_ret (results_tmp2 rfl _ _ _) rfl ?_
     exact⟨⟨gb,cap,out,k,rfl,(by exact Rp.x0w HO.o HU2.o (fun _ _ _ h=>h)),⟨by omega,HPL.o.1,HPL.o.2,fun _ h=>by have:=HS2.o.any.2 h;cases this⟩⟩,HP.o.tt HU2.o⟩
   | true=>
     go_wp2
     go_roundg g1
     case measure=>omega
     case rel=>exact⟨k+1,gb2,cap2,out2,by have:=HKK.o;omega,rfl,by go_num,⟨HS2.o.plc,HS2.o.any.1 rfl⟩,⟨Rp.x3a HO2.o (fun q hq=>by have:=HP.o.size;omega)⟩,⟨HP.o.tt HU2.o⟩⟩
  ·have hkl:k=word.length:=by omega
   subst hkl
   go_wp2
   go_simp
   refine bodyPost_ret (results_tmp2 rfl _ _ _) rfl ?_
   exact⟨⟨gb,cap,out,word.length,rfl,HO.o,⟨Nat.le_refl _,HPL.o.1,HPL.o.2,fun h=>by omega⟩⟩,HP.o⟩
theorem accepts6_calls {H:Nat->Prop} {Aw:Option Addr} {d cw:Nat} {e:Ex} {g:List Grp} {word:List Int} (hr:exR.row w F A e.l) (hg:grpR.row w G B g) (hw:intR.row w H Aw word) (hb:e.wt<=1048576 * 4) (hgl:g.length<=1048576) (hgt:∀ x ∈ g,x.types.length<=1048576) (hwl:word.length<=1048576 * 4) :
 Calls Tryz.prog 70 #[e.val A c,.slice B g.length d,.slice Aw word.length cw] w fun r w'=>r=.returned (.bool (x0n e g word))/\Pure w w':=by
 have HCK:=mK (fun W (hu:Pure w W)=>x5z (c:=c) (d:=d) (Rp.x01 hr hu) (Rp.x01 hg hu) hb hgl hgt)
 have HMD:=mK (fun W (hu:Pure w W) (hc:x0k e g=0)=>made6 (c:=c) (cg:=d) (Rp.x01 hr hu) (Rp.x01 hg hu) hc hgl)
 have HNB:=mK (fun (hc:x0k e g=0)=>netB (g:=g) (e:=e) (by have:=check_cnt hc;omega) hgt)
 have HRN:=mK (fun (hc:x0k e g=0) (k:Nat) (out:List Bool) (h:RunR (netOf (typesOf g) e) word k out)=>run_acc hc h)
 have HF:=mK (show x0k e g ≠ 0->x0n e g word=false from fun h=>by unfold x0n;simp[h])
 have HW:=mK hw
 clear hr hg hw hgt
 obtain⟨k0,nm,l⟩:=e
 show Calls Tryz.prog 70 #[.agg #[.int .i64 k0,.string nm,.slice A l.length c],.slice B g.length d,.slice Aw word.length cw] w _
 generalize hN:netOf (typesOf g) (.mk k0 nm l)=N at *
 generalize x0n (.mk k0 nm l) g word=acc at *
 generalize x18 (.mk k0 nm l) g word=beg at *
 unfold Ex.val at *
 generalize hrc:x0k (.mk k0 nm l) g=rc at *
 clear hrc hN
 have hbx:=BoxE.new w k0 nm l.length A c 92
 by_cases h0:rc=0
 ·subst h0
  have HNB2:=mK (HNB.o rfl)
  have HMD2:=mK (fun W (hu:Pure w W)=>HMD.o W hu rfl)
  have HRN2:=mK (HRN.o rfl)
  clear HNB HMD HRN HF
  go_enter Tryz.func70,Tryz.ntmps70
  go_wp2_with (go_at_call 133;refine(HCK.o _ aU).mono ?_;rintro e w1 ⟨rfl,hu⟩;have HU1:=mK hu;clear hu;apply As.o)
  refine⟨?_⟩
  obtain⟨q0,q1,q2,q3⟩:=hbx.pure HU1.o
  have HP1:As (Pure w w1):=⟨aU.tt HU1.o⟩
  go_wp2_with (first | (go_at_call 135;refine(run6_calls HNV.o HNB2.o.ok HNB2.o.pos HNB2.o.le HNB2.o.tos HNB2.o.bys (Rp.x01 HW.o HP2.o) hwl).mono ?_;rintro r w3 ⟨⟨gb,cap,out,k,rfl,ho,hrr⟩,hu⟩;have HO:=mK ho;have HRR:=mK hrr;have HU3:=mK hu;have hk:=hrr.le;clear ho hrr hu;apply As.o) | (go_at_call 134;refine(HMD2.o _ HP1.o).mono ?_;rintro e w2 ⟨⟨nb,rfl,hnv⟩,hu⟩;have HNV:=mK hnv;have HP2:=mK (HP1.o.tt hu);clear hu hnv))
  refine⟨?_⟩
  obtain⟨b1,hb1⟩:∃ b,out[1]?=some b:=⟨_,List.getElem?_eq_getElem (by rw[HRR.o.plc.len];exact HNB2.o.two)⟩
  obtain⟨u0,u1⟩:=x5u HO.o HRR.o.plc.len hb1
  have h11:(1:Int) < (N.nx.length:Int):=by have:=HNB2.o.two;omega
  have HA:=mK (HRN2.o k out HRR.o).1
  have HB1:=mK (x55 (d:=false) hb1)
  clear hb1
  by_cases hkl:k=word.length
  ·subst hkl
   go_wp2
   go_ret
   exact⟨by rw[HA.o,HB1.o];simp,HP2.o.tt HU3.o⟩
  ·have hki:¬ ((k:Int)=(word.length:Int)):=by omega
   have HA2:As (acc=false):=⟨by rw[HA.o];simp[hkl]⟩
   clear hkl
   go_wp2
   go_ret
   exact⟨by rw[HA2.o];rfl,HP2.o.tt HU3.o⟩
 ·have f0:(rc != 0)=true:=by simpa using h0
  have HF2:=mK (HF.o h0)
  clear h0
  go_enter Tryz.func70,Tryz.ntmps70
  go_wp2_with (go_at_call 133;refine(HCK.o _ aU).mono ?_;rintro e w1 ⟨rfl,hu⟩;have HU1:=mK hu;clear hu)
  go_ret
  exact⟨by rw[HF2.o];rfl,aU.tt HU1.o⟩
theorem begins6_calls {H:Nat->Prop} {Aw:Option Addr} {d cw:Nat} {e:Ex} {g:List Grp} {word:List Int} (hr:exR.row w F A e.l) (hg:grpR.row w G B g) (hw:intR.row w H Aw word) (hb:e.wt<=1048576 * 4) (hgl:g.length<=1048576) (hgt:∀ x ∈ g,x.types.length<=1048576) (hwl:word.length<=1048576 * 4) :
 Calls Tryz.prog 132 #[e.val A c,.slice B g.length d,.slice Aw word.length cw] w fun r w'=>r=.returned (.int .i64 (x18 e g word:Nat))/\Pure w w':=by
 have HCK:=mK (fun W (hu:Pure w W)=>x5z (c:=c) (d:=d) (Rp.x01 hr hu) (Rp.x01 hg hu) hb hgl hgt)
 have HMD:=mK (fun W (hu:Pure w W) (hc:x0k e g=0)=>made6 (c:=c) (cg:=d) (Rp.x01 hr hu) (Rp.x01 hg hu) hc hgl)
 have HNB:=mK (fun (hc:x0k e g=0)=>netB (g:=g) (e:=e) (by have:=check_cnt hc;omega) hgt)
 have HRN:=mK (fun (hc:x0k e g=0) (k:Nat) (out:List Bool) (h:RunR (netOf (typesOf g) e) word k out)=>run_acc hc h)
 have HF:=mK (show x0k e g ≠ 0->x18 e g word=0 from fun h=>by unfold x18;rw[if_neg h])
 have HW:=mK hw
 clear hr hg hw hgt
 obtain⟨k0,nm,l⟩:=e
 show Calls Tryz.prog 132 #[.agg #[.int .i64 k0,.string nm,.slice A l.length c],.slice B g.length d,.slice Aw word.length cw] w _
 generalize hN:netOf (typesOf g) (.mk k0 nm l)=N at *
 generalize x0n (.mk k0 nm l) g word=acc at *
 generalize x18 (.mk k0 nm l) g word=beg at *
 unfold Ex.val at *
 generalize hrc:x0k (.mk k0 nm l) g=rc at *
 clear hrc hN
 have hbx:=BoxE.new w k0 nm l.length A c 92
 by_cases h0:rc=0
 ·subst h0
  have HNB2:=mK (HNB.o rfl)
  have HMD2:=mK (fun W (hu:Pure w W)=>HMD.o W hu rfl)
  have HRN2:=mK (HRN.o rfl)
  clear HNB HMD HRN HF
  go_enter Tryz.func132,Tryz.ntmps132
  go_wp2_with (go_at_call 133;refine(HCK.o _ aU).mono ?_;rintro e w1 ⟨rfl,hu⟩;have HU1:=mK hu;clear hu;apply As.o)
  refine⟨?_⟩
  obtain⟨q0,q1,q2,q3⟩:=hbx.pure HU1.o
  have HP1:As (Pure w w1):=⟨aU.tt HU1.o⟩
  go_wp2_with (first | (go_at_call 135;refine(run6_calls HNV.o HNB2.o.ok HNB2.o.pos HNB2.o.le HNB2.o.tos HNB2.o.bys (Rp.x01 HW.o HP2.o) hwl).mono ?_;rintro r w3 ⟨⟨gb,cap,out,k,rfl,ho,hrr⟩,hu⟩;have HRR:=mK hrr;have HU3:=mK hu;have hk:=hrr.le;clear ho hrr hu) | (go_at_call 134;refine(HMD2.o _ HP1.o).mono ?_;rintro e w2 ⟨⟨nb,rfl,hnv⟩,hu⟩;have HNV:=mK hnv;have HP2:=mK (HP1.o.tt hu);clear hu hnv))
  go_ret
  exact⟨by rw[(HRN2.o _ _ HRR.o).2];rfl,HP2.o.tt HU3.o⟩
 ·have f0:(rc != 0)=true:=by simpa using h0
  have HF2:=mK (HF.o h0)
  clear h0
  go_enter Tryz.func132,Tryz.ntmps132
  go_wp2_with (go_at_call 133;refine(HCK.o _ aU).mono ?_;rintro e w1 ⟨rfl,hu⟩;have HU1:=mK hu;clear hu)
  go_ret
  exact⟨by rw[HF2.o];rfl,aU.tt HU1.o⟩
end Go.Proofs.YtofjodppljnlaaaGreatDoor
