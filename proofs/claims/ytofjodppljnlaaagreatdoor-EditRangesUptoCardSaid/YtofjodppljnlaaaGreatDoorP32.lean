/- My own texts, packed: MarkL, Mark9, Chk9m, EdT, EdW, Ed12w, Ed12x. -/
import Derived.Test.YtofjodppljnlaaaGreatDoorP27
set_option maxRecDepth 100000
set_option maxHeartbeats 4000000
set_option linter.unusedVariables false
set_option linter.unusedSimpArgs false
variable {w w1 W:Go.World} {F G:Nat → Prop} {A B:Option Go.Addr} {cb c:Nat}
namespace Go.Proofs.YtofjodppljnlaaaGreatDoor
open Go.RowKit
def markS (k a b m:Int):StepD:=⟨k,a,b,0,0,0,[],m⟩
theorem markS_ok {k a b m:Int} (hk:k=2\/k=3):(markS k a b m).ok ↔ 0<=a/\a < b/\b<=2048/\x10 m:=by
 unfold StepD.ok StepD.kindOk markS
 constructor
 ·rintro ⟨h1,h2,h3,h4,h5⟩
  simp only at h1 h2 h3 h4
  rcases h4 with h4 | h4 | h4
  ·omega
  ·omega
  ·exact⟨h1,h4.2.1,h3,h4.2.2.1⟩
 ·rintro ⟨h1,h2,h3,h4⟩
  exact⟨h1,by simp only;omega,h3,.inr (.inr ⟨hk,h2,h4,rfl,rfl,rfl,rfl⟩),fun x hx=>by cases hx⟩
theorem right_mark {x:Tok} (h:x0p x=true) (h0:x.k=0):0<=x.m/\x.m<=4:=by
 have h:=of_decide_eq_true h
 simp only[RightP,MarkP] at h
 omega
theorem Add_calls (set m:Int) (w:World):Calls Tryz.prog 89 #[.int .i64 set,.int .i64 m] w fun r w'=>r=.returned (.tuple #[.int .i64 (if mayV set m=0 then turnM 2 m set else 0),.int .i64 (mayV set m)])/\w'=w:=by
 have HM:=mK (mmay_calls set m)
 by_cases h:mayV set m=0
 ·rw[h] at HM ⊢
  obtain⟨h1,h2⟩:=x5i.1 h
  clear h
  rw[if_pos rfl]
  rcases h1 with rfl | rfl | rfl <;> rcases five h2 with rfl | rfl | rfl | rfl | rfl
  all_goals
   clear h2
   go_enter Tryz.func89,Tryz.ntmps89
   go_wp2_with (go_at_call 140;refine(HM.o _).mono ?_;rintro e w' ⟨rfl,rfl⟩)
   go_ret2
   exact⟨by first | rfl | decide,rfl⟩
 ·have e:(mayV set m != 0)=true:=by simpa using h
  rw[if_neg h]
  generalize mayV set m=mv at *
  clear h
  go_enter Tryz.func89,Tryz.ntmps89
  go_wp2_with (go_at_call 140;refine(HM.o _).mono ?_;rintro e w' ⟨rfl,rfl⟩)
  go_ret2
  exact⟨rfl,rfl⟩
theorem Take_calls (set m:Int) (w:World):Calls Tryz.prog 154 #[.int .i64 set,.int .i64 m] w fun r w'=>r=.returned (.tuple #[.int .i64 (if mayV set m=0 then turnM 3 m set else 0),.int .i64 (mayV set m)])/\w'=w:=by
 have HM:=mK (mmay_calls set m)
 by_cases h:mayV set m=0
 ·rw[h] at HM ⊢
  obtain⟨h1,h2⟩:=x5i.1 h
  clear h
  rw[if_pos rfl]
  rcases h1 with rfl | rfl | rfl <;> rcases five h2 with rfl | rfl | rfl | rfl | rfl
  all_goals
   clear h2
   go_enter Tryz.func154,Tryz.ntmps154
   go_wp2_with (go_at_call 140;refine(HM.o _).mono ?_;rintro e w' ⟨rfl,rfl⟩)
   go_ret2
   exact⟨by first | rfl | decide,rfl⟩
 ·have e:(mayV set m != 0)=true:=by simpa using h
  rw[if_neg h]
  generalize mayV set m=mv at *
  clear h
  go_enter Tryz.func154,Tryz.ntmps154
  go_wp2_with (go_at_call 140;refine(HM.o _).mono ?_;rintro e w' ⟨rfl,rfl⟩)
  go_ret2
  exact⟨rfl,rfl⟩
def isB (m:Int):Bool:=decide (x10 m)
theorem is3_calls (m:Int) (w:World):Calls Tryz.prog 142 #[.int .i64 m] w fun e w'=>e=.returned (.bool (isB m))/\w=w':=by
 go_enter Tryz.func142,Tryz.ntmps142
 go_wp2
 all_goals go_ret
 all_goals exact⟨x0h (by rw[Bool.eq_iff_iff];(try simp only[isB,decide_eq_true_eq,Bool.and_eq_true,Bool.or_eq_true,Bool.not_eq_true',Bool.not_eq_eq_eq_not,Bool.not_true,Bool.not_false,beq_iff_eq,bne_iff_ne,beq_eq_false_iff_ne,bne_eq_false_iff_eq,decide_eq_false_iff_not,Bool.false_eq_true,Bool.true_eq_false,ne_eq,iff_true,true_iff,iff_false,false_iff,eq_self_iff_true,Bool.and_true,Bool.true_and,Bool.and_false,Bool.false_and,Bool.or_true,Bool.true_or,Bool.or_false,Bool.false_or] at *);all_goals (try simp only[x10,decide_eq_true_eq,Bool.and_eq_true,Bool.or_eq_true,Bool.not_eq_true',Bool.not_eq_eq_eq_not,Bool.not_true,Bool.not_false,beq_iff_eq,bne_iff_ne,beq_eq_false_iff_ne,bne_eq_false_iff_eq,decide_eq_false_iff_not,Bool.false_eq_true,Bool.true_eq_false,ne_eq,iff_true,true_iff,iff_false,false_iff,eq_self_iff_true,Bool.and_true,Bool.true_and,Bool.and_false,Bool.false_and,Bool.or_true,Bool.true_or,Bool.or_false,Bool.false_or] at *);all_goals omega),rfl⟩
theorem mark15 {m s:Int} (hm:x10 m) (hs:0<=s/\s<=4):(m=1\/m=2\/m=4)/\(s=0\/s=1\/s=2\/s=3\/s=4):=⟨hm,by omega⟩
theorem Add3_calls {s m:Int} (hm:x10 m) (hs:0<=s/\s<=4) (w:World):Calls Tryz.prog 215 #[.int .i64 s,.int .i64 m] w fun r w'=>r=.returned (.tuple #[.int .i64 (turnM 2 m s),.int .i64 0])/\w=w':=by
 have HI:=mK (show isB m=true from decide_eq_true hm)
 have HR:=mK (show markB s=true from decide_eq_true hs)
 obtain⟨h1,h2⟩:=mark15 hm hs
 clear hm hs
 rcases h1 with rfl | rfl | rfl <;> rcases h2 with rfl | rfl | rfl | rfl | rfl
 all_goals
  go_enter Tryz.func215,Tryz.ntmps215
  go_wp2_with (first | (go_at_call 142;refine(is3_calls _ _).mono ?_;rintro e w1 ⟨rfl,rfl⟩;rw[HI.o]) | (go_at_call 141;refine(x3c _ _).mono ?_;rintro e w1 ⟨rfl,rfl⟩;rw[HR.o]))
  exact bodyPost_ret (results_tmp2 rfl _ _ _) rfl ⟨rfl,rfl⟩
theorem Take3_calls {s m:Int} (hm:x10 m) (hs:0<=s/\s<=4) (w:World):Calls Tryz.prog 216 #[.int .i64 s,.int .i64 m] w fun r w'=>r=.returned (.tuple #[.int .i64 (turnM 3 m s),.int .i64 0])/\w=w':=by
 have HI:=mK (show isB m=true from decide_eq_true hm)
 have HR:=mK (show markB s=true from decide_eq_true hs)
 obtain⟨h1,h2⟩:=mark15 hm hs
 clear hm hs
 rcases h1 with rfl | rfl | rfl <;> rcases h2 with rfl | rfl | rfl | rfl | rfl
 all_goals
  go_enter Tryz.func216,Tryz.ntmps216
  go_wp2_with (first | (go_at_call 142;refine(is3_calls _ _).mono ?_;rintro e w1 ⟨rfl,rfl⟩;rw[HI.o]) | (go_at_call 141;refine(x3c _ _).mono ?_;rintro e w1 ⟨rfl,rfl⟩;rw[HR.o]))
  exact bodyPost_ret (results_tmp2 rfl _ _ _) rfl ⟨rfl,rfl⟩
def elem9 (k m:Int) (p q:Nat) (n:Nat) (x:Tok):Tok:=if p<=n/\n < q then turnT k m x else x
def mark9 (k m:Int) (p q:Nat) (l:List Tok):List Tok:=l.mapIdx (elem9 k m p q)
theorem mark9_take {k m:Int} {p q:Nat} {l:List Tok} {n:Nat} {x:Tok} (hx:l[n]?=some x):(mark9 k m p q l).take (n+1)=(mark9 k m p q l).take n ++ [elem9 k m p q n x]:=by
 rw[List.take_add_one]
 simp[mark9,hx]
theorem mark9_do {k m:Int} {p q:Nat} {l:List Tok} (hk:k=2\/k=3) (hpq:p<=q) (hq:q<=l.length):mark9 k m p q l=x0t l (markS k p q m):=by
 have e:x0t l (markS k p q m)=l.take p ++ ((l.take q).drop p).map (turnT k m) ++ l.drop q:=by
  unfold x0t markS
  rcases hk with rfl | rfl <;> rfl
 rw[e]
 apply List.ext_getElem?
 intro i
 unfold mark9
 rw[List.getElem?_mapIdx]
 have hlp:(l.take p).length=p:=by rw[List.length_take];omega
 have hlm:(((l.take q).drop p).map (turnT k m)).length=q - p:=by rw[List.length_map,List.length_drop,List.length_take];omega
 by_cases h1:i < p
 ·rw[List.append_assoc,List.getElem?_append_left (by omega),List.getElem?_take,if_pos h1]
  cases hi:l[i]? with
  | none=>rfl
  | some x=>simp[elem9];omega
 ·by_cases h2:i < q
  ·rw[List.append_assoc,List.getElem?_append_right (by omega),List.getElem?_append_left (by rw[hlm,hlp];omega),hlp,List.getElem?_map,List.getElem?_drop,List.getElem?_take,if_pos (by omega),show p+(i - p)=i by omega]
   cases hi:l[i]? with
   | none=>rfl
   | some x=>simp only[Option.map_some,elem9];rw[if_pos ⟨by omega,h2⟩]
  ·rw[List.getElem?_append_right (by rw[List.length_append,hlp,hlm];omega),List.length_append,hlp,hlm,List.getElem?_drop,show q+(i - (p+(q - p)))=i by omega]
   cases hi:l[i]? with
   | none=>rfl
   | some x=>simp only[Option.map_some,elem9];rw[if_neg (by omega)]
theorem mark_set {x:Tok} (hx:x0p x=true) (h0:x.k=0):0<=x.m/\x.m<=4:=by
 have:=of_decide_eq_true hx
 unfold RightP MarkP at this
 omega
theorem marked9_calls {l:List Tok} {k m:Int} {p q:Nat} (hk:k=2\/k=3) (hm:x10 m) (hr:tokR.row w F A l) (hR:∀ x ∈ l,x0p x=true) (hb:l.length<=100000) (hq:q<=l.length) (hpq:p<=q) :
 Calls Tryz.prog 205 #[.slice A l.length c,(markS k p q m).val B cb] w (Told9 w (mark9 k m p q l)):=by
 have HAD:=mK (fun (s:Int) (hs:0<=s/\s<=4) W=>Add3_calls hm hs W)
 have HTK:=mK (fun (s:Int) (hs:0<=s/\s<=4) W=>Take3_calls hm hs W)
 have HR:=mK hr
 have HRI:=mK hR
 have H0:=mK (show tokR.own 71 (w.alloc (.cells #[.int .i64 k,.int .i64 (p:Nat),.int .i64 (q:Nat),.int .i64 0,.int .i64 0,.int .i64 0,.slice B 0 cb,.int .i64 m] 46)) (fun z=>w.heap.size < z) (.slice none 0 0) ((mark9 k m p q l).take 0) from by rw[List.take_zero];exact Rp.x0v _ _ _ _)
 have HBX:=mK (heap_alloc_new w (.cells #[.int .i64 k,.int .i64 (p:Nat),.int .i64 (q:Nat),.int .i64 0,.int .i64 0,.int .i64 0,.slice B 0 cb,.int .i64 m] 46))
 have HML:=mK (show (mark9 k m p q l).length=l.length by unfold mark9;simp)
 have hw1:IntKind.i64.wrap ((p:Int))=p:=IntWalk.i64_in _ (by omega)
 clear hr hR hm
 have HK:=mK hk
 clear hk
 unfold StepD.val markS
 go_enter Tryz.func205,Tryz.ntmps205
 go_wp2
 go_loopg [5,6] l.length (fun gg v i wr=>∃ n:Nat,n+gg=l.length/\i=.int .i64 n/\As (tokR.own 71 wr (fun z=>w.heap.size < z) v ((mark9 k m p q l).take n))/\As (wr.heap[w.heap.size]?=some (.cells #[.int .i64 k,.int .i64 (p:Nat),.int .i64 (q:Nat),.int .i64 0,.int .i64 0,.int .i64 0,.slice B 0 cb,.int .i64 m] 46 (0,0))/\Pure w wr))
 case atStart=>exact⟨0,by omega,rfl,H0,⟨HBX.o,Upd.alloc1 _ _ _⟩⟩
 case round=>
  clear H0 HBX
  obtain⟨n,hn,rfl,HO,HP⟩:=hrel
  by_cases hlt:n < l.length
  ·obtain⟨x,hx⟩:=gS hlt
   obtain⟨g1,rfl⟩:∃ y,gk=y+1:=⟨gk - 1,by omega⟩
   obtain⟨bt,ot,rfl,hFb,hbb,d0,d1,d2,d3⟩:=x0j (Rp.x01 HR.o HP.o.2) hx
   have hbx:=HP.o.1
   have k0:wr.cell? ⟨w.heap.size,0,none⟩=some (.int .i64 k):=by unfold World.cell?;simp only[hbx];rfl
   have k1:wr.cell? ⟨w.heap.size,1,none⟩=some (.int .i64 (p:Nat)):=by unfold World.cell?;simp only[hbx];rfl
   have k2:wr.cell? ⟨w.heap.size,2,none⟩=some (.int .i64 (q:Nat)):=by unfold World.cell?;simp only[hbx];rfl
   have k7:wr.cell? ⟨w.heap.size,7,none⟩=some (.int .i64 m):=by unfold World.cell?;simp only[hbx];rfl
   have hbl:w.heap.size < wr.heap.size:=lB hbx
   have HX:=mK (mark9_take (k:=k) (m:=m) (p:=p) (q:=q) hx)
   have HXR:=mK (HRI.o x (List.mem_of_getElem? hx))
   have HN:=mK hn
   have hwn:IntKind.i64.wrap ((n:Int)+1)=(n:Int)+1:=IntWalk.i64_in _ (by omega)
   have hnl:(n:Int) < (l.length:Int):=by omega
   have HLT:As (((mark9 k m p q l).take n).length<=100000):=⟨by rw[List.length_take];omega⟩
   by_cases hin:x.k=0/\p<=n/\n < q
   ·have he:elem9 k m p q n x=⟨x.k,x.t,x.n,turnM k m x.m⟩:=by
     unfold elem9 turnT
     rw[if_pos hin.2,if_pos hin.1]
    rw[he] at HX
    have hset:=mark_set HXR.o hin.1
    have HAS:=mK (HAD.o x.m hset)
    have HTS:=mK (HTK.o x.m hset)
    have e0:(x.k == 0)=true:=by simp[hin.1]
    have c1:decide ((p:Int)<=(n:Int))=true:=decide_eq_true (by omega)
    have c2:decide ((n:Int) < (q:Int))=true:=decide_eq_true (by omega)
    have c3:decide ((n:Int) >= (p:Int))=true:=c1
    have c4:decide (p<=n)=true:=decide_eq_true hin.2.1
    have c5:decide (n < q)=true:=decide_eq_true hin.2.2
    clear hx hn hbx hin he hset
    rcases HK.o with rfl | rfl
    ·generalize turnM 2 m x.m=tm at *
     go_wp2_with (first | (at_builtin;refine Rp.x0o tokR (Rp.x1s HO.o _) (⟨x.k,x.t,x.n,tm⟩:Tok) [.int .i64 x.k,.int .i64 x.t,.int .i64 x.n,.int .i64 tm] rfl (Fp:=fun _=>False) (G:=fun z=>w.heap.size < z) (fun _ h=>h.elim) (fun _ h _=>h) (fun z hz=>by simp at hz;omega) rfl _ _ 22 _ 32 rfl Tryz.underlying22 x0y rfl (by decide) (by decide) rfl (by simp[Act.eval,Tok.cs]) (by have:=HLT.o;omega) ?_;intro v1 w1 ho1 hu1;rw[<- HX.o] at ho1;have HO1:=mK ho1;have HU1:=mK hu1;clear ho1 hu1) | (go_at_call 215;refine(HAS.o _).mono ?_;rintro e w' ⟨rfl,rfl⟩))
     go_roundg g1
     case measure=>omega
     case rel=>exact⟨n+1,by have:=HN.o;omega,by go_num,HO1,⟨(HU1.o.block w.heap.size (by simp;omega) (fun h=>by have:=(Rp.x03 HO.o _ h).1;omega)).trans ((Below.heap_alloc _ _ _ hbl).trans HP.o.1),(HP.o.2.alloc _).trans HU1.o (fun z hz h=>by have:=(Rp.x03 HO.o z h).1;omega)⟩⟩
    ·generalize turnM 3 m x.m=tm at *
     go_wp2_with (first | (at_builtin;refine Rp.x0o tokR (Rp.x1s HO.o _) (⟨x.k,x.t,x.n,tm⟩:Tok) [.int .i64 x.k,.int .i64 x.t,.int .i64 x.n,.int .i64 tm] rfl (Fp:=fun _=>False) (G:=fun z=>w.heap.size < z) (fun _ h=>h.elim) (fun _ h _=>h) (fun z hz=>by simp at hz;omega) rfl _ _ 22 _ 32 rfl Tryz.underlying22 x0y rfl (by decide) (by decide) rfl (by simp[Act.eval,Tok.cs]) (by have:=HLT.o;omega) ?_;intro v1 w1 ho1 hu1;rw[<- HX.o] at ho1;have HO1:=mK ho1;have HU1:=mK hu1;clear ho1 hu1) | (go_at_call 216;refine(HTS.o _).mono ?_;rintro e w' ⟨rfl,rfl⟩))
     go_roundg g1
     case measure=>omega
     case rel=>exact⟨n+1,by have:=HN.o;omega,by go_num,HO1,⟨(HU1.o.block w.heap.size (by simp;omega) (fun h=>by have:=(Rp.x03 HO.o _ h).1;omega)).trans ((Below.heap_alloc _ _ _ hbl).trans HP.o.1),(HP.o.2.alloc _).trans HU1.o (fun z hz h=>by have:=(Rp.x03 HO.o z h).1;omega)⟩⟩
   ·have he:elem9 k m p q n x=x:=by
     unfold elem9 turnT
     split
     ·rw[if_neg (by omega)]
     ·rfl
    rw[he] at HX
    have e0:(x.k == 0)=decide (x.k=0):=rfl
    have HIN:As (¬ (x.k=0/\p<=n/\n < q)):=⟨hin⟩
    clear hx hn hbx hin he
    cases c0:decide (x.k=0) <;> cases c1:decide ((p:Int)<=(n:Int)) <;> cases c2:decide ((n:Int) < (q:Int))
    all_goals first
     | (exfalso;have h0:=of_decide_eq_true c0;have h1:=of_decide_eq_true c1;have h2:=of_decide_eq_true c2;exact HIN.o ⟨h0,by omega,by omega⟩)
     | skip
    all_goals
     have c3:decide ((n:Int) >= (p:Int))=decide ((p:Int)<=(n:Int)):=rfl
     have c4:decide (p<=n)=decide ((p:Int)<=(n:Int)):=by simp
     have c5:decide (n < q)=decide ((n:Int) < (q:Int)):=by simp
     rw[c1] at c3 c4
     rw[c2] at c5
     rw[c0] at e0
     clear HIN c0
     go_wp2_with (at_builtin;refine Rp.x0o tokR (Rp.x1s HO.o _) x x.cs rfl (Fp:=fun _=>False) (G:=fun z=>w.heap.size < z) (fun _ h=>h.elim) (fun _ h _=>h) (fun z hz=>by simp at hz;omega) rfl _ _ 22 _ 32 rfl Tryz.underlying22 x0y rfl (by decide) (by decide) rfl (by simp[Act.eval,Tok.cs]) (by have:=HLT.o;omega) ?_;intro v1 w1 ho1 hu1;rw[<- HX.o] at ho1;have HO1:=mK ho1;have HU1:=mK hu1;clear ho1 hu1)
     go_roundg g1
     case measure=>omega
     case rel=>exact⟨n+1,by have:=HN.o;omega,by go_num,HO1,⟨(HU1.o.block w.heap.size (by simp;omega) (fun h=>by have:=(Rp.x03 HO.o _ h).1;omega)).trans ((Below.heap_alloc _ _ _ hbl).trans HP.o.1),(HP.o.2.alloc _).trans HU1.o (fun z hz h=>by have:=(Rp.x03 HO.o z h).1;omega)⟩⟩
  ·obtain rfl:n=l.length:=by omega
   rw[List.take_of_length_le (by rw[HML.o];exact Nat.le_refl _)] at HO
   go_wp2
   go_ret
   obtain⟨A1,c1,rfl,hle,hrow⟩:=Rp.x0c HO.o
   exact⟨⟨A1,c1,rfl,hle,Rp.x09 hrow (fun _ h=>Nat.le_of_lt h)⟩,HP.o.2⟩
theorem chk9_mark {k a b m:Int} (hk:k=2\/k=3) :
 Calls Tryz.prog 176 #[(markS k a b m).val B cb] w fun r w'=>r=.returned (.int .i64 (x0q (markS k a b m)))/\Pure w w':=by
 have HS1:=mK (fun h2=>sc_one (s:=markS k a b m) (by simp[markS]) h2)
 have HS0:=mK (fun h2=>sc_zero (s:=markS k a b m) (by simp[markS]) h2)
 have HIF:=mK (markS_ok (a:=a) (b:=b) (m:=m) hk)
 have HBX:=mK (heap_alloc_new w (.cells #[.int .i64 k,.int .i64 a,.int .i64 b,.int .i64 0,.int .i64 0,.int .i64 0,.slice B 0 cb,.int .i64 m] 46))
 generalize x0q (markS k a b m)=sc at *
 generalize (markS k a b m).ok=okP at *
 have e:(markS k a b m).val B cb=.agg #[.int .i64 k,.int .i64 a,.int .i64 b,.int .i64 0,.int .i64 0,.int .i64 0,.slice B 0 cb,.int .i64 m]:=rfl
 rw[e]
 clear e
 have HMK:As (x10 m ↔ (m=1\/m=2\/m=4)):=⟨Iff.rfl⟩
 rcases hk with rfl | rfl
 all_goals
  cases h0:decide (a < 0) <;> cases h1:decide (b < a) <;> cases h2:decide (2048 < b)
  case' false.false.false=>
   have HA:=mK (And.intro (of_decide_eq_false h0) (And.intro (of_decide_eq_false h1) (of_decide_eq_false h2)))
   have h3:decide (a > b)=false:=h1
   have h4:decide (b > 2048)=false:=h2
   have hch:decide (a < b)=false\/(decide (a < b)=true/\(m == 1)=true)\/(decide (a < b)=true/\(m == 1)=false/\(m == 2)=true)\/(decide (a < b)=true/\(m == 1)=false/\(m == 2)=false/\(m == 4)=true)\/(decide (a < b)=true/\(m == 1)=false/\(m == 2)=false/\(m == 4)=false):=by
    cases decide (a < b) <;> cases (m == 1) <;> cases (m == 2) <;> cases (m == 4) <;> simp
   have HV:As ((decide (a < b) && ((m == 1) || (m == 2) || (m == 4)))=true->sc=0):=⟨fun hv=>HS0.o (HIF.o.2 (by
    simp only[Bool.and_eq_true,Bool.or_eq_true,decide_eq_true_eq,beq_iff_eq] at hv
    have:=HA.o
    exact⟨by omega,hv.1,by omega,HMK.o.2 (by rcases hv.2 with (h | h) | h <;> simp[h])⟩))⟩
   have HW:As ((decide (a < b) && ((m == 1) || (m == 2) || (m == 4)))=false->sc=1):=⟨fun hv=>HS1.o (fun ho=>by
    have h9:=HIF.o.1 ho
    have h8:=HMK.o.1 h9.2.2.2
    rw[decide_eq_true h9.2.1,Bool.true_and] at hv
    rcases h8 with h | h | h <;> (rw[h] at hv;exact absurd hv (by decide)))⟩
   rcases hch with q0 | ⟨q0,q1⟩ | ⟨q0,q1,q2⟩ | ⟨q0,q1,q2,q3⟩ | ⟨q0,q1,q2,q3⟩
   all_goals
    try rw[q0] at HV HW
    try rw[q1] at HV HW
    try rw[q2] at HV HW
    try rw[q3] at HV HW
    go_enter Tryz.func176,Tryz.ntmps176
    go_wp2
    go_loopg [4,5] 1 (fun gg fv i wr=>fv=.bool (decide (a < b) && ((m == 1) || (m == 2) || (m == 4)))/\i=.int .i64 0/\As (wr.heap[w.heap.size]?=some (.cells #[.int .i64 _,.int .i64 a,.int .i64 b,.int .i64 0,.int .i64 0,.int .i64 0,.slice B 0 cb,.int .i64 m] 46 (0,0))/\Pure w wr))
    case atStart=>exact⟨by simp[*],rfl,⟨HBX.o,Upd.alloc1 _ _ _⟩⟩
    case round=>
     obtain⟨rfl,rfl,HP⟩:=hrel
     have hbx:=HP.o.1
     have z6:wr.cell? ⟨w.heap.size,6,none⟩=some (.slice B 0 cb):=by unfold World.cell?;simp only[hbx];rfl
     have hbl:w.heap.size < wr.heap.size:=lB hbx
     clear hbx
     go_wp2
     go_ret
     exact⟨by first | (rw[HV.o rfl];rfl) | (rw[HW.o rfl];rfl) | (rw[HV.o (by simp)];rfl) | (rw[HW.o (by simp)];rfl),HP.o.2⟩
  all_goals
   have HNO:As (¬ okP):=⟨fun ho=>by
    have ho2:=HIF.o.1 ho
    have q0:=h0;have q1:=h1;have q2:=h2
    simp only[decide_eq_true_eq,decide_eq_false_iff_not] at q0 q1 q2
    omega⟩
   have h3:decide (a > b)=decide (b < a):=rfl
   have h4:decide (b > 2048)=decide (2048 < b):=rfl
   rw[h1] at h3
   rw[h2] at h4
   go_enter Tryz.func176,Tryz.ntmps176
   go_wp2
   go_ret
   exact⟨by rw[HS1.o HNO.o];rfl,Upd.alloc1 _ _ _⟩
theorem done9_mark {l:List Tok} {k m:Int} {p q:Nat} (hk:k=2\/k=3) (hm:x10 m) (hr:tokR.row w F A l) (hR:∀ x ∈ l,x0p x=true) (hb:l.length<=100000) (hq:q<=l.length) (hpq:p<=q) :
 Calls Tryz.prog 177 #[.slice A l.length c,(markS k p q m).val B cb] w (Told9 w (x0t l (markS k p q m))):=by
 rw[<- mark9_do hk hpq hq]
 have HM:=mK (fun W (hu:Pure w W)=>marked9_calls (c:=c) (B:=B) (cb:=cb) hk hm (Rp.x01 hr hu) hR hb hq hpq)
 have e:(markS k p q m).val B cb=.agg #[.int .i64 k,.int .i64 (p:Nat),.int .i64 (q:Nat),.int .i64 0,.int .i64 0,.int .i64 0,.slice B 0 cb,.int .i64 m]:=rfl
 rw[e] at HM ⊢
 clear hr hR e
 generalize mark9 k m p q l=ml at *
 rcases hk with rfl | rfl
 all_goals
  go_enter Tryz.func177,Tryz.ntmps177
  go_wp2_with (go_at_call 205;refine(HM.o _ aU).mono ?_;intro r w2 ht;obtain⟨⟨A3,c3,rfl,hle3,hrow3⟩,hu3⟩:=ht;have HLE:=mK hle3;have HRW:=mK hrow3;have HU3:=mK hu3;clear hle3 hrow3 hu3)
  go_ret
  exact Told9.of aU rfl rfl HLE.o HRW.o HU3.o
theorem tokens_own {ls:List (List Tok)} (hr:toksR.row w F A ls) (hlc:ls.length<=c) (hl:ls.length<=1000) (hb:sumL ls<=1048576 * 8) :
 Calls Tryz.prog 153 #[.slice A ls.length c] w fun r w'=>(∃ b,r=.returned (.slice (some ⟨b,0,none⟩) ls.flatten.length ls.flatten.length)/\tokR.row w' (fun k=>w.heap.size<=k) (some ⟨b,0,none⟩) ls.flatten/\∀ i,w'.frozen? ⟨b,i,none⟩=false)/\Pure w w':=by
 obtain⟨i0,hi,hzz⟩:=Option.map_eq_some_iff.1 x0y
 simp only[Prod.mk.injEq] at hzz
 obtain⟨hz0,hz1,hz2⟩:=hzz
 have HR:=mK hr
 clear hr
 go_enter Tryz.func153,Tryz.ntmps153
 go_wp2
 go_loopg [3,12] ls.length (fun gg nv kv wr=>∃ k:Nat,k+gg=ls.length/\kv=.int .i64 k/\nv=.int .i64 (sumL (ls.take k):Nat)/\As (Pure w wr))
 case atStart=>exact⟨0,by omega,rfl,by simp[sumL],⟨Upd.refl _ _⟩⟩
 case round=>
  obtain⟨k,hk,rfl,rfl,HP⟩:=hrel
  by_cases hlt:k < ls.length
  ·obtain⟨x,hx⟩:=gS hlt
   obtain⟨b,o,B,cx,rfl,hF,hbl,hcx,hrow,hcell⟩:=toks_at (Rp.x01 HR.o HP.o) hx
   have hs:=sumL_take hx
   have hle:=sumL_le ls (k+1)
   obtain⟨g1,rfl⟩:=sC1 (by omega:0 < gk)
   have hw1:IntKind.i64.wrap ((sumL (ls.take k):Nat)+(x.length:Int))=(sumL (ls.take k):Nat)+(x.length:Int):=IntWalk.i64_in _ (by omega)
   have HS:=mK hs
   clear hx hrow hs
   go_wp2
   go_roundg g1
   case measure=>omega
   case rel=>exact⟨k+1,by omega,by go_num,by rw[HS.o];go_num,HP⟩
  ·obtain rfl:k=ls.length:=by omega
   obtain⟨wo,rfl⟩:∃ wo:World,wo=wr:=⟨_,rfl⟩
   have htl:ls.take ls.length=ls:=List.take_length
   rw[htl]
   obtain⟨N,hN⟩:∃ N,sumL ls=N:=⟨_,rfl⟩
   rw[hN]
   have hNb:N<=1048576 * 8:=by omega
   have hmk:=run_make (P:=Tryz.prog) wo 22 71 i0 _ Tryz.underlying22 hi hz0 .i64 .i64 (N:Int) N (by omega) (Int.le_refl _) (by rw[hz2];push_cast;omega) (by omega)
   simp only[Int.toNat_natCast] at hmk
   obtain⟨C,hC⟩:∃ C,madeCells (Value.agg #[.int .i64 0,.int .i64 0,.int .i64 0,.int .i64 0]).cells (N * i0.size)=C:=⟨_,rfl⟩
   rw[hC] at hmk
   have hCs:C.size=N * 4:=by rw[<- hC,size_madeCells,hz1]
   obtain⟨cur0,rfl⟩:∃ cur0:List Value,C=cur0.toArray:=⟨C.toList,by simp⟩
   have hcl:cur0.length=N * 4:=by simpa using hCs
   have H0:=mK (show TkRel w (wo.alloc (.cells cur0.toArray 71)) wo.heap.size ls 0 from⟨HP.o.alloc _,HP.o.size,by simp,cur0,heap_alloc_new wo _,by rw[hcl,hN],by simp[sumL,flatT]⟩)
   have HN:=mK hN
   have HCL:=mK hcl
   clear htl hN hC hCs hcl hz0 hz1 hz2 hi
   go_wp2
   go_loopg [7,25] ls.length (fun gg av kv wx=>∃ k:Nat,k+gg=ls.length/\kv=.int .i64 k/\av=.int .i64 (sumL (ls.take k):Nat)/\As (TkRel w wx wo.heap.size ls k))
   case atStart=>exact⟨0,by omega,rfl,by simp[sumL],H0⟩
   case round=>
    obtain⟨k,hk,rfl,rfl,HT⟩:=hrel
    obtain⟨hp,hg1,hg2,cur,hblk,hcl,htk⟩:=HT.o
    by_cases hlt:k < ls.length
    ·obtain⟨x,hx⟩:=gS hlt
     obtain⟨b,o,B,cx,rfl,hF,hbl,hcx,hrow,hcell⟩:=toks_at (Rp.x01 HR.o hp) hx
     have hs:=sumL_take hx
     have hle:=sumL_le ls (k+1)
     obtain⟨g1,rfl⟩:=sC1 (by omega:0 < gk)
     obtain⟨S0,hS0⟩:∃ S0,sumL (ls.take k)=S0:=⟨_,rfl⟩
     have hSN:S0+x.length<=N:=by have:=HN.o;omega
     have HSX:=mK (show sumL (ls.take (k+1))=S0+x.length by omega)
     have hfl:=flatT_len x
     have HST:=mK (fun (W1:World) (h1:W1.heap[wo.heap.size]?=some (.cells (splice cur (S0 * 4) (flatT x)).toArray 71 (0,0))) (hu:Upd (fun q=>q=wo.heap.size) wr W1)=>TkRel.step hx hp hg1 hg2 hcl htk (by rw[hS0];exact h1) hu)
     by_cases hroom:S0 < N
     ·skip
      have hw1:IntKind.i64.wrap ((S0:Int)+(x.length:Int))=(S0:Int)+(x.length:Int):=IntWalk.i64_in _ (by omega)
      have hle0:¬ (N:Int) < (S0:Int):=by omega
      rw[hS0]
      have HX0:=mK (And.intro hp (And.intro hg1 hg2))
      by_cases h0:x.length=0
      ·have hx0:x=[]:=List.eq_nil_of_length_eq_zero h0
       subst hx0
       have hcopy:=x5e (P:=Tryz.prog) wr 22 22 3 71 (some ⟨wo.heap.size,S0 * 4,none⟩) B (N - S0) (N - S0) 0 cx 4 Tryz.underlying22 tok_size (by simp[Nat.min_def])
       have HG:=mK (HST.o wr (by rw[hblk];simp[splice,flatT]) rU)
       have hw2:IntKind.i64.wrap ((S0:Int)+0)=(S0:Int):=IntWalk.i64_in _ (by omega)
       simp only[List.length_nil,Nat.add_zero] at HSX
       clear hx hs hfl hp hblk hcl htk hS0 hrow hw1 hg1
       go_wp2
       go_roundg g1
       case measure=>omega
       case rel=>exact⟨k+1,by omega,by go_num,by first | (rw[HSX.o];done) | (rw[HSX.o,Int.natCast_add]),HG⟩
      ·obtain⟨ad,rfl,hcells⟩:=row_flat hrow (by intro e;rw[e] at h0;exact h0 rfl)
       have hmin:Nat.min x.length (N - S0)=x.length:=Nat.min_eq_left (by omega)
       have hcopy:=run_copy_rowN (P:=Tryz.prog) wr 22 22 3 71 wo.heap.size (S0 * 4) (N - S0) (N - S0) ad x.length cx 4 cur.toArray 71 (flatT x) Tryz.underlying22 tok_size hblk (by rw[hmin];exact hfl) hcells (by rw[hfl,List.size_toArray,hcl];have:=HN.o;omega) (flatT_one x)
       rw[hmin] at hcopy
       obtain⟨W1,hW1⟩:∃ W1,wr.setRow wo.heap.size (cur.toArray.toList.take (S0 * 4) ++ flatT x ++ cur.toArray.toList.drop (S0 * 4+(flatT x).length)).toArray=W1:=⟨_,rfl⟩
       have hb1:W1.heap[wo.heap.size]?=some (.cells (splice cur (S0 * 4) (flatT x)).toArray 71 (0,0)):=by
        rw[<- hW1]
        have h9:=setRow_heap wr wo.heap.size cur.toArray (cur.toArray.toList.take (S0 * 4) ++ flatT x ++ cur.toArray.toList.drop (S0 * 4+(flatT x).length)).toArray 71 (0,0) hblk
        rw[h9]
        simp[splice]
       have hu1:Upd (fun q=>q=wo.heap.size) wr W1:=by
        rw[<- hW1]
        exact⟨rfl,rfl,rfl,by simp[World.setRow],fun q hq hn=>setRow_other wr wo.heap.size q _ (fun e=>hn e)⟩
       rw[hW1] at hcopy
       have HG:=mK (HST.o W1 hb1 hu1)
       clear hx hs hfl hp hblk hcl htk hS0 hrow hcells hmin hW1 hb1 hu1 h0 hg1
       go_wp2
       go_roundg g1
       case measure=>omega
       case rel=>exact⟨k+1,by omega,by go_num,by first | (rw[HSX.o];done) | (rw[HSX.o,Int.natCast_add]),HG⟩
     ·have hS1:S0=N:=by omega
      have hx0:x.length=0:=by omega
      have hxn:x=[]:=List.eq_nil_of_length_eq_zero hx0
      subst hxn
      have hcopy:=x5e (P:=Tryz.prog) wr 22 22 3 71 (some ⟨wo.heap.size,0,none⟩) B 0 0 0 cx 4 Tryz.underlying22 tok_size (by simp[Nat.min_def])
      have HG:=mK (HST.o wr (by rw[hblk];simp[splice,flatT]) rU)
      have hw2:IntKind.i64.wrap ((N:Int)+0)=(N:Int):=IntWalk.i64_in _ (by omega)
      simp only[List.length_nil,Nat.add_zero] at HSX
      rw[hS0]
      subst hS1
      clear hx hs hfl hp hblk hcl htk hS0 hrow hg1 hroom
      go_wp2
      go_roundg g1
      case measure=>omega
      case rel=>exact⟨k+1,by omega,by go_num,by first | (rw[HSX.o]) | (rw[HSX.o];go_num),HG⟩
    ·obtain rfl:k=ls.length:=by omega
     have htl:ls.take ls.length=ls:=List.take_length
     rw[htl] at htk
     have hN:=HN.o
     have hfin:flatT ls.flatten=cur:=by
      rw[<- htk,List.take_of_length_le (by omega)]
     have hrow:tokR.row wr (fun q=>w.heap.size<=q) (some ⟨wo.heap.size,0,none⟩) ls.flatten:=Rp.x1k hblk hg1 (by rw[List.toList_toArray,<- hfin];exact reps_flatT _ _ _)
     have HRW:=mK hrow
     have HFZ:=mK (show ∀ i,wr.frozen? ⟨wo.heap.size,i,none⟩=false from fun i=>by simp[World.frozen?,hblk])
     have HP2:=mK hp
     have HLN:=mK (show ls.flatten.length=N by rw[flatten_len,hN])
     rw[htl]
     clear htl htk hN hfin hrow hp hblk hcl hg1 hg2 HT
     go_wp2
     go_ret
     exact⟨⟨_,by rw[HLN.o];rfl,HRW.o,HFZ.o⟩,HP2.o⟩
/-- What is put around: the tokens that open, as many that close. -/
def x1x (us:List Tok):List Tok:=us ++ List.replicate us.length shutT
def x2n (l:List Tok) (f t:Int) (us:List Tok):Int:=if x0e l f t ≠ 0 then x0e l f t else if f=t then 6 else x08 l (arnd f t f t us.length (x1x us))
theorem wrapSl_len (us:List Tok):(x1x us).length=2 * us.length:=by unfold x1x;rw[List.length_append,List.length_replicate];omega
theorem Wrap_at {T:Option Addr} {ct n:Nat} {f t e pe:Int} {us:List Tok} {s':StepD} (hx:tokR.row w F T us) (hub:us.length<=1048576) (hus:∀ x ∈ us,x.k=1) (hun:us ≠ [])
 (hp:∀ W,Pure w W->Calls Tryz.prog 83 #[deskV cb A n c,.int .i64 f,.int .i64 t] W (fun r w'=>r=.returned (.int .i64 pe)/\Pure W w'))
 (hr:pe=0->f ≠ t->∀ V A1 c1,Pure w V->tokR.row V (fun _=>True) A1 (x1x us)->(x1x us).length<=c1->Calls Tryz.prog 91 #[deskV cb A n c,(arnd f t f t us.length (x1x us)).val A1 c1] V (Told s' (toldB A1 e) (toldC c1 e) e V))
 (h0:pe ≠ 0->s'=repl 0 0 []/\e=pe) (h1:pe=0->f=t->s'=repl 0 0 []/\e=6) (h2:e=0->f ≠ t->s'.sl=x1x us) (h3:e ≠ 0->s'.sl=[]) :
 Calls Tryz.prog 36 #[.pointer (some ⟨cb,0,none⟩),.slice A n c,.int .i64 f,.int .i64 t,.slice T us.length ct] w (fun r w'=>∃ B' c',Told s' B' c' e w r w'/\(tokR.row w' (fun k=>w.heap.size<=k) B' s'.sl/\s'.sl.length<=c')/\(e ≠ 0->B'=none/\c'=0)):=by
 have HP0:=mK hp
 have HX:=mK hx
 have HUS:=mK hus
 have hul:((us.length:Int) == 0)=false:=by
  have:=List.length_pos_iff.2 hun
  simp only[beq_eq_false_iff_ne,ne_eq]
  omega
 clear hp hx hus hun
 by_cases p0:pe=0
 ·by_cases ft:f=t
  ·obtain⟨rfl,rfl⟩:=h1 p0 ft
   subst p0 ft
   clear hr h0 h1 h2 h3
   have HP:=HP0
   clear HP0
   unfold Told StepD.val at *
   go_enter Tryz.func36,Tryz.ntmps36
   go_wp2_with (first | (at_builtin;refine Rp.x1i tokR (c:=ct) (Rp.x0v tokR 71 w1 (fun q=>w1.heap.size<=q)) (Rp.x1q (Rp.x01 HX.o HU1.o) (fun _ _ h=>h)) (Fz:=fun _=>False) (fun _ h=>h.elim) rfl _ _ 22 _ 32 rfl Tryz.underlying22 x0y rfl (by decide) (by decide) rfl rfl (by simp only[List.length_nil];omega) ?_;intro v1 w2 ho1 hu1 hat;simp only[List.nil_append] at ho1;have HO1:=mK (Rp.x3a (G:=fun q=>w1.heap.size<=q) ho1 (fun q hq=>by rcases hq with hq | hq | hq;exact hq.1;exact hq.elim;rcases hat with hat | ⟨b,hb,hle⟩;(rw[hat] at hq;simp[Value.ownBlock] at hq);(rw[hb] at hq;injection hq with hq;omega)));have HP1:=mK (Upd.trans (Upd.refl (fun _=>False) w1) hu1 (fun k _ h=>by simp[Value.ownBlock] at h));clear ho1 hu1 hat) | (go_at_call 83;refine(HP.o _ (aP.alloc _)).mono ?_;rintro r w1 ⟨rfl,hu⟩;obtain⟨hb1,hb2,hu2⟩:=x0s hu;obtain⟨q0,q1⟩:=cells2 hb2;have HB1:=mK hb1;have HQ1:=mK hb2;have HU1:=mK hu2;clear hu hb1 hb2 hu2))
   go_loopg [14,34] us.length (fun g v i wr=>∃ k:Nat,k+g=us.length/\i=.int .i64 k/\As (tokR.own 71 wr (fun q=>w1.heap.size<=q) v (us ++ List.replicate k shutT))/\As (Pure w1 wr))
   case atStart=>exact⟨0,by omega,rfl,⟨by simpa using HO1.o⟩,⟨HP1.o⟩⟩
   case round=>
    obtain⟨k,hk,rfl,HO,HP⟩:=hrel
    by_cases hlt:k < us.length
    ·obtain⟨g1,rfl⟩:=sC1 (by omega:0 < gk)
     obtain⟨x,hx⟩:=gS hlt
     obtain⟨b,o,rfl,hF,hbl,c0,c1,c2,c3⟩:=x0j (Rp.x01 HX.o (HU1.o.tt HP.o)) hx
     rw[HUS.o x (List.mem_of_getElem? hx)] at c0
     have HKK:=mK hk
     clear hx hk
     go_wp2_with (first | (at_builtin;refine Rp.x0o tokR HO2.o shutT shutT.cs rfl (Fp:=fun _=>False) (G:=fun q=>w1.heap.size<=q) (fun _ h=>h.elim) (fun _ h _=>h) (fun q hq=>by have:=HP2.o.size;omega) rfl _ _ 22 _ 32 rfl Tryz.underlying22 x0y rfl (by decide) (by decide) rfl (by simp[Act.eval]) (by simp only[List.length_append,List.length_replicate];omega) ?_;intro v1 w4 ho1 hu1;have HO4:=mK ho1;have HP4:=mK (Upd.trans HP2.o hu1 (fun q hq h=>by have:=Rp.x03 HO2.o q h;omega));clear ho1 hu1) | (go_at_call 93;refine(x2q _).mono ?_;rintro r w3 ⟨rfl,hu⟩;have HP2:=mK ((HP.o.alloc _).tt hu);have HO2:=mK (Rp.x0w (Rp.x1s HO.o _) hu (fun _ _ _ h=>h));clear hu))
     go_roundg g1
     case measure=>omega
     case rel=>exact⟨k+1,by have:=HKK.o;omega,by go_num,⟨by rw[List.replicate_succ',<- List.append_assoc];exact HO4.o⟩,⟨HP4.o⟩⟩
    ·obtain rfl:k=us.length:=by omega
     have HUR:=mK (HU1.o.tt HP.o)
     have HBR:=mK (kP HP.o HB1.o)
     obtain⟨z0,z1⟩:=cells2 (kP HP.o HQ1.o)
     obtain⟨A1,c1,rfl,hc1,hrow⟩:=Rp.x0c HO.o
     have HSG:=mK (Rp.x09 (G:=fun k=>w.heap.size < k) hrow (fun k hk=>by have h8:=lt_of_block HQ1.o;omega))
     have HSL:=mK (And.intro (Rp.x09 (G:=fun _=>True) hrow (fun _ _=>trivial)) hc1)
     have hlen:((us ++ List.replicate us.length shutT).length)=(x1x us).length:=rfl
     rw[hlen]
     clear hrow hc1 HO hlen hk
     go_wp2_with (go_at_call 84;refine(x0x _).mono ?_;rintro r w2 ⟨rfl,hu⟩;have HB2:=mK (kP hu HBR.o);have HU2:=mK (HUR.o.tt hu);clear hu;apply As.o)
     refine⟨?_⟩
     have hbl:w.heap.size < w2.heap.size:=lB HB2.o
     have hcf:=fZ HB2.o
     obtain⟨k0,k1,k2,k3,k4,k5,k6,k7⟩:=x06 HB2.o
     go_wp2
     exact bodyPost_ret (step_end (rb:=w.heap.size) rfl _ rfl (set8 (rb:=w.heap.size) HB2.o _ _ _ _ _ _ _ _)) rfl ⟨none,0,⟨rfl,x05 HU2.o (Nat.le_refl _) _ _ _ _ _ _ _ _⟩,⟨.inl rfl,Nat.zero_le _⟩,fun _=>⟨rfl,rfl⟩⟩
  ·have HR:=mK (hr p0 ft)
   have HT:=mK (And.intro (fun h=>h2 h ft) h3)
   have hft:(f == t)=false:=by simpa using ft
   subst p0
   clear hr h0 h1 h2 h3 ft
   have HP:=HP0
   clear HP0
   unfold Told StepD.val arnd at *
   go_enter Tryz.func36,Tryz.ntmps36
   go_wp2_with (first | (at_builtin;refine Rp.x1i tokR (c:=ct) (Rp.x0v tokR 71 w1 (fun q=>w1.heap.size<=q)) (Rp.x1q (Rp.x01 HX.o HU1.o) (fun _ _ h=>h)) (Fz:=fun _=>False) (fun _ h=>h.elim) rfl _ _ 22 _ 32 rfl Tryz.underlying22 x0y rfl (by decide) (by decide) rfl rfl (by simp only[List.length_nil];omega) ?_;intro v1 w2 ho1 hu1 hat;simp only[List.nil_append] at ho1;have HO1:=mK (Rp.x3a (G:=fun q=>w1.heap.size<=q) ho1 (fun q hq=>by rcases hq with hq | hq | hq;exact hq.1;exact hq.elim;rcases hat with hat | ⟨b,hb,hle⟩;(rw[hat] at hq;simp[Value.ownBlock] at hq);(rw[hb] at hq;injection hq with hq;omega)));have HP1:=mK (Upd.trans (Upd.refl (fun _=>False) w1) hu1 (fun k _ h=>by simp[Value.ownBlock] at h));clear ho1 hu1 hat) | (go_at_call 83;refine(HP.o _ (aP.alloc _)).mono ?_;rintro r w1 ⟨rfl,hu⟩;obtain⟨hb1,hb2,hu2⟩:=x0s hu;obtain⟨q0,q1⟩:=cells2 hb2;have HB1:=mK hb1;have HQ1:=mK hb2;have HU1:=mK hu2;clear hu hb1 hb2 hu2))
   go_loopg [14,34] us.length (fun g v i wr=>∃ k:Nat,k+g=us.length/\i=.int .i64 k/\As (tokR.own 71 wr (fun q=>w1.heap.size<=q) v (us ++ List.replicate k shutT))/\As (Pure w1 wr))
   case atStart=>exact⟨0,by omega,rfl,⟨by simpa using HO1.o⟩,⟨HP1.o⟩⟩
   case round=>
    obtain⟨k,hk,rfl,HO,HP⟩:=hrel
    by_cases hlt:k < us.length
    ·obtain⟨g1,rfl⟩:=sC1 (by omega:0 < gk)
     obtain⟨x,hx⟩:=gS hlt
     obtain⟨b,o,rfl,hF,hbl,c0,c1,c2,c3⟩:=x0j (Rp.x01 HX.o (HU1.o.tt HP.o)) hx
     rw[HUS.o x (List.mem_of_getElem? hx)] at c0
     have HKK:=mK hk
     clear hx hk
     go_wp2_with (first | (at_builtin;refine Rp.x0o tokR HO2.o shutT shutT.cs rfl (Fp:=fun _=>False) (G:=fun q=>w1.heap.size<=q) (fun _ h=>h.elim) (fun _ h _=>h) (fun q hq=>by have:=HP2.o.size;omega) rfl _ _ 22 _ 32 rfl Tryz.underlying22 x0y rfl (by decide) (by decide) rfl (by simp[Act.eval]) (by simp only[List.length_append,List.length_replicate];omega) ?_;intro v1 w4 ho1 hu1;have HO4:=mK ho1;have HP4:=mK (Upd.trans HP2.o hu1 (fun q hq h=>by have:=Rp.x03 HO2.o q h;omega));clear ho1 hu1) | (go_at_call 93;refine(x2q _).mono ?_;rintro r w3 ⟨rfl,hu⟩;have HP2:=mK ((HP.o.alloc _).tt hu);have HO2:=mK (Rp.x0w (Rp.x1s HO.o _) hu (fun _ _ _ h=>h));clear hu))
     go_roundg g1
     case measure=>omega
     case rel=>exact⟨k+1,by have:=HKK.o;omega,by go_num,⟨by rw[List.replicate_succ',<- List.append_assoc];exact HO4.o⟩,⟨HP4.o⟩⟩
    ·obtain rfl:k=us.length:=by omega
     have HUR:=mK (HU1.o.tt HP.o)
     have HBR:=mK (kP HP.o HB1.o)
     obtain⟨z0,z1⟩:=cells2 (kP HP.o HQ1.o)
     obtain⟨A1,c1,rfl,hc1,hrow⟩:=Rp.x0c HO.o
     have HSG:=mK (Rp.x09 (G:=fun k=>w.heap.size < k) hrow (fun k hk=>by have h8:=lt_of_block HQ1.o;omega))
     have HSL:=mK (And.intro (Rp.x09 (G:=fun _=>True) hrow (fun _ _=>trivial)) hc1)
     have hlen:((us ++ List.replicate us.length shutT).length)=(x1x us).length:=rfl
     rw[hlen]
     clear hrow hc1 HO hlen hk
     go_wp2_with (go_at_call 91;refine(HR.o wr _ _ HUR.o HSL.o.1 HSL.o.2).mono ?_;rintro r w2 ⟨rfl,hu⟩;have HB2:=mK (kP hu HBR.o);have HU2:=mK (HUR.o.tt hu);have HR2:=mK (Rp.x01 HSG.o hu);clear hu;apply As.o)
     refine⟨?_⟩
     have hbl:w.heap.size < w2.heap.size:=lB HB2.o
     have hcf:=fZ HB2.o
     obtain⟨k0,k1,k2,k3,k4,k5,k6,k7⟩:=x06 HB2.o
     go_wp2
     exact bodyPost_ret (step_end (rb:=w.heap.size) rfl _ rfl (set8 (rb:=w.heap.size) HB2.o _ _ _ _ _ _ _ _)) rfl ⟨_,_,⟨rfl,x05 HU2.o (Nat.le_refl _) _ _ _ _ _ _ _ _⟩,x29 (e:=e) HT.o.1 HT.o.2 (Rp.x09 (G:=fun k=>w.heap.size<=k) (Rp.x0f HR2.o (x0b rU _ _ _ _ _ _ _ _) (fun k _ h e=>by omega)) (fun _ h=>by (try have h8:=HL.o);omega)) HSL.o.2,fun h=>⟨if_neg h,if_neg h⟩⟩
 ·obtain⟨rfl,rfl⟩:=h0 p0
  have f0:(e != 0)=true:=by simpa using p0
  clear hr h0 h1 h2 h3 p0
  have HP:=HP0
  clear HP0
  unfold Told StepD.val at *
  go_enter Tryz.func36,Tryz.ntmps36
  go_wp2_with (first | (go_at_call 84;refine(x0x _).mono ?_;rintro r w2 ⟨rfl,hu⟩;have HB2:=mK (kP hu HB1.o);have HU2:=mK (HU1.o.tt hu);clear hu;apply As.o) | (go_at_call 83;refine(HP.o _ (aP.alloc _)).mono ?_;rintro r w1 ⟨rfl,hu⟩;obtain⟨hb1,hb2,hu2⟩:=x0s hu;obtain⟨q0,q1⟩:=cells2 hb2;have HB1:=mK hb1;have HQ1:=mK hb2;have HU1:=mK hu2;clear hu hb1 hb2 hu2))
  refine⟨?_⟩
  have hbl:w.heap.size < w2.heap.size:=lB HB2.o
  have hcf:=fZ HB2.o
  obtain⟨k0,k1,k2,k3,k4,k5,k6,k7⟩:=x06 HB2.o
  go_wp2
  exact bodyPost_ret (step_end (rb:=w.heap.size) rfl _ rfl (set8 (rb:=w.heap.size) HB2.o _ _ _ _ _ _ _ _)) rfl ⟨none,0,⟨rfl,x05 HU2.o (Nat.le_refl _) _ _ _ _ _ _ _ _⟩,⟨.inl rfl,Nat.zero_le _⟩,fun _=>⟨rfl,rfl⟩⟩
theorem Wrap12_go {T:Option Addr} {ct n:Nat} {f t e:Int} {us:List Tok} {s':StepD} (hx:tokR.row w F T us) (hub:us.length<=1048576)
 (hp:∀ W,Pure w W->Calls Tryz.prog 86 #[.pointer (some ⟨cb,0,none⟩),.slice A n c,.int .i64 f,.int .i64 t] W (fun r w'=>r=.returned (.int .i64 0)/\Pure W w'))
 (ht:goodW us->f ≠ t->∀ V A1 c1,Pure w V->tokR.row V (fun _=>True) A1 (x1x us)->(x1x us).length<=c1->Calls Tryz.prog 87 #[.pointer (some ⟨cb,0,none⟩),.slice A n c,(arnd f t f t us.length (x1x us)).val A1 c1] V (Told s' (toldB A1 e) (toldC c1 e) e V))
 (h1:¬ goodW us->s'=repl 0 0 []/\e=1) (h2:goodW us->f=t->s'=repl 0 0 []/\e=6) (h3:e=0->goodW us->f ≠ t->s'.sl=x1x us) (h4:e ≠ 0->s'.sl=[]) :
 Calls Tryz.prog 37 #[.pointer (some ⟨cb,0,none⟩),.slice A n c,.int .i64 f,.int .i64 t,.slice T us.length ct] w (fun r w'=>∃ B' c',Told s' B' c' e w r w'/\tokR.row w' (fun _=>True) B' s'.sl):=by
 have HP:=mK hp
 have HX:=mK hx
 have HT:=mK ht
 have H1:=mK h1
 have H2:=mK h2
 have H3:=mK h3
 have H4:=mK h4
 clear hp hx ht h1 h2 h3 h4
 unfold Told StepD.val at *
 go_enter Tryz.func37,Tryz.ntmps37
 go_wp2_with (go_at_call 86;refine(HP.o _ aU).mono ?_;rintro r w1 ⟨rfl,hu⟩;obtain⟨hb1,hu1⟩:=x0i hu;have HB1:=mK hb1;have HU1:=mK hu1;clear hu hb1 hu1;apply As.o)
 refine⟨?_⟩
 have HPB:=mK (HU1.o.alloc (.cells #[] 71))
 go_wp2_with (at_builtin;refine Rp.x1i tokR (c:=ct) (Rp.own_empty0 (F:=fun q=>w1.heap.size<=q) tokR (heap_alloc_new w1 _) (Nat.le_refl _)) (Rp.x1q (Rp.x01 HX.o HPB.o) (fun _ _ h=>h)) (Fz:=fun _=>False) (fun _ h=>h.elim) rfl _ _ 22 (.agg #[.int .i64 0,.int .i64 0,.int .i64 0,.int .i64 0]) 32 rfl Tryz.underlying22 x0y rfl (by decide) (by decide) rfl (by rfl) (by simp only[List.length_nil];omega) ?_;intro v4 w4 ho4 hu4 hat4;rw[List.nil_append] at ho4;have HO4:=mK ho4;have HAT:=mK hat4;have HU4:=mK hu4;clear ho4 hu4 hat4;apply As.o)
 refine⟨?_⟩
 have HO1:As (tokR.own 71 w4 (fun q=>w1.heap.size<=q) v4 us):=⟨Rp.x3a (G:=fun q=>w1.heap.size<=q) HO4.o (fun q hq=>by
  rcases hq with hq | hq | hq
  ·exact hq.1
  ·exact hq.elim
  ·rcases HAT.o with hat | ⟨b,hb,hle⟩
   ·rw[hat] at hq
    have e9:w1.heap.size=q:=by simpa[Value.ownBlock] using hq
    omega
   ·rw[hb] at hq
    injection hq with hq
    have hs:=(Upd.alloc1 (fun _=>False) w1 (.cells #[] 71)).size
    omega)⟩
 have HP1:=mK (Upd.trans (Upd.alloc1 (fun _=>False) w1 (.cells #[] 71)) HU4.o (fun q hq h=>by injection h with h;(have e9:w1.heap.size=q:=h);omega))
 clear HO4 HAT HU4
 go_wp2
 go_loopg [13,14] us.length (fun g v i wr=>∃ k:Nat,k+g=us.length/\i=.int .i64 k/\As (tokR.own 71 wr (fun q=>w1.heap.size<=q) v (us ++ List.replicate k shutT))/\As (Pure w1 wr)/\As (∀ x ∈ us.take k,x.k=1))
 case atStart=>exact⟨0,by omega,rfl,⟨by simpa using HO1.o⟩,⟨HP1.o⟩,⟨by simp⟩⟩
 case round=>
  obtain⟨k,hk,rfl,HO,HPR,HAL⟩:=hrel
  have HUR:=mK (HU1.o.tt HPR.o)
  have HBR:=mK (kP HPR.o HB1.o)
  by_cases hlt:k < us.length
  ·obtain⟨g1,rfl⟩:=sC1 (by omega:0 < gk)
   obtain⟨x,hx⟩:=gS hlt
   obtain⟨b,o,rfl,hF,hbl,c0,c1,c2,c3⟩:=x0j (Rp.x01 HX.o (HU1.o.tt HPR.o)) hx
   have hkd:decide ((k:Int) < (us.length:Int))=true:=decide_eq_true (by omega)
   have hkd2:decide (k < us.length)=true:=decide_eq_true hlt
   have HXX:=mK hx
   have HKK:=mK hk
   by_cases hx1:x.k=1
   ·rw[hx1] at c0
    have HXK:=mK hx1
    clear hx hk hx1
    go_wp2_with (at_builtin;apply As.o)
    refine⟨?_⟩
    refine Rp.x0o tokR HO.o shutT shutT.cs rfl (Fp:=fun _=>False) (G:=fun q=>w1.heap.size<=q) (fun _ h=>h.elim) (fun _ h _=>h) (fun q hq=>by have:=HPR.o.size;omega) rfl _ _ 22 _ 32 rfl Tryz.underlying22 x0y rfl (by decide) (by decide) rfl (by simp[Act.eval,Tok.cs,shutT]) (by simp only[List.length_append,List.length_replicate];omega) ?_
    intro v1 w5 ho1 hu1
    have HO5:=mK ho1
    have HP5:=mK (Upd.trans HPR.o hu1 (fun q hq h=>by have:=Rp.x03 HO.o q h;omega))
    clear ho1 hu1
    go_wp2
    go_roundg g1
    case measure=>omega
    case rel=>exact⟨k+1,by have:=HKK.o;omega,by go_num,⟨by rw[List.replicate_succ',<- List.append_assoc];exact HO5.o⟩,⟨HP5.o⟩,⟨fun y hy=>by
     rw[List.take_add_one,HXX.o] at hy
     rcases List.mem_append.1 hy with hy | hy
     ·exact HAL.o y hy
     ·simp at hy;rw[hy];exact HXK.o⟩⟩
   ·obtain⟨rfl,rfl⟩:=H1.o (fun h=>hx1 (h.2 x (List.mem_of_getElem? hx)))
    have e1:(x.k != 1)=true:=by simpa using hx1
    clear hx hk hx1 H1 H2 H3 H4 HT
    have hbl:w.heap.size < wr.heap.size:=lB HBR.o
    have hcf:=fZ HBR.o
    obtain⟨k0,k1,k2,k3,k4,k5,k6,k7⟩:=x06 HBR.o
    go_wp2
    exact bodyPost_ret (step_end (rb:=w.heap.size) rfl _ rfl (set8 (rb:=w.heap.size) HBR.o _ _ _ _ _ _ _ _)) rfl ⟨none,0,⟨rfl,x05 HUR.o (Nat.le_refl _) _ _ _ _ _ _ _ _⟩,.inl rfl⟩
  ·obtain rfl:k=us.length:=by omega
   have hkd:decide ((us.length:Int) < (us.length:Int))=false:=decide_eq_false (by omega)
   have hkd2:decide (us.length < us.length)=false:=decide_eq_false (by omega)
   have hall:∀ x ∈ us,x.k=1:=by have:=HAL.o;rwa [List.take_length] at this
   by_cases hz:us=[]
   ·obtain⟨rfl,rfl⟩:=H1.o (fun h=>h.1 hz)
    have z1:((us.length:Int) == 0)=true:=by rw[hz];rfl
    have z2:(us.length == 0)=true:=by rw[hz];rfl
    clear hz hall hk H1 H2 H3 H4 HT
    have hbl:w.heap.size < wr.heap.size:=lB HBR.o
    have hcf:=fZ HBR.o
    obtain⟨k0,k1,k2,k3,k4,k5,k6,k7⟩:=x06 HBR.o
    go_wp2
    exact bodyPost_ret (step_end (rb:=w.heap.size) rfl _ rfl (set8 (rb:=w.heap.size) HBR.o _ _ _ _ _ _ _ _)) rfl ⟨none,0,⟨rfl,x05 HUR.o (Nat.le_refl _) _ _ _ _ _ _ _ _⟩,.inl rfl⟩
   ·have hg:goodW us:=⟨hz,hall⟩
    have hpos:=List.length_pos_iff.2 hz
    have z1:((us.length:Int) == 0)=false:=by simp;omega
    have z2:(us.length == 0)=false:=by simp;omega
    by_cases hft:f=t
    ·obtain⟨rfl,rfl⟩:=H2.o hg hft
     have y1:(f == t)=true:=by simpa using hft
     clear hz hall hk H1 H2 H3 H4 HT hft
     have hbl:w.heap.size < wr.heap.size:=lB HBR.o
     have hcf:=fZ HBR.o
     obtain⟨k0,k1,k2,k3,k4,k5,k6,k7⟩:=x06 HBR.o
     go_wp2
     exact bodyPost_ret (step_end (rb:=w.heap.size) rfl _ rfl (set8 (rb:=w.heap.size) HBR.o _ _ _ _ _ _ _ _)) rfl ⟨none,0,⟨rfl,x05 HUR.o (Nat.le_refl _) _ _ _ _ _ _ _ _⟩,.inl rfl⟩
    ·have HT9:=mK (HT.o hg hft)
     have HR:=mK (And.intro (fun he=>H3.o he hg hft) H4.o)
     have y1:(f == t)=false:=by simpa using hft
     obtain⟨A1,c1,rfl,hc1,hrow⟩:=Rp.x0c HO.o
     have HSG:=mK (Rp.x09 (G:=fun k=>w.heap.size < k) hrow (fun k hk=>by have h8:=lt_of_block HB1.o;omega))
     have HSL:=mK (And.intro (Rp.x09 (G:=fun _=>True) hrow (fun _ _=>trivial)) hc1)
     have hlen:((us ++ List.replicate us.length shutT).length)=(x1x us).length:=rfl
     rw[hlen]
     clear hz hall hk H1 H2 H3 H4 HT hft hrow hc1 HO hlen hg hpos
     generalize hs8:s'.sl=sl8 at *
     unfold arnd at HT9
     go_wp2_with (go_at_call 87;apply As.o)
     refine⟨?_⟩
     refine(HT9.o wr _ _ HUR.o HSL.o.1 HSL.o.2).mono ?_
     rintro r w9 ⟨rfl,hu⟩
     have HB9:=mK (kP hu HBR.o)
     have HU9:=mK (HUR.o.tt hu)
     have HRR:=mK (show tokR.row w9 (fun k=>w.heap.size < k) (toldB A1 e) sl8 from(x29 (e:=e) HR.o.1 HR.o.2 (Rp.x01 HSG.o hu) HSL.o.2).1)
     clear hu
     subst hs8
     have hbl:w.heap.size < w9.heap.size:=lB HB9.o
     have hcf:=fZ HB9.o
     obtain⟨k0,k1,k2,k3,k4,k5,k6,k7⟩:=x06 HB9.o
     go_wp2
     exact bodyPost_ret (step_end (rb:=w.heap.size) rfl _ rfl (set8 (rb:=w.heap.size) HB9.o _ _ _ _ _ _ _ _)) rfl ⟨_,_,⟨rfl,x05 HU9.o (Nat.le_refl _) _ _ _ _ _ _ _ _⟩,Rp.x09 (Rp.x0f HRR.o (x0b rU _ _ _ _ _ _ _ _) (fun k _ h e=>by omega)) (fun _ _=>trivial)⟩
theorem Wrap_bad {T:Option Addr} {ct n:Nat} {f t e pe:Int} {us:List Tok} (hx:tokR.row w F T us) (hub:us.length<=1048576)
 (hp:∀ W,Pure w W->Calls Tryz.prog 83 #[deskV cb A n c,.int .i64 f,.int .i64 t] W (fun r w'=>r=.returned (.int .i64 pe)/\Pure W w'))
 (hn:(pe ≠ 0/\e=pe)\/(pe=0/\¬ goodW us/\e=1)) :
 Calls Tryz.prog 36 #[.pointer (some ⟨cb,0,none⟩),.slice A n c,.int .i64 f,.int .i64 t,.slice T us.length ct] w (Told (repl 0 0 []) none 0 e w):=by
 have HP:=mK hp
 have HX:=mK hx
 clear hp hx
 unfold Told StepD.val repl at *
 rcases hn with ⟨p0,rfl⟩ | ⟨rfl,hg,rfl⟩
 ·have f0:(e != 0)=true:=by simpa using p0
  clear p0
  go_enter Tryz.func36,Tryz.ntmps36
  go_wp2_with (first | (go_at_call 84;refine(x0x _).mono ?_;rintro r w2 ⟨rfl,hu⟩;have HB2:=mK (kP hu HB1.o);have HU2:=mK (HU1.o.tt hu);clear hu;apply As.o) | (go_at_call 83;refine(HP.o _ (aP.alloc _)).mono ?_;rintro r w1 ⟨rfl,hu⟩;obtain⟨hb1,hb2,hu2⟩:=x0s hu;obtain⟨q0,q1⟩:=cells2 hb2;have HB1:=mK hb1;have HQ1:=mK hb2;have HU1:=mK hu2;clear hu hb1 hb2 hu2))
  refine⟨?_⟩
  have hbl:w.heap.size < w2.heap.size:=lB HB2.o
  have hcf:=fZ HB2.o
  obtain⟨k0,k1,k2,k3,k4,k5,k6,k7⟩:=x06 HB2.o
  go_wp2
  exact bodyPost_ret (step_end (rb:=w.heap.size) rfl _ rfl (set8 (rb:=w.heap.size) HB2.o _ _ _ _ _ _ _ _)) rfl ⟨rfl,x05 HU2.o (Nat.le_refl _) _ _ _ _ _ _ _ _⟩
 ·have HG:=mK hg
  clear hg
  go_enter Tryz.func36,Tryz.ntmps36
  go_wp2_with (first | (at_builtin;refine Rp.x1i tokR (c:=ct) (Rp.x0v tokR 71 w1 (fun q=>w1.heap.size<=q)) (Rp.x1q (Rp.x01 HX.o HU1.o) (fun _ _ h=>h)) (Fz:=fun _=>False) (fun _ h=>h.elim) rfl _ _ 22 _ 32 rfl Tryz.underlying22 x0y rfl (by decide) (by decide) rfl rfl (by simp only[List.length_nil];omega) ?_;intro v1 w2 ho1 hu1 hat;simp only[List.nil_append] at ho1;have HO1:=mK (Rp.x3a (G:=fun q=>w1.heap.size<=q) ho1 (fun q hq=>by rcases hq with hq | hq | hq;exact hq.1;exact hq.elim;rcases hat with hat | ⟨b,hb,hle⟩;(rw[hat] at hq;simp[Value.ownBlock] at hq);(rw[hb] at hq;injection hq with hq;omega)));have HP1:=mK (Upd.trans (Upd.refl (fun _=>False) w1) hu1 (fun k _ h=>by simp[Value.ownBlock] at h));clear ho1 hu1 hat) | (go_at_call 83;refine(HP.o _ (aP.alloc _)).mono ?_;rintro r w1 ⟨rfl,hu⟩;obtain⟨hb1,hb2,hu2⟩:=x0s hu;obtain⟨q0,q1⟩:=cells2 hb2;have HB1:=mK hb1;have HQ1:=mK hb2;have HU1:=mK hu2;clear hu hb1 hb2 hu2))
  go_loopg [14,34] us.length (fun g v i wr=>∃ k:Nat,k+g=us.length/\i=.int .i64 k/\As (tokR.own 71 wr (fun q=>w1.heap.size<=q) v (us ++ List.replicate k shutT))/\As (Pure w1 wr)/\As (∀ x ∈ us.take k,x.k=1))
  case atStart=>exact⟨0,by omega,rfl,⟨by simpa using HO1.o⟩,⟨HP1.o⟩,⟨by simp⟩⟩
  case round=>
   obtain⟨k,hk,rfl,HO,HPR,HAL⟩:=hrel
   have HUR:=mK (HU1.o.tt HPR.o)
   have HBR:=mK (kP HPR.o HB1.o)
   by_cases hlt:k < us.length
   ·obtain⟨g1,rfl⟩:=sC1 (by omega:0 < gk)
    obtain⟨x,hx⟩:=gS hlt
    obtain⟨b,o,rfl,hF,hbl,c0,c1,c2,c3⟩:=x0j (Rp.x01 HX.o (HU1.o.tt HPR.o)) hx
    have HKK:=mK hk
    have HXX:=mK hx
    by_cases hx1:x.k=1
    ·rw[hx1] at c0
     have HXK:=mK hx1
     clear hx hk hx1
     go_wp2_with (first | (at_builtin;refine Rp.x0o tokR HO2.o shutT shutT.cs rfl (Fp:=fun _=>False) (G:=fun q=>w1.heap.size<=q) (fun _ h=>h.elim) (fun _ h _=>h) (fun q hq=>by have:=HP2.o.size;omega) rfl _ _ 22 _ 32 rfl Tryz.underlying22 x0y rfl (by decide) (by decide) rfl (by simp[Act.eval]) (by simp only[List.length_append,List.length_replicate];omega) ?_;intro v1 w4 ho1 hu1;have HO4:=mK ho1;have HP4:=mK (Upd.trans HP2.o hu1 (fun q hq h=>by have:=Rp.x03 HO2.o q h;omega));clear ho1 hu1) | (go_at_call 93;refine(x2q _).mono ?_;rintro r w3 ⟨rfl,hu⟩;have HP2:=mK ((HPR.o.alloc _).tt hu);have HO2:=mK (Rp.x0w (Rp.x1s HO.o _) hu (fun _ _ _ h=>h));clear hu))
     go_roundg g1
     case measure=>omega
     case rel=>exact⟨k+1,by have:=HKK.o;omega,by go_num,⟨by rw[List.replicate_succ',<- List.append_assoc];exact HO4.o⟩,⟨HP4.o⟩,⟨fun y hy=>by
      rw[List.take_add_one,HXX.o] at hy
      rcases List.mem_append.1 hy with hy | hy
      ·exact HAL.o y hy
      ·simp at hy;rw[hy];exact HXK.o⟩⟩
    ·have e1:(x.k != 1)=true:=by simpa using hx1
     have hbx:w.heap.size < wr.heap.size:=lt_of_block HBR.o
     have HBX:=mK ((heap_alloc_old wr (.cells #[.int .i64 x.k,.int .i64 x.t,.int .i64 x.n,.int .i64 x.m] 71) hbx).trans HBR.o)
     have HUX:=mK (HUR.o.alloc (.cells #[.int .i64 x.k,.int .i64 x.t,.int .i64 x.n,.int .i64 x.m] 71))
     clear hx hk hx1 hbx
     go_wp2_with (go_at_call 84;refine(x0x _).mono ?_;rintro r w2 ⟨rfl,hu⟩;have HB2:=mK (kP hu HBX.o);have HU2:=mK (HUX.o.tt hu);clear hu;apply As.o)
     refine⟨?_⟩
     have hbl:w.heap.size < w2.heap.size:=lB HB2.o
     have hcf:=fZ HB2.o
     obtain⟨k0,k1,k2,k3,k4,k5,k6,k7⟩:=x06 HB2.o
     go_wp2
     exact bodyPost_ret (step_end (rb:=w.heap.size) rfl _ rfl (set8 (rb:=w.heap.size) HB2.o _ _ _ _ _ _ _ _)) rfl ⟨rfl,x05 HU2.o (Nat.le_refl _) _ _ _ _ _ _ _ _⟩
   ·obtain rfl:k=us.length:=by omega
    have hz:us=[]:=by
     by_cases hz:us=[]
     ·exact hz
     ·exact absurd ⟨hz,by have:=HAL.o;rwa [List.take_length] at this⟩ HG.o
    have z1:((us.length:Int) == 0)=true:=by rw[hz];rfl
    have z2:(us.length == 0)=true:=by rw[hz];rfl
    clear hz hk
    go_wp2_with (go_at_call 84;refine(x0x _).mono ?_;rintro r w2 ⟨rfl,hu⟩;have HB2:=mK (kP hu HBR.o);have HU2:=mK (HUR.o.tt hu);clear hu;apply As.o)
    refine⟨?_⟩
    have hbl:w.heap.size < w2.heap.size:=lB HB2.o
    have hcf:=fZ HB2.o
    obtain⟨k0,k1,k2,k3,k4,k5,k6,k7⟩:=x06 HB2.o
    go_wp2
    exact bodyPost_ret (step_end (rb:=w.heap.size) rfl _ rfl (set8 (rb:=w.heap.size) HB2.o _ _ _ _ _ _ _ _)) rfl ⟨rfl,x05 HU2.o (Nat.le_refl _) _ _ _ _ _ _ _ _⟩
end Go.Proofs.YtofjodppljnlaaaGreatDoor
