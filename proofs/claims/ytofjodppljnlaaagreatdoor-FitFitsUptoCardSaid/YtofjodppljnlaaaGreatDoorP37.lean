/- My own texts, packed: FitA, Holds6, FitX, Fit13. -/
import Derived.Test.YtofjodppljnlaaaGreatDoorP14
import Derived.Test.YtofjodppljnlaaaGreatDoorP36
import Derived.Test.YtofjodppljnlaaaGreatDoorP23
import Derived.Test.YtofjodppljnlaaaGreatDoorP26
import Derived.Scope
set_option maxRecDepth 100000
set_option maxHeartbeats 4000000
set_option linter.unusedVariables false
set_option linter.unusedSimpArgs false
variable {w w1 W:Go.World} {F G:Nat → Prop} {A B:Option Go.Addr} {cb c:Nat}
namespace Go.Proofs.YtofjodppljnlaaaGreatDoor
open Go.RowKit
def allR (sl:List Tok):Prop:=∀ x ∈ sl,x0p x=true
instance (sl:List Tok):Decidable (allR sl):=by unfold allR;infer_instance
def x21 (l:List Tok) (f t:Int) (sl:List Tok):Int:=if x0e l f t ≠ 0 then x0e l f t else if ¬ allR sl then 1 else if 2048 < sl.length then 2 else 0
theorem fmay_zero {l:List Tok} {f t:Int} {sl:List Tok}:x21 l f t sl=0 ↔ (x0d l).2=0/\0<=f/\f<=t/\t<=l.length/\allR sl/\sl.length<=2048:=by
 unfold x21
 by_cases h0:x0e l f t=0
 ·rw[if_neg (by omega)]
  obtain⟨h1,h2,h3,h4⟩:=x16.1 h0
  by_cases h5:allR sl
  ·rw[if_neg (fun h=>h h5)]
   by_cases h6:2048 < sl.length
   ·rw[if_pos h6]
    exact⟨fun h=>absurd h (by decide),fun h=>by omega⟩
   ·rw[if_neg h6]
    exact⟨fun _=>⟨h1,h2,h3,h4,h5,by omega⟩,fun _=>rfl⟩
  ·rw[if_pos h5]
   exact⟨fun h=>absurd h (by decide),fun h=>absurd h.2.2.2.2.1 h5⟩
 ·rw[if_pos h0]
  exact⟨fun h=>absurd h h0,fun h=>absurd (x16.2 ⟨h.1,h.2.1,h.2.2.1,h.2.2.2.1⟩) h0⟩
/-- What a way fits. -/
def WayR (w:World) (xs:List Tok) (r:Ending) (w':World):Prop:=∃ T ct,r=.returned (.slice T xs.length ct)/\tokR.row w' (fun _=>True) T xs/\xs.length<=ct/\Pure w w'
theorem same_fit {T:Option Addr} {ct:Nat} {sl:List Tok} (hx:tokR.row w G T sl) (hc:sl.length<=ct):Calls Tryz.prog 241 #[.agg #[],.slice T sl.length ct] w (WayR w sl):=by
 have HX:=mK hx
 clear hx
 unfold WayR
 go_enter Tryz.func241,Tryz.ntmps241
 go_wp2
 go_ret
 exact⟨_,_,rfl,Rp.x09 (Rp.x01 HX.o aU) (fun _ _=>trivial),hc,Upd.alloc1 _ _ _⟩
theorem closed_fit {T:Option Addr} {ct:Nat} {sl:List Tok} (hx:tokR.row w G T sl) (hb:sl.length<=1048576 * 2):Calls Tryz.prog 242 #[.agg #[],.slice T sl.length ct] w (WayR w (closed sl)):=by
 have HC:=mK (Closed_calls (c:=ct) (Rp.x01 hx (Upd.alloc1 (fun _=>False) w (.cells #[] 131))) hb)
 clear hx
 unfold WayR
 go_enter Tryz.func242,Tryz.ntmps242
 go_wp2_with (go_at_call 94;refine HC.o.mono ?_;rintro r w1 ⟨v,rfl,ho,hu⟩;obtain⟨A1,c1,rfl,hc1,hrow⟩:=Rp.x0c ho;have HU1:=mK (aU.tt hu);have HR1:=mK hrow;clear ho hu hrow)
 go_ret
 exact⟨_,_,rfl,Rp.x09 HR1.o (fun _ _=>trivial),hc1,HU1.o⟩
theorem nothing_fit {T:Option Addr} {n ct:Nat}:Calls Tryz.prog 246 #[.agg #[],.slice T n ct] w (WayR w []):=by
 unfold WayR
 go_enter Tryz.func246,Tryz.ntmps246
 go_wp2
 go_ret
 exact⟨none,0,rfl,.inl rfl,Nat.le_refl _,Upd.alloc1 _ _ _⟩
theorem plain_fit {T:Option Addr} {ct:Nat} {sl:List Tok} {s:Spec} {held:Bool} (hx:tokR.row w G T sl) (hb:sl.length<=1048576):Calls Tryz.prog 243 #[.agg #[.string s.name,.string s.expr,.bool s.leaf,.int .i64 s.marks,.int .i64 s.least,.int .i64 s.most,.bool s.lines,.bool held],.slice T sl.length ct] w (WayR w (if held then plain sl s else [])):=by
 cases held
 ·have key:Calls Tryz.prog 243 #[.agg #[.string s.name,.string s.expr,.bool s.leaf,.int .i64 s.marks,.int .i64 s.least,.int .i64 s.most,.bool s.lines,.bool false],.slice T sl.length ct] w (fun r w'=>r=.returned (.slice none 0 0)/\Pure w w'):=by
   clear hx
   go_enter Tryz.func243,Tryz.ntmps243
   go_wp2
   go_ret
   exact⟨rfl,Upd.alloc1 _ _ _⟩
  exact key.mono fun r w' ⟨h1,h2⟩=>⟨none,0,h1,.inl rfl,Nat.le_refl _,h2⟩
 ·have HC:=mK (fun W (hu:Pure w W)=>Plain_calls (c:=ct) (s:=s) (Rp.x01 hx hu) hb)
  clear hx
  unfold WayR Spec.val at *
  rw[if_pos rfl]
  go_enter Tryz.func243,Tryz.ntmps243
  go_wp2_with (go_at_call 244;refine(HC.o _ aU).mono ?_;rintro r w1 ⟨v,rfl,ho,hu⟩;obtain⟨A1,c1,rfl,hc1,hrow⟩:=Rp.x0c ho;have HU1:=mK (aU.tt hu);have HR1:=mK hrow;clear ho hu hrow)
  go_ret
  exact⟨_,_,rfl,Rp.x09 HR1.o (fun _ _=>trivial),hc1,HU1.o⟩
theorem fmay_calls {T:Option Addr} {ct:Nat} {l sl:List Tok} {f t:Int} (h:SchR w cb x02 x07) (hr:tokR.row w F A l) (hb:l.length<=1048576 * 4) (hx:tokR.row w G T sl) (hxb:sl.length<=1048576 * 4) :
 Calls Tryz.prog 95 #[.pointer (some ⟨cb,0,none⟩),.slice A l.length c,.int .i64 f,.int .i64 t,.slice T sl.length ct] w (fun r w'=>r=.returned (.int .i64 (x21 l f t sl))/\Pure w w'):=by
 have HC:=mK (x3g (c:=c) h hr hb)
 have HX:=mK hx
 have HE:=mK (show x21 l f t sl=if x0e l f t ≠ 0 then x0e l f t else if ¬ allR sl then 1 else if 2048 < sl.length then 2 else 0 from rfl)
 have HP:=mK (show x0e l f t=if (x0d l).2 ≠ 0 then (x0d l).2 else if f < 0\/t < f\/(l.length:Int) < t then 1 else 0 from rfl)
 have HRT:=mK (fun (x:Tok) (W:World)=>x2a (x:=x) rfl W)
 clear h hr hx
 generalize x21 l f t sl=fe at *
 generalize x0e l f t=pe at *
 generalize (x0d l).2=e at *
 generalize (x0d l).1=e1 at *
 by_cases h0:e=0
 ·subst h0
  rw[if_neg (by omega)] at HP
  by_cases hbd:f < 0\/t < f\/(l.length:Int) < t
  ·rw[if_pos hbd] at HP
   have HF:=mK (show fe=1 by rw[HE.o,HP.o];rfl)
   clear HE HP
   by_cases h1:f < 0
   ·clear hbd
    go_enter Tryz.func95,Tryz.ntmps95
    go_wp2_with (go_at_call 15;refine HC.o.mono ?_;rintro r w1 ⟨rfl,hu⟩;have HU1:=mK hu;clear hu)
    go_ret
    exact⟨(by rw[HF.o];rfl),HU1.o⟩
   ·by_cases h2:t < f
    ·clear hbd
     go_enter Tryz.func95,Tryz.ntmps95
     go_wp2_with (go_at_call 15;refine HC.o.mono ?_;rintro r w1 ⟨rfl,hu⟩;have HU1:=mK hu;clear hu)
     go_ret
     exact⟨(by rw[HF.o];rfl),HU1.o⟩
    ·have h3:(l.length:Int) < t:=by omega
     clear hbd
     go_enter Tryz.func95,Tryz.ntmps95
     go_wp2_with (go_at_call 15;refine HC.o.mono ?_;rintro r w1 ⟨rfl,hu⟩;have HU1:=mK hu;clear hu)
     go_ret
     exact⟨(by rw[HF.o];rfl),HU1.o⟩
  ·rw[if_neg hbd] at HP
   rw[HP.o,if_neg (by decide)] at HE
   have h1:¬ f < 0:=by omega
   have h2:¬ t < f:=by omega
   have h3:¬ (l.length:Int) < t:=by omega
   clear hbd
   go_enter Tryz.func95,Tryz.ntmps95
   go_wp2_with (go_at_call 15;refine HC.o.mono ?_;rintro r w1 ⟨rfl,hu⟩;have HU1:=mK hu;clear hu)
   go_loopg [39] sl.length (fun g i wr=>∃ k:Nat,k+g=sl.length/\i=.int .i64 k/\As (∀ x ∈ sl.take k,x0p x=true)/\As (Pure w wr))
   case atStart=>exact⟨0,by omega,rfl,⟨by simp⟩,HU1⟩
   case round=>
    obtain⟨k,hk,rfl,HK,HW⟩:=hrel
    by_cases hlt:k < sl.length
    ·obtain⟨g1,rfl⟩:=sC1 (by omega:0 < gk)
     obtain⟨x,hx⟩:=gS hlt
     obtain⟨b,o,rfl,hF,hbl,c0,c1,c2,c3⟩:=x0j (Rp.x01 HX.o HW.o) hx
     have HXK:=mK hx
     have HKK:=mK hk
     have HRX:=mK (HRT.o x)
     clear hx hk
     cases hb9:x0p x
     ·rw[hb9] at HRX
      have HNR:=mK (show fe=1 by rw[HE.o,if_pos (fun h=>by have:=h x (List.mem_of_getElem? HXK.o);rw[hb9] at this;cases this)])
      clear hb9
      go_wp2_with (go_at_call 102;refine(HRX.o _).mono ?_;rintro r w2 ⟨rfl,hu⟩;have HU2:=mK ((HW.o.alloc _).tt hu);clear hu)
      go_ret
      exact⟨(by rw[HNR.o];rfl),HU2.o⟩
     ·rw[hb9] at HRX
      have HB9:=mK hb9
      clear hb9
      go_wp2_with (go_at_call 102;refine(HRX.o _).mono ?_;rintro r w2 ⟨rfl,hu⟩;have HU2:=mK ((HW.o.alloc _).tt hu);clear hu)
      go_roundg g1
      case measure=>omega
      case rel=>exact⟨k+1,by have:=HKK.o;omega,by go_num,⟨by rw[List.take_add_one,HXK.o];intro y hy;rcases List.mem_append.1 hy with hy | hy;exact HK.o y hy;simp at hy;rw[hy];exact HB9.o⟩,HU2⟩
    ·obtain rfl:k=sl.length:=by omega
     rw[List.take_length] at HK
     rw[if_neg (fun h=>h HK.o)] at HE
     by_cases hl:2048 < sl.length
     ·have hl':(2048:Int) < (sl.length:Int):=by omega
      rw[if_pos hl] at HE
      go_wp2
      go_ret
      exact⟨(by rw[HE.o];rfl),HW.o⟩
     ·have hl':¬ (2048:Int) < (sl.length:Int):=by omega
      rw[if_neg hl] at HE
      go_wp2
      go_ret
      exact⟨(by rw[HE.o];rfl),HW.o⟩
 ·have f0:(e != 0)=true:=by simpa using h0
  rw[if_pos h0] at HP
  have HF:=mK (show fe=e by rw[HE.o,HP.o,if_pos h0])
  clear h0 HE HP
  go_enter Tryz.func95,Tryz.ntmps95
  go_wp2_with (go_at_call 15;refine HC.o.mono ?_;rintro r w1 ⟨rfl,hu⟩;have HU1:=mK hu;clear hu)
  go_ret
  exact⟨(by rw[HF.o];rfl),HU1.o⟩
def holdE (l:List Tok) (n:Int):Spec × Bool:=if (x0d l).2 ≠ 0\/x04 l n < 0 then (zeroSpec,false) else ((x17 x02 (tyAt l (x04 l n))).getD zeroSpec,(x17 x02 (tyAt l (x04 l n))).isSome)
theorem around_in6 {l:List Tok} {n:Int} (h:¬ x04 l n < 0):∃ (j:Nat) (y:Tok),x04 l n=j/\l[j]?=some y/\y.k=1:=by
 obtain⟨i,y,h1,h2,h3,_⟩:=x20 (l:=l) (p:=n) (by omega)
 exact⟨i,y,h1,h2,h3⟩
theorem Spec_any (h:SchR w cb x02 x07) (t:Int):Calls Tryz.prog 73 #[.pointer (some ⟨cb,0,none⟩),.int .i64 t] w fun r w'=>r=.returned (.tuple #[((x17 x02 t).getD zeroSpec).val,.bool (x17 x02 t).isSome])/\Pure w w':=by
 have hne:x02 ≠ []:=x3y.ne
 have hl:x02.length<=1000:=x3y.len
 by_cases h1:t < 1
 ·rw[spec_low h1];exact Spec_low h hne hl h1
 ·by_cases h2:7 < t
  ·rw[spec_high h2];exact Spec_high h hne hl (by omega) (by rw[x2w];omega)
  ·obtain⟨k,rfl⟩:∃ k:Nat,t=((k+1:Nat):Int):=⟨(t - 1).toNat,by omega⟩
   obtain⟨x,e,_,_,hR⟩:=h6_at k (by omega)
   rw[spec_some hR]
   exact Spec_in h hR (by omega) hl
theorem Holds_not {l:List Tok} {n:Int} (h:SchR w cb x02 x07) (hr:tokR.row w F A l) (hb:l.length<=1048576 * 4) (hlc:l.length<=c) (hno:(x0d l).2 ≠ 0\/x04 l n < 0) :
 Calls Tryz.prog 17 #[.pointer (some ⟨cb,0,none⟩),.slice A l.length c,.int .i64 n] w fun r w'=>r=.returned (.tuple #[zeroSpec.val,.bool false])/\Pure w w':=by
 have HCK:=mK (fun (W:World) (hu:Pure w W)=>x3g (c:=c) (h.pure hu) (Rp.x01 hr hu) (by omega))
 have HAR:=mK (fun (W:World) (hu:Pure w W)=>x2g (c:=c) (at':=n) (Rp.x01 hr hu) (by omega) hlc)
 have HBX:=mK (heap_alloc_new w (.cells #[.string ⟨#[]⟩,.string ⟨#[]⟩,.bool false,.int .i64 0,.int .i64 0,.int .i64 0,.bool false] 34))
 have HNO:=mK hno
 clear h hr hno
 generalize x0d l=ck at *
 generalize x04 l n=ar at *
 obtain⟨f1,f2⟩:=ck
 cases b1:decide (f2=0) <;> cases b2:decide (ar < 0)
 all_goals first
  | (exfalso;have h1:=of_decide_eq_true b1;have h2:=of_decide_eq_false b2;rcases HNO.o with h | h <;> first | exact h h1 | exact h2 h)
  | skip
 all_goals
  have c1:(f2 != 0)=!decide (f2=0):=rfl
  rw[b1] at c1
  simp only[Bool.not_false,Bool.not_true] at c1
  clear HNO b1
  go_enter Tryz.func17,Tryz.ntmps17
  go_wp2_with (first | (go_at_call 15;refine(HCK.o w1 HU1.o).mono ?_;rintro r w2 ⟨rfl,hu⟩;have HU2:=mK (HU1.o.tt hu);have HP2:=mK (HP1.o.tt hu);clear hu;apply As.o) | (go_at_call 72;refine(HAR.o _ aU).mono ?_;rintro r w1 ⟨rfl,hu⟩;have HU1:=mK (Upd.trans aP hu (fun _ _ h=>h));have HP1:=mK hu;clear hu))
  refine⟨?_⟩
  have HBW:=mK ((HP2.o.block w.heap.size (by simp) (fun h=>h)).trans HBX.o)
  obtain⟨⟨k0,k1,k2,k3,k4,k5,k6⟩,⟨j0,j1,j2,j3,j4,j5,j6⟩,hbl⟩:=cells7_6 HBW.o
  go_wp2
  obtain⟨W5,hW5⟩:∃ W5,W5=(((((((w2.setCell ⟨w.heap.size,0,none⟩ (.string ⟨#[]⟩)).setCell ⟨w.heap.size,1,none⟩ (.string ⟨#[]⟩)).setCell ⟨w.heap.size,2,none⟩ (.bool false)).setCell ⟨w.heap.size,3,none⟩ (.int .i64 0)).setCell ⟨w.heap.size,4,none⟩ (.int .i64 0)).setCell ⟨w.heap.size,5,none⟩ (.int .i64 0)).setCell ⟨w.heap.size,6,none⟩ (.bool false)):=⟨_,rfl⟩
  rw[<- hW5]
  have hB5:W5.heap[w.heap.size]?=some (.cells #[(.string ⟨#[]⟩),(.string ⟨#[]⟩),(.bool false),(.int .i64 0),(.int .i64 0),(.int .i64 0),(.bool false)] 34 (0,0)):=hW5 ▸ set7 HBW.o (.string ⟨#[]⟩) (.string ⟨#[]⟩) (.bool false) (.int .i64 0) (.int .i64 0) (.int .i64 0) (.bool false)
  have HU5:=mK (show Pure w W5 from hW5 ▸ Upd.trans (HU2.o) (set7_upd _ _ (.string ⟨#[]⟩) (.string ⟨#[]⟩) (.bool false) (.int .i64 0) (.int .i64 0) (.int .i64 0) (.bool false)) (fun q hq h=>by omega))
  exact bodyPost_ret (results_cell_tmp (P:=Tryz.prog) rfl _ _ w.heap.size 34 _ _ _ rfl hB5 Tryz.underlying34 rfl (by kernel_rfl)) rfl ⟨rfl,HU5.o⟩
theorem Holds_open {l:List Tok} {n:Int} {j:Nat} {y:Tok} (h:SchR w cb x02 x07) (hr:tokR.row w F A l) (hb:l.length<=1048576 * 4) (hlc:l.length<=c) (ok:(x0d l).2=0) (ha:x04 l n=j) (hy:l[j]?=some y) :
 Calls Tryz.prog 17 #[.pointer (some ⟨cb,0,none⟩),.slice A l.length c,.int .i64 n] w fun r w'=>r=.returned (.tuple #[((x17 x02 y.t).getD zeroSpec).val,.bool (x17 x02 y.t).isSome])/\Pure w w':=by
 have HCK:=mK (fun (W:World) (hu:Pure w W)=>x3g (c:=c) (h.pure hu) (Rp.x01 hr hu) (by omega))
 rw[ok] at HCK
 have HAR:=mK (fun (W:World) (hu:Pure w W)=>x2g (c:=c) (at':=n) (Rp.x01 hr hu) (by omega) hlc)
 rw[ha] at HAR
 have HBX:=mK (heap_alloc_new w (.cells #[.string ⟨#[]⟩,.string ⟨#[]⟩,.bool false,.int .i64 0,.int .i64 0,.int .i64 0,.bool false] 34))
 have HSP:=mK (fun (W:World) (hu:Pure w W)=>Spec_any (h.pure hu) y.t)
 obtain⟨bt,ot,rfl,_,hbt,q0,q1,q2,q3⟩:=x0j hr hy
 have hjl:(j:Int) < (l.length:Int):=by have:=(List.getElem?_eq_some_iff.1 hy).1;omega
 have t0:decide ((j:Int) < 0)=false:=decide_eq_false (by omega)
 generalize (x17 x02 y.t).getD zeroSpec=x at *
 generalize (x17 x02 y.t).isSome=xb at *
 generalize (x0d l).1=f1 at *
 clear h hr ok ha hy q0 q2 q3
 go_enter Tryz.func17,Tryz.ntmps17
 go_wp2_with (first | (go_at_call 15;refine(HCK.o w1 HU1.o).mono ?_;rintro r w2 ⟨rfl,hu⟩;have HU2:=mK (HU1.o.tt hu);have HP2:=mK (HP1.o.tt hu);clear hu;apply As.o) | (go_at_call 72;refine(HAR.o _ aU).mono ?_;rintro r w1 ⟨rfl,hu⟩;have HU1:=mK (Upd.trans aP hu (fun _ _ h=>h));have HP1:=mK hu;clear hu))
 refine⟨?_⟩
 have q5:=(HU2.o.cell (o:=ot+j * 4+1) hbt (fun h=>h)).trans q1
 have hbt2:=Nat.lt_of_lt_of_le hbt HU2.o.size
 go_wp2_with (go_at_call 73;refine(HSP.o w2 HU2.o).mono ?_;rintro r w3 ⟨rfl,hp⟩;have HU3:=mK (HU2.o.tt hp);have HP3:=mK (HP2.o.tt hp);clear hp;apply As.o)
 refine⟨?_⟩
 have HBW:=mK ((HP3.o.block w.heap.size (by simp) (fun h=>h)).trans HBX.o)
 obtain⟨⟨k0,k1,k2,k3,k4,k5,k6⟩,⟨j0,j1,j2,j3,j4,j5,j6⟩,hbl⟩:=cells7_6 HBW.o
 go_wp2
 obtain⟨W5,hW5⟩:∃ W5,W5=(((((((w3.setCell ⟨w.heap.size,0,none⟩ (.string x.name)).setCell ⟨w.heap.size,1,none⟩ (.string x.expr)).setCell ⟨w.heap.size,2,none⟩ (.bool x.leaf)).setCell ⟨w.heap.size,3,none⟩ (.int .i64 x.marks)).setCell ⟨w.heap.size,4,none⟩ (.int .i64 x.least)).setCell ⟨w.heap.size,5,none⟩ (.int .i64 x.most)).setCell ⟨w.heap.size,6,none⟩ (.bool x.lines)):=⟨_,rfl⟩
 rw[<- hW5]
 have hB5:W5.heap[w.heap.size]?=some (.cells #[(.string x.name),(.string x.expr),(.bool x.leaf),(.int .i64 x.marks),(.int .i64 x.least),(.int .i64 x.most),(.bool x.lines)] 34 (0,0)):=hW5 ▸ set7 HBW.o (.string x.name) (.string x.expr) (.bool x.leaf) (.int .i64 x.marks) (.int .i64 x.least) (.int .i64 x.most) (.bool x.lines)
 have HU5:=mK (show Pure w W5 from hW5 ▸ Upd.trans (HU3.o) (set7_upd _ _ (.string x.name) (.string x.expr) (.bool x.leaf) (.int .i64 x.marks) (.int .i64 x.least) (.int .i64 x.most) (.bool x.lines)) (fun q hq h=>by omega))
 exact bodyPost_ret (results_cell_tmp (P:=Tryz.prog) rfl _ _ w.heap.size 34 _ _ _ rfl hB5 Tryz.underlying34 rfl (by kernel_rfl)) rfl ⟨rfl,HU5.o⟩
theorem Holds6_no {l:List Tok} {n:Int} (h:H6 w cb) (hr:tokR.row w F A l) (hb:l.length<=1048576 * 4) (hlc:l.length<=c) (hno:(x0d l).2 ≠ 0\/x04 l n < 0) :
 Calls Tryz.prog 18 #[.pointer (some ⟨cb,0,none⟩),.slice A l.length c,.int .i64 n] w fun r w'=>r=.returned (.tuple #[zeroSpec.val,.bool false])/\Pure w w':=by
 have HCK:=mK (fun (W:World) (hu:Pure w W)=>x3v (c:=c) (h.pure hu) (Rp.x01 hr hu) hlc (by omega))
 have HAR:=mK (fun (W:World) (hu:Pure w W)=>x25 (c:=c) (at':=n) (Rp.x01 hr hu) (by omega) hlc)
 have HBX:=mK (heap_alloc_new w (.cells #[.string ⟨#[]⟩,.string ⟨#[]⟩,.bool false,.int .i64 0,.int .i64 0,.int .i64 0,.bool false] 34))
 have HNO:=mK hno
 clear h hr hno
 generalize x0d l=ck at *
 generalize x04 l n=ar at *
 obtain⟨f1,f2⟩:=ck
 cases b1:decide (f2=0) <;> cases b2:decide (ar < 0)
 all_goals first
  | (exfalso;have h1:=of_decide_eq_true b1;have h2:=of_decide_eq_false b2;rcases HNO.o with h | h <;> first | exact h h1 | exact h2 h)
  | skip
 all_goals
  have c1:(f2 != 0)=!decide (f2=0):=rfl
  rw[b1] at c1
  simp only[Bool.not_false,Bool.not_true] at c1
  clear HNO b1
  go_enter Tryz.func18,Tryz.ntmps18
  go_wp2_with (first | (go_at_call 16;refine(HCK.o w1 HU1.o).mono ?_;rintro r w2 ⟨rfl,hu⟩;have HU2:=mK (HU1.o.tt hu);have HP2:=mK (HP1.o.tt hu);clear hu;apply As.o) | (go_at_call 74;refine(HAR.o _ aU).mono ?_;rintro r w1 ⟨rfl,hu⟩;have HU1:=mK (Upd.trans aP hu (fun _ _ h=>h));have HP1:=mK hu;clear hu))
  refine⟨?_⟩
  have HBW:=mK ((HP2.o.block w.heap.size (by simp) (fun h=>h)).trans HBX.o)
  obtain⟨⟨k0,k1,k2,k3,k4,k5,k6⟩,⟨j0,j1,j2,j3,j4,j5,j6⟩,hbl⟩:=cells7_6 HBW.o
  go_wp2
  obtain⟨W5,hW5⟩:∃ W5,W5=(((((((w2.setCell ⟨w.heap.size,0,none⟩ (.string ⟨#[]⟩)).setCell ⟨w.heap.size,1,none⟩ (.string ⟨#[]⟩)).setCell ⟨w.heap.size,2,none⟩ (.bool false)).setCell ⟨w.heap.size,3,none⟩ (.int .i64 0)).setCell ⟨w.heap.size,4,none⟩ (.int .i64 0)).setCell ⟨w.heap.size,5,none⟩ (.int .i64 0)).setCell ⟨w.heap.size,6,none⟩ (.bool false)):=⟨_,rfl⟩
  rw[<- hW5]
  have hB5:W5.heap[w.heap.size]?=some (.cells #[(.string ⟨#[]⟩),(.string ⟨#[]⟩),(.bool false),(.int .i64 0),(.int .i64 0),(.int .i64 0),(.bool false)] 34 (0,0)):=hW5 ▸ set7 HBW.o (.string ⟨#[]⟩) (.string ⟨#[]⟩) (.bool false) (.int .i64 0) (.int .i64 0) (.int .i64 0) (.bool false)
  have HU5:=mK (show Pure w W5 from hW5 ▸ Upd.trans (HU2.o) (set7_upd _ _ (.string ⟨#[]⟩) (.string ⟨#[]⟩) (.bool false) (.int .i64 0) (.int .i64 0) (.int .i64 0) (.bool false)) (fun q hq h=>by omega))
  exact bodyPost_ret (results_cell_tmp (P:=Tryz.prog) rfl _ _ w.heap.size 34 _ _ _ rfl hB5 Tryz.underlying34 rfl (by kernel_rfl)) rfl ⟨rfl,HU5.o⟩
theorem Holds6_open {l:List Tok} {n:Int} {j:Nat} {y:Tok} (h:H6 w cb) (hr:tokR.row w F A l) (hb:l.length<=1048576 * 4) (hlc:l.length<=c) (ok:(x0d l).2=0) (ha:x04 l n=j) (hy:l[j]?=some y) :
 Calls Tryz.prog 18 #[.pointer (some ⟨cb,0,none⟩),.slice A l.length c,.int .i64 n] w fun r w'=>r=.returned (.tuple #[((x17 x02 y.t).getD zeroSpec).val,.bool (x17 x02 y.t).isSome])/\Pure w w':=by
 have HCK:=mK (fun (W:World) (hu:Pure w W)=>x3v (c:=c) (h.pure hu) (Rp.x01 hr hu) hlc (by omega))
 rw[ok] at HCK
 have HAR:=mK (fun (W:World) (hu:Pure w W)=>x25 (c:=c) (at':=n) (Rp.x01 hr hu) (by omega) hlc)
 rw[ha] at HAR
 have HBX:=mK (heap_alloc_new w (.cells #[.string ⟨#[]⟩,.string ⟨#[]⟩,.bool false,.int .i64 0,.int .i64 0,.int .i64 0,.bool false] 34))
 have HSP:=mK (fun (W:World) (hu:Pure w W)=>Spec6_calls (h.pure hu) y.t)
 obtain⟨bt,ot,rfl,_,hbt,q0,q1,q2,q3⟩:=x0j hr hy
 have hjl:(j:Int) < (l.length:Int):=by have:=(List.getElem?_eq_some_iff.1 hy).1;omega
 have t0:decide ((j:Int) < 0)=false:=decide_eq_false (by omega)
 generalize (x17 x02 y.t).getD zeroSpec=x at *
 generalize (x17 x02 y.t).isSome=xb at *
 generalize (x0d l).1=f1 at *
 clear h hr ok ha hy q0 q2 q3
 go_enter Tryz.func18,Tryz.ntmps18
 go_wp2_with (first | (go_at_call 16;refine(HCK.o w1 HU1.o).mono ?_;rintro r w2 ⟨rfl,hu⟩;have HU2:=mK (HU1.o.tt hu);have HP2:=mK (HP1.o.tt hu);clear hu;apply As.o) | (go_at_call 74;refine(HAR.o _ aU).mono ?_;rintro r w1 ⟨rfl,hu⟩;have HU1:=mK (Upd.trans aP hu (fun _ _ h=>h));have HP1:=mK hu;clear hu))
 refine⟨?_⟩
 have q5:=(HU2.o.cell (o:=ot+j * 4+1) hbt (fun h=>h)).trans q1
 have hbt2:=Nat.lt_of_lt_of_le hbt HU2.o.size
 go_wp2_with (go_at_call 75;refine(HSP.o w2 HU2.o).mono ?_;rintro r w3 ⟨rfl,hp⟩;have HU3:=mK (HU2.o.tt hp);have HP3:=mK (HP2.o.tt hp);clear hp;apply As.o)
 refine⟨?_⟩
 have HBW:=mK ((HP3.o.block w.heap.size (by simp) (fun h=>h)).trans HBX.o)
 obtain⟨⟨k0,k1,k2,k3,k4,k5,k6⟩,⟨j0,j1,j2,j3,j4,j5,j6⟩,hbl⟩:=cells7_6 HBW.o
 go_wp2
 obtain⟨W5,hW5⟩:∃ W5,W5=(((((((w3.setCell ⟨w.heap.size,0,none⟩ (.string x.name)).setCell ⟨w.heap.size,1,none⟩ (.string x.expr)).setCell ⟨w.heap.size,2,none⟩ (.bool x.leaf)).setCell ⟨w.heap.size,3,none⟩ (.int .i64 x.marks)).setCell ⟨w.heap.size,4,none⟩ (.int .i64 x.least)).setCell ⟨w.heap.size,5,none⟩ (.int .i64 x.most)).setCell ⟨w.heap.size,6,none⟩ (.bool x.lines)):=⟨_,rfl⟩
 rw[<- hW5]
 have hB5:W5.heap[w.heap.size]?=some (.cells #[(.string x.name),(.string x.expr),(.bool x.leaf),(.int .i64 x.marks),(.int .i64 x.least),(.int .i64 x.most),(.bool x.lines)] 34 (0,0)):=hW5 ▸ set7 HBW.o (.string x.name) (.string x.expr) (.bool x.leaf) (.int .i64 x.marks) (.int .i64 x.least) (.int .i64 x.most) (.bool x.lines)
 have HU5:=mK (show Pure w W5 from hW5 ▸ Upd.trans (HU3.o) (set7_upd _ _ (.string x.name) (.string x.expr) (.bool x.leaf) (.int .i64 x.marks) (.int .i64 x.least) (.int .i64 x.most) (.bool x.lines)) (fun q hq h=>by omega))
 exact bodyPost_ret (results_cell_tmp (P:=Tryz.prog) rfl _ _ w.heap.size 34 _ _ _ rfl hB5 Tryz.underlying34 rfl (by kernel_rfl)) rfl ⟨rfl,HU5.o⟩
theorem Holds_all {l:List Tok} {n:Int} (h:SchR w cb x02 x07) (hr:tokR.row w F A l) (hb:l.length<=1048576 * 4) (hlc:l.length<=c) :
 Calls Tryz.prog 17 #[.pointer (some ⟨cb,0,none⟩),.slice A l.length c,.int .i64 n] w fun r w'=>r=.returned (.tuple #[(holdE l n).1.val,.bool (holdE l n).2])/\Pure w w':=by
 unfold holdE
 by_cases hno:(x0d l).2 ≠ 0\/x04 l n < 0
 ·rw[if_pos hno]
  exact Holds_not h hr hb hlc hno
 ·rw[if_neg hno]
  have ok:(x0d l).2=0:=Classical.not_not.1 (fun e=>hno (.inl e))
  obtain⟨j,y,ha,hy,_⟩:=around_in6 (fun e=>hno (.inr e))
  have e:tyAt l (x04 l n)=y.t:=by unfold tyAt;rw[ha,Int.toNat_natCast,hy];rfl
  rw[e]
  exact Holds_open h hr hb hlc ok ha hy
theorem Holds6_any {l:List Tok} {n:Int} (h:H6 w cb) (hr:tokR.row w F A l) (hb:l.length<=1048576 * 4) (hlc:l.length<=c) :
 Calls Tryz.prog 18 #[.pointer (some ⟨cb,0,none⟩),.slice A l.length c,.int .i64 n] w fun r w'=>r=.returned (.tuple #[(holdE l n).1.val,.bool (holdE l n).2])/\Pure w w':=by
 unfold holdE
 by_cases hno:(x0d l).2 ≠ 0\/x04 l n < 0
 ·rw[if_pos hno]
  exact Holds6_no h hr hb hlc hno
 ·rw[if_neg hno]
  have ok:(x0d l).2=0:=Classical.not_not.1 (fun e=>hno (.inl e))
  obtain⟨j,y,ha,hy,_⟩:=around_in6 (fun e=>hno (.inr e))
  have e:tyAt l (x04 l n)=y.t:=by unfold tyAt;rw[ha,Int.toNat_natCast,hy];rfl
  rw[e]
  exact Holds6_open h hr hb hlc ok ha hy
/-- A step, a number and an error are answered. -/
theorem x2d {fn:Func} {p q r:Tmp} (hres:fn.results=#[.cell p 46,.tmp q,.tmp r]) (tmps:Array Value) {w:World} {rb:Nat} {y0 y1 y2 y3 y4 y5 y6 y7:Value} {t:TypeId} {fr:Nat × Nat} (hp:tmps.getD p undef=.pointer (some ⟨rb,0,none⟩)) (hg:w.heap[rb]?=some (.cells #[y0,y1,y2,y3,y4,y5,y6,y7] t fr)) :
 (results fn tmps).run Tryz.prog w=.ok (.tuple #[.agg #[y0,y1,y2,y3,y4,y5,y6,y7],tmps.getD q undef,tmps.getD r undef]) w:=by
 have hp':tmps[p]?.getD undef=.pointer (some ⟨rb,0,none⟩):=by simpa using hp
 simp[results,hres,hp',asAddr,run_loadVar_row (P:=Tryz.prog) _ rb t 46 _ fr _ hg Tryz.underlying46 rfl (by kernel_rfl)]
theorem cloGo_len2 (l:List Tok):∀ d,(cloGo d l).length<=2 * l.length+d:=by
 induction l with
 | nil=>intro d;simp[cloGo]
 | cons t r ih=>
   intro d
   simp only[cloGo,List.length_cons]
   split
   ·have:=ih (d+1);simp;omega
   ·split
    ·split
     ·have:=ih d;omega
     ·have:=ih (d - 1);simp;omega
    ·have:=ih d;simp;omega
theorem closed_len2 (l:List Tok):(closed l).length<=2 * l.length:=by have:=cloGo_len2 l 0;unfold closed;omega
/-- The ways to fit, one by one. -/
def wayN (l:List Tok) (f:Int) (sl:List Tok):Nat->List Tok
 | 0=>sl
 | 1=>closed sl
 | 2=>if (holdE l f).2=true then plain sl (holdE l f).1 else []
 | _=>[]
/-- What Fit answers. -/
def x2e (l:List Tok) (f t:Int) (sl:List Tok) (s:StepD) (n e:Int):Prop:=
 (x21 l f t sl ≠ 0/\s=repl 0 0 []/\n=0/\e=x21 l f t sl) \/
 (x21 l f t sl=0/\∃ k:Nat,(∀ j,j < k->x08 l (repl f t (wayN l f sl j)) ≠ 0)/\((k=4/\s=repl 0 0 []/\n=0/\e=1)\/(k < 4/\x08 l (repl f t (wayN l f sl k))=0/\s=repl f t (wayN l f sl k)/\n=k+1/\e=0)))
theorem x2e.at' {l:List Tok} {f t:Int} {sl xs:List Tok} {n:Int} (h0:x21 l f t sl=0) (k:Nat) (hk:k < 4) (hall:∀ j,j < k->x08 l (repl f t (wayN l f sl j)) ≠ 0) (hq:wayN l f sl k=xs) (hz:x08 l (repl f t xs)=0) (hn:n=k+1):x2e l f t sl (repl f t xs) n 0:=by
 subst hq
 exact .inr ⟨h0,k,hall,.inr ⟨hk,hz,rfl,hn,rfl⟩⟩
theorem x2e.none' {l:List Tok} {f t:Int} {sl:List Tok} (h0:x21 l f t sl=0) (hall:∀ j,j < 4->x08 l (repl f t (wayN l f sl j)) ≠ 0):x2e l f t sl (repl 0 0 []) 0 1:=
 .inr ⟨h0,4,hall,.inl ⟨rfl,rfl,rfl,rfl⟩⟩
theorem x2k {l:List Tok} {f t:Int} {sl xs:List Tok} (k:Nat) (hall:∀ j,j < k->x08 l (repl f t (wayN l f sl j)) ≠ 0) (hq:wayN l f sl k=xs) (hz:x08 l (repl f t xs) ≠ 0):∀ j,j < k+1->x08 l (repl f t (wayN l f sl j)) ≠ 0:=by
 intro j hj
 by_cases h:j=k
 ·subst h;rw[hq];exact hz
 ·exact hall j (by omega)
theorem x2e.one {l:List Tok} {f t:Int} {sl:List Tok} {s s':StepD} {n n' e e':Int} (h:x2e l f t sl s n e) (h':x2e l f t sl s' n' e'):s=s'/\n=n'/\e=e':=by
 rcases h with ⟨h0,h1,h2,h3⟩ | ⟨h0,k,h1,h2⟩
 ·rcases h' with ⟨g0,g1,g2,g3⟩ | ⟨g0,_⟩
  ·exact⟨h1.trans g1.symm,h2.trans g2.symm,h3.trans g3.symm⟩
  ·exact absurd g0 h0
 ·rcases h' with ⟨g0,_⟩ | ⟨g0,k',g1,g2⟩
  ·exact absurd h0 g0
  ·have e1:k=k':=by
    rcases h2 with ⟨a,_⟩ | ⟨a,b,_⟩ <;> rcases g2 with ⟨a',_⟩ | ⟨a',b',_⟩
    ·omega
    ·exact absurd b' (h1 k' (by omega))
    ·exact absurd b (g1 k (by omega))
    ·rcases Nat.lt_trichotomy k k' with q | q | q
     ·exact absurd b (g1 k q)
     ·exact q
     ·exact absurd b' (h1 k' q)
   subst e1
   rcases h2 with ⟨a,b,c,d⟩ | ⟨a,_,b,c,d⟩ <;> rcases g2 with ⟨a',b',c',d'⟩ | ⟨a',_,b',c',d'⟩
   ·exact⟨b.trans b'.symm,c.trans c'.symm,d.trans d'.symm⟩
   ·omega
   ·omega
   ·exact⟨b.trans b'.symm,c.trans c'.symm,d.trans d'.symm⟩
/-- What fit.Fit answers. -/
def FitX (w:World) (l:List Tok) (f t:Int) (sl:List Tok) (r:Ending) (w':World):Prop:=
 ∃ (s:StepD) (B:Option Addr) (c':Nat) (n e:Int),r=.returned (.tuple #[.agg #[.int .i64 s.k,.int .i64 s.fr,.int .i64 s.tt,.int .i64 s.gf,.int .i64 s.gt,.int .i64 s.ins,.slice B s.sl.length c',.int .i64 s.mark],.int .i64 n,.int .i64 e])/\x2e l f t sl s n e/\Pure w w'/\tokR.row w' (fun k=>w.heap.size<=k) B s.sl/\s.sl.length<=c'/\s.sl.length<=100000
theorem Fit_no {T:Option Addr} {ct n:Nat} {l sl:List Tok} {f t:Int}
 (hm:∀ W,Pure w W->Calls Tryz.prog 95 #[.pointer (some ⟨cb,0,none⟩),.slice A n c,.int .i64 f,.int .i64 t,.slice T sl.length ct] W (fun r w'=>r=.returned (.int .i64 (x21 l f t sl))/\Pure W w')) (he:x21 l f t sl ≠ 0) :
 Calls Tryz.prog 39 #[.pointer (some ⟨cb,0,none⟩),.slice A n c,.int .i64 f,.int .i64 t,.slice T sl.length ct] w (FitX w l f t sl):=by
 have HM:=mK hm
 have HN:=mK he
 have f0:(x21 l f t sl != 0)=true:=by simpa using he
 clear hm he
 have key:Calls Tryz.prog 39 #[.pointer (some ⟨cb,0,none⟩),.slice A n c,.int .i64 f,.int .i64 t,.slice T sl.length ct] w (fun r w'=>r=.returned (.tuple #[step0,.int .i64 0,.int .i64 (x21 l f t sl)])/\Pure w w'):=by
  generalize x21 l f t sl=e at *
  go_enter Tryz.func39,Tryz.ntmps39
  go_wp2
  refine wp_scope_straight ?_
  go_wp2_with (go_at_call 95;refine(HM.o _ aU).mono ?_;rintro r w1 ⟨rfl,hu⟩;obtain⟨hb1,hu1⟩:=x0i hu;have HB1:=mK hb1;have HU1:=mK hu1;clear hu hb1 hu1;apply As.o)
  refine⟨?_⟩
  have hbl:w.heap.size < w1.heap.size:=lB HB1.o
  have hcf:=fZ HB1.o
  obtain⟨k0,k1,k2,k3,k4,k5,k6,k7⟩:=x06 HB1.o
  go_wp2
  unfold Exit.noGoto
  exact bodyPost_ret (x2d (rb:=w.heap.size) rfl _ rfl (set8 (rb:=w.heap.size) HB1.o _ _ _ _ _ _ _ _)) rfl ⟨rfl,x05 HU1.o (Nat.le_refl _) _ _ _ _ _ _ _ _⟩
 exact key.mono fun r w' ⟨h1,h2⟩=>⟨repl 0 0 [],none,0,0,_,h1,.inl ⟨HN.o,rfl,rfl,rfl⟩,h2,.inl rfl,Nat.le_refl _,by simp[repl]⟩
theorem mSame (v : Value) (w : World) : (Go.method 425 130 v "emender/fit.fit").run Tryz.prog w = .ok (241, v) w := by kernel_rfl
theorem mClosed (v : Value) (w : World) : (Go.method 425 131 v "emender/fit.fit").run Tryz.prog w = .ok (242, v) w := by kernel_rfl
theorem mPlain (v : Value) (w : World) : (Go.method 425 133 v "emender/fit.fit").run Tryz.prog w = .ok (243, v) w := by kernel_rfl
theorem mNothing (v : Value) (w : World) : (Go.method 425 134 v "emender/fit.fit").run Tryz.prog w = .ok (246, v) w := by kernel_rfl
theorem Fit_go {T:Option Addr} {ct:Nat} {l sl:List Tok} {f t:Nat} (h:SchR w cb x02 x07) (hr:tokR.row w F A l) (hlc:l.length<=c) (h1:l.length<=200) (hx:tokR.row w G T sl) (hct:sl.length<=ct) (hxb:sl.length<=1000)
 (he:x21 l f t sl=0) :
 Calls Tryz.prog 39 #[.pointer (some ⟨cb,0,none⟩),.slice A l.length c,.int .i64 (f:Nat),.int .i64 (t:Nat),.slice T sl.length ct] w (FitX w l f t sl):=by
 obtain⟨ok,q0,q1,q2,hall,_⟩:=fmay_zero.1 he
 obtain⟨sp,hb,hsp,hhb⟩:∃ sp hb,sp=(holdE l f).1/\hb=(holdE l f).2:=⟨_,_,rfl,rfl⟩
 have hh:=fun (W:World) (hu:Pure w W) (q:Nat) (hs:SchR W q x02 x07)=>(by
  have:=Holds_all (c:=c) (n:=(f:Int)) hs (Rp.x01 hr hu) (by omega) hlc
  rw[<- hsp,<- hhb] at this
  exact this:Calls Tryz.prog 17 #[.pointer (some ⟨q,0,none⟩),.slice A l.length c,.int .i64 (f:Nat)] W fun r w'=>r=.returned (.tuple #[sp.val,.bool hb])/\Pure W w')
 have HM:=mK (fun W (hu:Pure w W)=>(by
  have:=fmay_calls (c:=c) (ct:=ct) (f:=(f:Int)) (t:=(t:Int)) (h.pure hu) (Rp.x01 hr hu) (by omega) (Rp.x01 hx hu) (by omega)
  rw[he] at this
  exact this:Calls Tryz.prog 95 #[.pointer (some ⟨cb,0,none⟩),.slice A l.length c,.int .i64 (f:Nat),.int .i64 (t:Nat),.slice T sl.length ct] W (fun r w'=>r=.returned (.int .i64 0)/\Pure W w')))
 have HH:=mK (fun W (hu:Pure w W)=>hh W hu cb (h.pure hu))
 obtain⟨px,hpx⟩:∃ px,(if hb=true then plain sl sp else [])=px:=⟨_,rfl⟩
 have hpl:px.length<=sl.length:=by
  rw[<- hpx]
  have:=plain_len sl sp
  split
  ·exact this
  ·simp
 have HPF:=mK (fun W (hu:Pure w W)=>(by
  have:=plain_fit (ct:=ct) (s:=sp) (held:=hb) (Rp.x01 hx hu) (by omega)
  rw[hpx] at this
  exact this:Calls Tryz.prog 243 #[.agg #[.string sp.name,.string sp.expr,.bool sp.leaf,.int .i64 sp.marks,.int .i64 sp.least,.int .i64 sp.most,.bool sp.lines,.bool hb],.slice T sl.length ct] W (WayR W px)))
 have HPL:=mK hpl
 have HFM:=mK he
 have HQ0:As (wayN l f sl 0=sl):=⟨rfl⟩
 have HQ1:As (wayN l f sl 1=closed sl):=⟨rfl⟩
 have HQ2:As (wayN l f sl 2=px):=⟨by rw[<- hpx,hsp,hhb];rfl⟩
 have HQ3:As (wayN l f sl 3=[]):=⟨rfl⟩
 clear hpx hpl hsp hhb
 have HX:=mK hx
 have HD:=mK (fun W (hu:Pure w W) B cs (xs:List Tok) (hrow:tokR.row W (fun _=>True) B xs) (hcs:xs.length<=cs) (hxs:xs.length<=100000)=>Do_calls (s:=repl f t xs) (h.pure hu) (fun V hV=>Apply_repl (f:=(f:Int)) (t:=(t:Int)) (x3b ok) (Rp.x01 (Rp.x01 hr hu) hV) hlc (by omega) (Rp.x01 hrow hV) hcs (by omega)))
 clear h hr hx hh
 unfold Spec.val at *
 have m1:=mSame
 have m2:=mClosed
 have m3:=mPlain
 have m4:=mNothing
 go_enter Tryz.func39,Tryz.ntmps39
 go_wp2
 refine wp_scope_straight ?_
 go_wp2_with (first | (go_at_call 17;refine(HH.o w1 HU1.o).mono ?_;rintro r w2 ⟨rfl,hu⟩;have HB2:=mK (kP hu HB1.o);have HU2:=mK (HU1.o.tt hu);clear hu) | (go_at_call 95;refine(HM.o _ aU).mono ?_;rintro r w1 ⟨rfl,hu⟩;obtain⟨hb1,hu1⟩:=x0i hu;have HB1:=mK hb1;have HU1:=mK hu1;clear hu hb1 hu1))
 refine wp_label ?_
 go_wp2
 have HT0:=mK (heap_alloc2_new w2 (.cells #[.string sp.name,.string sp.expr,.bool sp.leaf,.int .i64 sp.marks,.int .i64 sp.least,.int .i64 sp.most,.bool sp.lines] 34) (.cells #[.int .i64 0,.int .i64 0,.int .i64 0,.int .i64 0,.int .i64 0,.int .i64 0,.slice none 0 0,.int .i64 0] 46))
 have HU0:=mK ((HU2.o.alloc (.cells #[.string sp.name,.string sp.expr,.bool sp.leaf,.int .i64 sp.marks,.int .i64 sp.least,.int .i64 sp.most,.bool sp.lines] 34)).alloc (.cells #[.int .i64 0,.int .i64 0,.int .i64 0,.int .i64 0,.int .i64 0,.int .i64 0,.slice none 0 0,.int .i64 0] 46))
 have HR0:=mK ((((Upd.alloc1 (fun _=>False) w2 (.cells #[.string sp.name,.string sp.expr,.bool sp.leaf,.int .i64 sp.marks,.int .i64 sp.least,.int .i64 sp.most,.bool sp.lines] 34)).alloc (.cells #[.int .i64 0,.int .i64 0,.int .i64 0,.int .i64 0,.int .i64 0,.int .i64 0,.slice none 0 0,.int .i64 0] 46)).block w.heap.size (lt_of_block HB2.o) (fun h=>h)).trans HB2.o)
 have HL0:=mK (show w.heap.size < w2.heap.size+1 by have:=lt_of_block HB2.o;omega)
 generalize ((w2.alloc (.cells #[.string sp.name,.string sp.expr,.bool sp.leaf,.int .i64 sp.marks,.int .i64 sp.least,.int .i64 sp.most,.bool sp.lines] 34)).alloc (.cells #[.int .i64 0,.int .i64 0,.int .i64 0,.int .i64 0,.int .i64 0,.int .i64 0,.slice none 0 0,.int .i64 0] 46))=v0 at *
 generalize w2.heap.size+1=tb at *
 clear ok he hall q0 q1 q2
 go_loopg [17,51] 4 (fun g nv i wr=>∃ k:Nat,k+g=4/\nv=.int .i64 0/\i=.int .i64 (k:Nat)/\As (Pure v0 wr)/\As (∀ j,j < k->x08 l (repl f t (wayN l f sl j)) ≠ 0))
 case atStart=>exact⟨0,by omega,rfl,rfl,⟨Upd.refl _ _⟩,⟨fun j h=>absurd h (Nat.not_lt_zero j)⟩⟩
 case round=>
  obtain⟨k,hk,rfl,rfl,HW,HK⟩:=hrel
  have HTW:=mK (kP HW.o HT0.o)
  have HRW:=mK (kP HW.o HR0.o)
  have HUW:=mK (HU0.o.tt HW.o)
  rcases(by omega:k=0\/k=1\/k=2\/k=3\/k=4) with rfl | rfl | rfl | rfl | rfl
  ·have HLN:=mK (show (sl:List Tok).length<=100000 by omega)
   by_cases hez:x08 l (repl f t (sl))=0
   ·have HEZ:=mK hez
    clear hez
    go_wp2
    change(_:Act->World->Prop) (Act.put _ _ (.iface 130 (.agg #[]))) _
    go_wp2_with (first | (go_at_call 96;refine(HD.o (w4.alloc _) ((HU0.o.tt HP4.o).alloc _) A4 c4 (sl) (Rp.x09 (Rp.x01 HR4.o aU) (fun _ _=>trivial)) HC4.o HLN.o).mono ?_;rintro r w5 hd;obtain⟨⟨B5,rfl,_⟩,hu⟩:=DocR.zero (HEZ.o ▸ hd);obtain⟨hs5,hu5⟩:=x0i hu;have HP5:=mK (HP4.o.tt hu5);have HR5:=mK (Rp.x01 HR4.o hu5);have HS5:=mK hs5;obtain⟨s0,s1,s2,s3,s4,s5,s6,s7⟩:=x06 hs5;clear hd hu hu5 hs5;apply As.o) | (at_builtin;refine Rp.x1i tokR (c:=c3) (Rp.x0v tokR 71 w3 (fun _=>False)) (Rp.x1q HR3.o (fun _ _ h=>h)) (Fz:=fun _=>False) (fun _ h=>h.elim) rfl _ _ 22 _ 32 rfl Tryz.underlying22 x0y rfl (by decide) (by decide) rfl rfl (by have:=HLN.o;simp only[List.length_nil];omega) ?_;intro v1 w4 ho1 hu1 hat;obtain⟨A4,c4,rfl,hc4,hrow4⟩:=Rp.x0c ho1;simp only[List.nil_append] at hc4 hrow4 hat;have HP4:=mK (Upd.trans HP3.o hu1 (fun k _ h=>by simp[Value.ownBlock] at h));have HR4:=mK (Rp.x09 (G:=fun k=>tb < k) hrow4 (fun k hk=>by rcases hk with hk | hk | hk;exact hk.1.elim;exact hk.elim;rcases hat with hat | ⟨b,hb,hle⟩;(rw[hat] at hk;simp[Value.ownBlock] at hk);(rw[hb] at hk;cases hk;have h7:=HP3.o.size;have h8:=lt_of_block HT0.o;omega)));have HC4:=mK hc4;clear ho1 hu1 hat hc4 hrow4) | (go_at_call 241;refine(same_fit (ct:=ct) (Rp.x01 HX.o HUW.o) hct).mono ?_;rintro r w3 ⟨T3,c3,rfl,hrow,hc3,hu⟩;have HP3:=mK (HW.o.tt hu);have HR3:=mK hrow;clear hu hrow))
    refine⟨?_⟩
    have HT5:=mK (kP HP5.o HT0.o)
    have HB5:=mK (kP HP5.o HR0.o)
    have hbl:w.heap.size < w5.heap.size:=lt_of_block HB5.o
    have hcf:=fZ HB5.o
    have hbt:tb < w5.heap.size:=lt_of_block HT5.o
    have hct5:=fZ HT5.o
    have hne:w.heap.size ≠ tb:=by have:=HL0.o;omega
    obtain⟨k0,k1,k2,k3,k4,k5,k6,k7⟩:=x06 HB5.o
    obtain⟨t0,t1,t2,t3,t4,t5,t6,t7⟩:=x06 HT5.o
    have HU5:=mK (HU0.o.tt HP5.o)
    go_wp2
    unfold Exit.noGoto
    exact bodyPost_ret (x2d (rb:=w.heap.size) rfl _ rfl (set8 (rb:=w.heap.size) (((x0b (Upd.refl (fun k=>k=tb) w5) _ _ _ _ _ _ _ _).block w.heap.size (lt_of_block HB5.o) (fun h=>hne h)).trans HB5.o) _ _ _ _ _ _ _ _)) rfl ⟨repl f t (sl),A4,c4,1,0,rfl,x2e.at' HFM.o 0 (by decide) HK.o HQ0.o HEZ.o rfl,x05 (x05 (rb:=tb) HU5.o (Nat.le_of_lt HL0.o) _ _ _ _ _ _ _ _) (Nat.le_refl _) _ _ _ _ _ _ _ _,Rp.x09 (Rp.x0f (Rp.x0f HR5.o (x0b (rb:=tb) rU _ _ _ _ _ _ _ _) (fun k _ h e=>by omega)) (x0b (rb:=w.heap.size) rU _ _ _ _ _ _ _ _) (fun k _ h e=>by have:=HL0.o;omega)) (fun k h=>by have:=HL0.o;omega),HC4.o,HLN.o⟩
   ·have HEZ:=mK hez
    have e0:(x08 l (repl f t (sl)) == 0)=false:=by simpa using hez
    obtain rfl:gk=4:=by omega
    clear hez
    go_wp2
    change(_:Act->World->Prop) (Act.put _ _ (.iface 130 (.agg #[]))) _
    go_wp2_with (first | (go_at_call 96;refine(HD.o (w4.alloc _) ((HU0.o.tt HP4.o).alloc _) A4 c4 (sl) (Rp.x09 (Rp.x01 HR4.o aU) (fun _ _=>trivial)) HC4.o HLN.o).mono ?_;rintro r w5 hd;obtain⟨rfl,hu⟩:=DocR.ne hd HEZ.o;obtain⟨hs5,hu5⟩:=x0i hu;have HP5:=mK (HP4.o.tt hu5);have HR5:=mK (Rp.x01 HR4.o hu5);have HS5:=mK hs5;obtain⟨s0,s1,s2,s3,s4,s5,s6,s7⟩:=x06 hs5;clear hd hu hu5 hs5;apply As.o) | (at_builtin;refine Rp.x1i tokR (c:=c3) (Rp.x0v tokR 71 w3 (fun _=>False)) (Rp.x1q HR3.o (fun _ _ h=>h)) (Fz:=fun _=>False) (fun _ h=>h.elim) rfl _ _ 22 _ 32 rfl Tryz.underlying22 x0y rfl (by decide) (by decide) rfl rfl (by have:=HLN.o;simp only[List.length_nil];omega) ?_;intro v1 w4 ho1 hu1 hat;obtain⟨A4,c4,rfl,hc4,hrow4⟩:=Rp.x0c ho1;simp only[List.nil_append] at hc4 hrow4 hat;have HP4:=mK (Upd.trans HP3.o hu1 (fun k _ h=>by simp[Value.ownBlock] at h));have HR4:=mK (Rp.x09 (G:=fun k=>tb < k) hrow4 (fun k hk=>by rcases hk with hk | hk | hk;exact hk.1.elim;exact hk.elim;rcases hat with hat | ⟨b,hb,hle⟩;(rw[hat] at hk;simp[Value.ownBlock] at hk);(rw[hb] at hk;cases hk;have h7:=HP3.o.size;have h8:=lt_of_block HT0.o;omega)));have HC4:=mK hc4;clear ho1 hu1 hat hc4 hrow4) | (go_at_call 241;refine(same_fit (ct:=ct) (Rp.x01 HX.o HUW.o) hct).mono ?_;rintro r w3 ⟨T3,c3,rfl,hrow,hc3,hu⟩;have HP3:=mK (HW.o.tt hu);have HR3:=mK hrow;clear hu hrow))
    refine⟨?_⟩
    go_wp2
    go_roundg 3
    case measure=>omega
    case rel=>exact⟨1,by omega,rfl,by first | rfl | go_num,HP5,⟨x2k 0 HK.o HQ0.o HEZ.o⟩⟩
  ·have HLN:=mK (show (closed sl:List Tok).length<=100000 by (have:=closed_len2 sl;omega))
   by_cases hez:x08 l (repl f t (closed sl))=0
   ·have HEZ:=mK hez
    clear hez
    go_wp2
    change(_:Act->World->Prop) (Act.put _ _ (.iface 131 (.agg #[]))) _
    go_wp2_with (first | (go_at_call 96;refine(HD.o (w4.alloc _) ((HU0.o.tt HP4.o).alloc _) A4 c4 (closed sl) (Rp.x09 (Rp.x01 HR4.o aU) (fun _ _=>trivial)) HC4.o HLN.o).mono ?_;rintro r w5 hd;obtain⟨⟨B5,rfl,_⟩,hu⟩:=DocR.zero (HEZ.o ▸ hd);obtain⟨hs5,hu5⟩:=x0i hu;have HP5:=mK (HP4.o.tt hu5);have HR5:=mK (Rp.x01 HR4.o hu5);have HS5:=mK hs5;obtain⟨s0,s1,s2,s3,s4,s5,s6,s7⟩:=x06 hs5;clear hd hu hu5 hs5;apply As.o) | (at_builtin;refine Rp.x1i tokR (c:=c3) (Rp.x0v tokR 71 w3 (fun _=>False)) (Rp.x1q HR3.o (fun _ _ h=>h)) (Fz:=fun _=>False) (fun _ h=>h.elim) rfl _ _ 22 _ 32 rfl Tryz.underlying22 x0y rfl (by decide) (by decide) rfl rfl (by have:=HLN.o;simp only[List.length_nil];omega) ?_;intro v1 w4 ho1 hu1 hat;obtain⟨A4,c4,rfl,hc4,hrow4⟩:=Rp.x0c ho1;simp only[List.nil_append] at hc4 hrow4 hat;have HP4:=mK (Upd.trans HP3.o hu1 (fun k _ h=>by simp[Value.ownBlock] at h));have HR4:=mK (Rp.x09 (G:=fun k=>tb < k) hrow4 (fun k hk=>by rcases hk with hk | hk | hk;exact hk.1.elim;exact hk.elim;rcases hat with hat | ⟨b,hb,hle⟩;(rw[hat] at hk;simp[Value.ownBlock] at hk);(rw[hb] at hk;cases hk;have h7:=HP3.o.size;have h8:=lt_of_block HT0.o;omega)));have HC4:=mK hc4;clear ho1 hu1 hat hc4 hrow4) | (go_at_call 242;refine(closed_fit (ct:=ct) (Rp.x01 HX.o HUW.o) (by omega)).mono ?_;rintro r w3 ⟨T3,c3,rfl,hrow,hc3,hu⟩;have HP3:=mK (HW.o.tt hu);have HR3:=mK hrow;clear hu hrow))
    refine⟨?_⟩
    have HT5:=mK (kP HP5.o HT0.o)
    have HB5:=mK (kP HP5.o HR0.o)
    have hbl:w.heap.size < w5.heap.size:=lt_of_block HB5.o
    have hcf:=fZ HB5.o
    have hbt:tb < w5.heap.size:=lt_of_block HT5.o
    have hct5:=fZ HT5.o
    have hne:w.heap.size ≠ tb:=by have:=HL0.o;omega
    obtain⟨k0,k1,k2,k3,k4,k5,k6,k7⟩:=x06 HB5.o
    obtain⟨t0,t1,t2,t3,t4,t5,t6,t7⟩:=x06 HT5.o
    have HU5:=mK (HU0.o.tt HP5.o)
    go_wp2
    unfold Exit.noGoto
    exact bodyPost_ret (x2d (rb:=w.heap.size) rfl _ rfl (set8 (rb:=w.heap.size) (((x0b (Upd.refl (fun k=>k=tb) w5) _ _ _ _ _ _ _ _).block w.heap.size (lt_of_block HB5.o) (fun h=>hne h)).trans HB5.o) _ _ _ _ _ _ _ _)) rfl ⟨repl f t (closed sl),A4,c4,2,0,rfl,x2e.at' HFM.o 1 (by decide) HK.o HQ1.o HEZ.o rfl,x05 (x05 (rb:=tb) HU5.o (Nat.le_of_lt HL0.o) _ _ _ _ _ _ _ _) (Nat.le_refl _) _ _ _ _ _ _ _ _,Rp.x09 (Rp.x0f (Rp.x0f HR5.o (x0b (rb:=tb) rU _ _ _ _ _ _ _ _) (fun k _ h e=>by omega)) (x0b (rb:=w.heap.size) rU _ _ _ _ _ _ _ _) (fun k _ h e=>by have:=HL0.o;omega)) (fun k h=>by have:=HL0.o;omega),HC4.o,HLN.o⟩
   ·have HEZ:=mK hez
    have e0:(x08 l (repl f t (closed sl)) == 0)=false:=by simpa using hez
    obtain rfl:gk=3:=by omega
    clear hez
    go_wp2
    change(_:Act->World->Prop) (Act.put _ _ (.iface 131 (.agg #[]))) _
    go_wp2_with (first | (go_at_call 96;refine(HD.o (w4.alloc _) ((HU0.o.tt HP4.o).alloc _) A4 c4 (closed sl) (Rp.x09 (Rp.x01 HR4.o aU) (fun _ _=>trivial)) HC4.o HLN.o).mono ?_;rintro r w5 hd;obtain⟨rfl,hu⟩:=DocR.ne hd HEZ.o;obtain⟨hs5,hu5⟩:=x0i hu;have HP5:=mK (HP4.o.tt hu5);have HR5:=mK (Rp.x01 HR4.o hu5);have HS5:=mK hs5;obtain⟨s0,s1,s2,s3,s4,s5,s6,s7⟩:=x06 hs5;clear hd hu hu5 hs5;apply As.o) | (at_builtin;refine Rp.x1i tokR (c:=c3) (Rp.x0v tokR 71 w3 (fun _=>False)) (Rp.x1q HR3.o (fun _ _ h=>h)) (Fz:=fun _=>False) (fun _ h=>h.elim) rfl _ _ 22 _ 32 rfl Tryz.underlying22 x0y rfl (by decide) (by decide) rfl rfl (by have:=HLN.o;simp only[List.length_nil];omega) ?_;intro v1 w4 ho1 hu1 hat;obtain⟨A4,c4,rfl,hc4,hrow4⟩:=Rp.x0c ho1;simp only[List.nil_append] at hc4 hrow4 hat;have HP4:=mK (Upd.trans HP3.o hu1 (fun k _ h=>by simp[Value.ownBlock] at h));have HR4:=mK (Rp.x09 (G:=fun k=>tb < k) hrow4 (fun k hk=>by rcases hk with hk | hk | hk;exact hk.1.elim;exact hk.elim;rcases hat with hat | ⟨b,hb,hle⟩;(rw[hat] at hk;simp[Value.ownBlock] at hk);(rw[hb] at hk;cases hk;have h7:=HP3.o.size;have h8:=lt_of_block HT0.o;omega)));have HC4:=mK hc4;clear ho1 hu1 hat hc4 hrow4) | (go_at_call 242;refine(closed_fit (ct:=ct) (Rp.x01 HX.o HUW.o) (by omega)).mono ?_;rintro r w3 ⟨T3,c3,rfl,hrow,hc3,hu⟩;have HP3:=mK (HW.o.tt hu);have HR3:=mK hrow;clear hu hrow))
    refine⟨?_⟩
    go_wp2
    go_roundg 2
    case measure=>omega
    case rel=>exact⟨2,by omega,rfl,by first | rfl | go_num,HP5,⟨x2k 1 HK.o HQ1.o HEZ.o⟩⟩
  ·have HLN:=mK (show (px:List Tok).length<=100000 by (have:=HPL.o;omega))
   by_cases hez:x08 l (repl f t (px))=0
   ·have HEZ:=mK hez
    clear hez
    go_wp2
    change(_:Act->World->Prop) (Act.put _ _ (.iface 133 (.agg #[.string sp.name,.string sp.expr,.bool sp.leaf,.int .i64 sp.marks,.int .i64 sp.least,.int .i64 sp.most,.bool sp.lines,.bool hb]))) _
    go_wp2_with (first | (go_at_call 96;refine(HD.o (w4.alloc _) ((HU0.o.tt HP4.o).alloc _) A4 c4 (px) (Rp.x09 (Rp.x01 HR4.o aU) (fun _ _=>trivial)) HC4.o HLN.o).mono ?_;rintro r w5 hd;obtain⟨⟨B5,rfl,_⟩,hu⟩:=DocR.zero (HEZ.o ▸ hd);obtain⟨hs5,hu5⟩:=x0i hu;have HP5:=mK (HP4.o.tt hu5);have HR5:=mK (Rp.x01 HR4.o hu5);have HS5:=mK hs5;obtain⟨s0,s1,s2,s3,s4,s5,s6,s7⟩:=x06 hs5;clear hd hu hu5 hs5;apply As.o) | (at_builtin;refine Rp.x1i tokR (c:=c3) (Rp.x0v tokR 71 w3 (fun _=>False)) (Rp.x1q HR3.o (fun _ _ h=>h)) (Fz:=fun _=>False) (fun _ h=>h.elim) rfl _ _ 22 _ 32 rfl Tryz.underlying22 x0y rfl (by decide) (by decide) rfl rfl (by have:=HLN.o;simp only[List.length_nil];omega) ?_;intro v1 w4 ho1 hu1 hat;obtain⟨A4,c4,rfl,hc4,hrow4⟩:=Rp.x0c ho1;simp only[List.nil_append] at hc4 hrow4 hat;have HP4:=mK (Upd.trans HP3.o hu1 (fun k _ h=>by simp[Value.ownBlock] at h));have HR4:=mK (Rp.x09 (G:=fun k=>tb < k) hrow4 (fun k hk=>by rcases hk with hk | hk | hk;exact hk.1.elim;exact hk.elim;rcases hat with hat | ⟨b,hb,hle⟩;(rw[hat] at hk;simp[Value.ownBlock] at hk);(rw[hb] at hk;cases hk;have h7:=HP3.o.size;have h8:=lt_of_block HT0.o;omega)));have HC4:=mK hc4;clear ho1 hu1 hat hc4 hrow4) | (go_at_call 243;refine(HPF.o _ HUW.o).mono ?_;rintro r w3 ⟨T3,c3,rfl,hrow,hc3,hu⟩;have HP3:=mK (HW.o.tt hu);have HR3:=mK hrow;clear hu hrow))
    refine⟨?_⟩
    have HT5:=mK (kP HP5.o HT0.o)
    have HB5:=mK (kP HP5.o HR0.o)
    have hbl:w.heap.size < w5.heap.size:=lt_of_block HB5.o
    have hcf:=fZ HB5.o
    have hbt:tb < w5.heap.size:=lt_of_block HT5.o
    have hct5:=fZ HT5.o
    have hne:w.heap.size ≠ tb:=by have:=HL0.o;omega
    obtain⟨k0,k1,k2,k3,k4,k5,k6,k7⟩:=x06 HB5.o
    obtain⟨t0,t1,t2,t3,t4,t5,t6,t7⟩:=x06 HT5.o
    have HU5:=mK (HU0.o.tt HP5.o)
    go_wp2
    unfold Exit.noGoto
    exact bodyPost_ret (x2d (rb:=w.heap.size) rfl _ rfl (set8 (rb:=w.heap.size) (((x0b (Upd.refl (fun k=>k=tb) w5) _ _ _ _ _ _ _ _).block w.heap.size (lt_of_block HB5.o) (fun h=>hne h)).trans HB5.o) _ _ _ _ _ _ _ _)) rfl ⟨repl f t (px),A4,c4,3,0,rfl,x2e.at' HFM.o 2 (by decide) HK.o HQ2.o HEZ.o rfl,x05 (x05 (rb:=tb) HU5.o (Nat.le_of_lt HL0.o) _ _ _ _ _ _ _ _) (Nat.le_refl _) _ _ _ _ _ _ _ _,Rp.x09 (Rp.x0f (Rp.x0f HR5.o (x0b (rb:=tb) rU _ _ _ _ _ _ _ _) (fun k _ h e=>by omega)) (x0b (rb:=w.heap.size) rU _ _ _ _ _ _ _ _) (fun k _ h e=>by have:=HL0.o;omega)) (fun k h=>by have:=HL0.o;omega),HC4.o,HLN.o⟩
   ·have HEZ:=mK hez
    have e0:(x08 l (repl f t (px)) == 0)=false:=by simpa using hez
    obtain rfl:gk=2:=by omega
    clear hez
    go_wp2
    change(_:Act->World->Prop) (Act.put _ _ (.iface 133 (.agg #[.string sp.name,.string sp.expr,.bool sp.leaf,.int .i64 sp.marks,.int .i64 sp.least,.int .i64 sp.most,.bool sp.lines,.bool hb]))) _
    go_wp2_with (first | (go_at_call 96;refine(HD.o (w4.alloc _) ((HU0.o.tt HP4.o).alloc _) A4 c4 (px) (Rp.x09 (Rp.x01 HR4.o aU) (fun _ _=>trivial)) HC4.o HLN.o).mono ?_;rintro r w5 hd;obtain⟨rfl,hu⟩:=DocR.ne hd HEZ.o;obtain⟨hs5,hu5⟩:=x0i hu;have HP5:=mK (HP4.o.tt hu5);have HR5:=mK (Rp.x01 HR4.o hu5);have HS5:=mK hs5;obtain⟨s0,s1,s2,s3,s4,s5,s6,s7⟩:=x06 hs5;clear hd hu hu5 hs5;apply As.o) | (at_builtin;refine Rp.x1i tokR (c:=c3) (Rp.x0v tokR 71 w3 (fun _=>False)) (Rp.x1q HR3.o (fun _ _ h=>h)) (Fz:=fun _=>False) (fun _ h=>h.elim) rfl _ _ 22 _ 32 rfl Tryz.underlying22 x0y rfl (by decide) (by decide) rfl rfl (by have:=HLN.o;simp only[List.length_nil];omega) ?_;intro v1 w4 ho1 hu1 hat;obtain⟨A4,c4,rfl,hc4,hrow4⟩:=Rp.x0c ho1;simp only[List.nil_append] at hc4 hrow4 hat;have HP4:=mK (Upd.trans HP3.o hu1 (fun k _ h=>by simp[Value.ownBlock] at h));have HR4:=mK (Rp.x09 (G:=fun k=>tb < k) hrow4 (fun k hk=>by rcases hk with hk | hk | hk;exact hk.1.elim;exact hk.elim;rcases hat with hat | ⟨b,hb,hle⟩;(rw[hat] at hk;simp[Value.ownBlock] at hk);(rw[hb] at hk;cases hk;have h7:=HP3.o.size;have h8:=lt_of_block HT0.o;omega)));have HC4:=mK hc4;clear ho1 hu1 hat hc4 hrow4) | (go_at_call 243;refine(HPF.o _ HUW.o).mono ?_;rintro r w3 ⟨T3,c3,rfl,hrow,hc3,hu⟩;have HP3:=mK (HW.o.tt hu);have HR3:=mK hrow;clear hu hrow))
    refine⟨?_⟩
    go_wp2
    go_roundg 1
    case measure=>omega
    case rel=>exact⟨3,by omega,rfl,by first | rfl | go_num,HP5,⟨x2k 2 HK.o HQ2.o HEZ.o⟩⟩
  ·have HLN:=mK (show ([]:List Tok).length<=100000 by simp)
   by_cases hez:x08 l (repl f t ([]))=0
   ·have HEZ:=mK hez
    clear hez
    go_wp2
    change(_:Act->World->Prop) (Act.put _ _ (.iface 134 (.agg #[]))) _
    go_wp2_with (first | (go_at_call 96;refine(HD.o (w4.alloc _) ((HU0.o.tt HP4.o).alloc _) A4 c4 ([]) (Rp.x09 (Rp.x01 HR4.o aU) (fun _ _=>trivial)) HC4.o HLN.o).mono ?_;rintro r w5 hd;obtain⟨⟨B5,rfl,_⟩,hu⟩:=DocR.zero (HEZ.o ▸ hd);obtain⟨hs5,hu5⟩:=x0i hu;have HP5:=mK (HP4.o.tt hu5);have HR5:=mK (Rp.x01 HR4.o hu5);have HS5:=mK hs5;obtain⟨s0,s1,s2,s3,s4,s5,s6,s7⟩:=x06 hs5;clear hd hu hu5 hs5;apply As.o) | (at_builtin;refine Rp.x1i tokR (c:=c3) (Rp.x0v tokR 71 w3 (fun _=>False)) (Rp.x1q HR3.o (fun _ _ h=>h)) (Fz:=fun _=>False) (fun _ h=>h.elim) rfl _ _ 22 _ 32 rfl Tryz.underlying22 x0y rfl (by decide) (by decide) rfl rfl (by have:=HLN.o;simp only[List.length_nil];omega) ?_;intro v1 w4 ho1 hu1 hat;obtain⟨A4,c4,rfl,hc4,hrow4⟩:=Rp.x0c ho1;simp only[List.nil_append] at hc4 hrow4 hat;have HP4:=mK (Upd.trans HP3.o hu1 (fun k _ h=>by simp[Value.ownBlock] at h));have HR4:=mK (Rp.x09 (G:=fun k=>tb < k) hrow4 (fun k hk=>by rcases hk with hk | hk | hk;exact hk.1.elim;exact hk.elim;rcases hat with hat | ⟨b,hb,hle⟩;(rw[hat] at hk;simp[Value.ownBlock] at hk);(rw[hb] at hk;cases hk;have h7:=HP3.o.size;have h8:=lt_of_block HT0.o;omega)));have HC4:=mK hc4;clear ho1 hu1 hat hc4 hrow4) | (go_at_call 246;refine(nothing_fit).mono ?_;rintro r w3 ⟨T3,c3,rfl,hrow,hc3,hu⟩;have HP3:=mK (HW.o.tt hu);have HR3:=mK hrow;clear hu hrow))
    refine⟨?_⟩
    have HT5:=mK (kP HP5.o HT0.o)
    have HB5:=mK (kP HP5.o HR0.o)
    have hbl:w.heap.size < w5.heap.size:=lt_of_block HB5.o
    have hcf:=fZ HB5.o
    have hbt:tb < w5.heap.size:=lt_of_block HT5.o
    have hct5:=fZ HT5.o
    have hne:w.heap.size ≠ tb:=by have:=HL0.o;omega
    obtain⟨k0,k1,k2,k3,k4,k5,k6,k7⟩:=x06 HB5.o
    obtain⟨t0,t1,t2,t3,t4,t5,t6,t7⟩:=x06 HT5.o
    have HU5:=mK (HU0.o.tt HP5.o)
    go_wp2
    unfold Exit.noGoto
    exact bodyPost_ret (x2d (rb:=w.heap.size) rfl _ rfl (set8 (rb:=w.heap.size) (((x0b (Upd.refl (fun k=>k=tb) w5) _ _ _ _ _ _ _ _).block w.heap.size (lt_of_block HB5.o) (fun h=>hne h)).trans HB5.o) _ _ _ _ _ _ _ _)) rfl ⟨repl f t ([]),A4,c4,4,0,rfl,x2e.at' HFM.o 3 (by decide) HK.o HQ3.o HEZ.o rfl,x05 (x05 (rb:=tb) HU5.o (Nat.le_of_lt HL0.o) _ _ _ _ _ _ _ _) (Nat.le_refl _) _ _ _ _ _ _ _ _,Rp.x09 (Rp.x0f (Rp.x0f HR5.o (x0b (rb:=tb) rU _ _ _ _ _ _ _ _) (fun k _ h e=>by omega)) (x0b (rb:=w.heap.size) rU _ _ _ _ _ _ _ _) (fun k _ h e=>by have:=HL0.o;omega)) (fun k h=>by have:=HL0.o;omega),HC4.o,HLN.o⟩
   ·have HEZ:=mK hez
    have e0:(x08 l (repl f t ([])) == 0)=false:=by simpa using hez
    obtain rfl:gk=1:=by omega
    clear hez
    go_wp2
    change(_:Act->World->Prop) (Act.put _ _ (.iface 134 (.agg #[]))) _
    go_wp2_with (first | (go_at_call 96;refine(HD.o (w4.alloc _) ((HU0.o.tt HP4.o).alloc _) A4 c4 ([]) (Rp.x09 (Rp.x01 HR4.o aU) (fun _ _=>trivial)) HC4.o HLN.o).mono ?_;rintro r w5 hd;obtain⟨rfl,hu⟩:=DocR.ne hd HEZ.o;obtain⟨hs5,hu5⟩:=x0i hu;have HP5:=mK (HP4.o.tt hu5);have HR5:=mK (Rp.x01 HR4.o hu5);have HS5:=mK hs5;obtain⟨s0,s1,s2,s3,s4,s5,s6,s7⟩:=x06 hs5;clear hd hu hu5 hs5;apply As.o) | (at_builtin;refine Rp.x1i tokR (c:=c3) (Rp.x0v tokR 71 w3 (fun _=>False)) (Rp.x1q HR3.o (fun _ _ h=>h)) (Fz:=fun _=>False) (fun _ h=>h.elim) rfl _ _ 22 _ 32 rfl Tryz.underlying22 x0y rfl (by decide) (by decide) rfl rfl (by have:=HLN.o;simp only[List.length_nil];omega) ?_;intro v1 w4 ho1 hu1 hat;obtain⟨A4,c4,rfl,hc4,hrow4⟩:=Rp.x0c ho1;simp only[List.nil_append] at hc4 hrow4 hat;have HP4:=mK (Upd.trans HP3.o hu1 (fun k _ h=>by simp[Value.ownBlock] at h));have HR4:=mK (Rp.x09 (G:=fun k=>tb < k) hrow4 (fun k hk=>by rcases hk with hk | hk | hk;exact hk.1.elim;exact hk.elim;rcases hat with hat | ⟨b,hb,hle⟩;(rw[hat] at hk;simp[Value.ownBlock] at hk);(rw[hb] at hk;cases hk;have h7:=HP3.o.size;have h8:=lt_of_block HT0.o;omega)));have HC4:=mK hc4;clear ho1 hu1 hat hc4 hrow4) | (go_at_call 246;refine(nothing_fit).mono ?_;rintro r w3 ⟨T3,c3,rfl,hrow,hc3,hu⟩;have HP3:=mK (HW.o.tt hu);have HR3:=mK hrow;clear hu hrow))
    refine⟨?_⟩
    go_wp2
    go_roundg 0
    case measure=>omega
    case rel=>exact⟨4,by omega,rfl,by first | rfl | go_num,HP5,⟨x2k 3 HK.o HQ3.o HEZ.o⟩⟩
  ·have hbl:w.heap.size < wr.heap.size:=lt_of_block HRW.o
   have hcf:=fZ HRW.o
   obtain⟨k0,k1,k2,k3,k4,k5,k6,k7⟩:=x06 HRW.o
   go_wp2
   unfold Exit.noGoto
   exact bodyPost_ret (x2d (rb:=w.heap.size) rfl _ rfl (set8 (rb:=w.heap.size) HRW.o _ _ _ _ _ _ _ _)) rfl ⟨repl 0 0 [],none,0,0,1,rfl,x2e.none' HFM.o HK.o,x05 HUW.o (Nat.le_refl _) _ _ _ _ _ _ _ _,.inl rfl,Nat.le_refl _,by simp[repl]⟩
theorem Fit_all {T:Option Addr} {ct:Nat} {l sl:List Tok} {f t:Int} (h:SchR w cb x02 x07) (hr:tokR.row w F A l) (hlc:l.length<=c) (h1:l.length<=200) (hx:tokR.row w G T sl) (hct:sl.length<=ct) (hxb:sl.length<=1000) :
 Calls Tryz.prog 39 #[.pointer (some ⟨cb,0,none⟩),.slice A l.length c,.int .i64 f,.int .i64 t,.slice T sl.length ct] w (FitX w l f t sl):=by
 by_cases he:x21 l f t sl=0
 ·obtain⟨_,h0,h2,_⟩:=fmay_zero.1 he
  obtain⟨a,rfl⟩:∃ a:Nat,f=a:=⟨f.toNat,by omega⟩
  obtain⟨b,rfl⟩:∃ b:Nat,t=b:=⟨t.toNat,by omega⟩
  exact Fit_go h hr hlc h1 hx hct hxb he
 ·exact Fit_no (fun W hu=>fmay_calls (h.pure hu) (Rp.x01 hr hu) (by omega) (Rp.x01 hx hu) (by omega)) he
/-- What emenderref13.Fit answers. -/
def FitY (w:World) (l:List Tok) (f t:Int) (sl:List Tok) (r:Ending) (w':World):Prop:=
 ∃ (s:StepD) (B:Option Addr) (c':Nat) (n e:Int),r=.returned (.tuple #[.agg #[.int .i64 s.k,.int .i64 s.fr,.int .i64 s.tt,.int .i64 s.gf,.int .i64 s.gt,.int .i64 s.ins,.slice B s.sl.length c',.int .i64 s.mark],.int .i64 n,.int .i64 e])/\x2e l f t sl s n e/\Pure w w'/\tokR.row w' (fun _=>True) B s.sl/\s.sl.length<=100000
end Go.Proofs.YtofjodppljnlaaaGreatDoor
