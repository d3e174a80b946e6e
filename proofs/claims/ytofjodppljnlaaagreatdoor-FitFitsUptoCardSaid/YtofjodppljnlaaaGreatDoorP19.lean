/- My own texts, packed: StepC, Remap, EdAw. -/
import Derived.Test.YtofjodppljnlaaaGreatDoorP18
import Derived.LaidEql
import Derived.Stop.Asserts
set_option maxRecDepth 100000
set_option maxHeartbeats 4000000
set_option linter.unusedVariables false
set_option linter.unusedSimpArgs false
variable {w w1 W:Go.World} {F G:Nat → Prop} {A B:Option Go.Addr} {cb c:Nat}
namespace Go.Proofs.YtofjodppljnlaaaGreatDoor
open Go.RowKit
theorem sc_replace {fr tt gf gt ins mk:Int} {sl:List Tok} (hr:tokR.row w F A sl) (hb:sl.length<=2048) :
 Calls Tryz.prog 115 #[(StepD.mk 0 fr tt gf gt ins sl mk).val A c] w fun r w'=>r=.returned (.int .i64 (if (StepD.mk 0 fr tt gf gt ins sl mk).ok then 0 else 1))/\Pure w w':=by
 have HR:=mK hr
 have hL1:(((listL mk 3).length:Int) == 1)=decide (x10 mk):=by
  rw[Bool.eq_iff_iff,beq_iff_eq,decide_eq_true_eq,<- list_one]
  omega
 have HBB:=mK (show (∀ (B:Prop),(B ↔ ((0<=fr/\fr<=tt/\tt<=2048)/\mk=0/\gf=0/\gt=0/\ins=0))->((StepD.mk 0 fr tt gf gt ins sl mk).ok ↔ okTo B sl sl.length)) from fun B hB=>by
  rw[okTo_all,hB]
  unfold StepD.ok StepD.kindOk
  constructor
  ·rintro ⟨h1,h2,h3,h4,h5⟩
   refine⟨?_,h5⟩
   dsimp only at h1 h2 h3 h4
   rcases h4 with h4 | h4 | h4
   ·exact absurd h4.1 (by decide)
   ·exact⟨⟨h1,h2,h3⟩,h4.2⟩
   ·exact absurd h4.1 (by decide)
  ·rintro ⟨h1,h5⟩
   exact⟨h1.1.1,h1.1.2.1,h1.1.2.2,.inr (.inl ⟨rfl,h1.2⟩),h5⟩)
 obtain⟨B,hB⟩:∃ B:Prop,B ↔ ((0<=fr/\fr<=tt/\tt<=2048)/\mk=0/\gf=0/\gt=0/\ins=0):=⟨_,Iff.rfl⟩
 have HOK:=mK (HBB.o B hB)
 clear hr HBB
 obtain⟨V,hV⟩:∃ V:Int,V=(if (StepD.mk 0 fr tt gf gt ins sl mk).ok then 0 else 1):=⟨_,rfl⟩
 rw[<- hV]
 have HV0:=mK (show okTo B sl sl.length->V=0 from fun h=>by rw[hV,if_pos (HOK.o.2 h)])
 have HV1:=mK (show ¬ okTo B sl sl.length->V=1 from fun h=>by rw[hV,if_neg (fun h2=>h (HOK.o.1 h2))])
 clear hV HOK
 unfold StepD.val
 try simp only
 skip
 all_goals cases hmo:decide (x10 mk)
 all_goals
  rw[hmo] at hL1
  have HMO:=mK hmo
  have HBI:=mK hB
  clear hmo hB
  go_enter Tryz.func115,Tryz.ntmps115
  go_wp2_with (go_at_call 152;refine(x5o _ _).mono ?_;rintro e w1 ⟨⟨A1,c1,rfl⟩,hu⟩;have HU1:=mK hu;obtain⟨oc,of⟩:=hu.olds;have hz1:=hu.size;clear hu)
  all_goals
   go_loopg [4,123] sl.length (fun gg v4 iv wr=>∃ (j:Nat) (bb:Bool),j+gg=sl.length/\iv=.int .i64 j/\v4=.bool bb/\As ((bb=true ↔ okTo B sl j)/\Pure w wr))
   case atStart=>exact⟨0,_,by omega,rfl,rfl,⟨by
    rw[okTo_zero,HBI.o]
    have h9:=HMO.o
    simp only[decide_eq_true_eq,decide_eq_false_iff_not] at h9
    have hlen:0<=(sl.length:Int):=by omega
    simp only[Bool.false_eq_true,true_iff,false_iff,iff_true,iff_false,h9,true_and,and_true,false_and,and_false,not_false_eq_true,decide_eq_true_eq,beq_iff_eq]
    try omega,(by repeat (first | exact Upd.refl _ _ | exact HU1.o | (refine Upd.alloc ?_ _) | (refine Upd.setCell ?_ (by intro h;simp at h;try omega) _) | (refine Upd.drew ?_) | (refine Upd.drewN ?_ _) | (refine Upd.trans ?_ HU1.o (fun _ _ h=>h))))⟩⟩
   case round=>
    obtain⟨j,bb,hj,rfl,rfl,HC⟩:=hrel
    by_cases hlt:j < sl.length
    ·obtain⟨x,hx⟩:=gS hlt
     obtain⟨b,o,rfl,hF,hbl,d0,d1,d2,d3⟩:=x0j (Rp.x01 HR.o HC.o.2) hx
     obtain⟨g1,rfl⟩:=sC1 (by omega:0 < gk)
     have HS:=mK (okTo_succ (B:=B) hx)
     clear hx
     cases hrx:x0p x <;> cases bb
     all_goals
      have HRX:=mK hrx
      clear hrx
      go_wp2_with (go_at_call 102;refine(x2a HRX.o _).mono ?_;rintro e w2 ⟨rfl,hu2⟩;have HU2:=mK hu2;clear hu2)
      go_roundg g1
      case measure=>omega
      case rel=>exact⟨j+1,_,by omega,by go_num,rfl,⟨by rw[HS.o,<- HC.o.1,HRX.o];simp,by first | exact HC.o.2.alloc _ | exact(HC.o.2.alloc _).tt HU2.o⟩⟩
    ·obtain rfl:j=sl.length:=by omega
     have HP:=mK HC.o.2
     cases bb
     ·have e:=HV1.o (fun h=>by have:=HC.o.1.2 h;cases this)
      subst e
      clear HC
      go_wp2
      go_ret
      exact⟨rfl,HP.o⟩
     ·have e:=HV0.o (HC.o.1.1 rfl)
      subst e
      clear HC
      go_wp2
      go_ret
      exact⟨rfl,HP.o⟩
theorem sc_mark_nil {F:Nat->Prop} {k fr tt gf gt ins mk:Int}  (hk:k=2\/k=3) :
 Calls Tryz.prog 115 #[(StepD.mk k fr tt gf gt ins [] mk).val A c] w fun r w'=>r=.returned (.int .i64 (if (StepD.mk k fr tt gf gt ins [] mk).ok then 0 else 1))/\Pure w w':=by
 have hL1:(((listL mk 3).length:Int) == 1)=decide (x10 mk):=by
  rw[Bool.eq_iff_iff,beq_iff_eq,decide_eq_true_eq,<- list_one]
  omega
 have HBB:=mK (show (∀ (B:Prop),(B ↔ ((0<=fr/\fr<=tt/\tt<=2048)/\fr < tt/\x10 mk/\gf=0/\gt=0/\ins=0))->((StepD.mk k fr tt gf gt ins [] mk).ok ↔ okTo B [] ([]:List Tok).length)) from fun B hB=>by
  rw[okTo_all,hB]
  unfold StepD.ok StepD.kindOk
  constructor
  ·rintro ⟨h1,h2,h3,h4,h5⟩
   refine⟨?_,h5⟩
   dsimp only at h1 h2 h3 h4
   rcases h4 with h4 | h4 | h4
   ·exact absurd h4.1 (by omega)
   ·exact absurd h4.1 (by omega)
   ·exact⟨⟨h1,h2,h3⟩,h4.2.1,h4.2.2.1,h4.2.2.2.2⟩
  ·rintro ⟨h1,h5⟩
   exact⟨h1.1.1,h1.1.2.1,h1.1.2.2,.inr (.inr ⟨hk,h1.2.1,h1.2.2.1,rfl,h1.2.2.2⟩),h5⟩)
 obtain⟨B,hB⟩:∃ B:Prop,B ↔ ((0<=fr/\fr<=tt/\tt<=2048)/\fr < tt/\x10 mk/\gf=0/\gt=0/\ins=0):=⟨_,Iff.rfl⟩
 have HOK:=mK (HBB.o B hB)
 clear HBB
 obtain⟨V,hV⟩:∃ V:Int,V=(if (StepD.mk k fr tt gf gt ins [] mk).ok then 0 else 1):=⟨_,rfl⟩
 rw[<- hV]
 have HV0:=mK (show okTo B [] ([]:List Tok).length->V=0 from fun h=>by rw[hV,if_pos (HOK.o.2 h)])
 have HV1:=mK (show ¬ okTo B [] ([]:List Tok).length->V=1 from fun h=>by rw[hV,if_neg (fun h2=>h (HOK.o.1 h2))])
 clear hV HOK
 unfold StepD.val
 try simp only
 have f1:(k == 1)=false:=by rcases hk with rfl | rfl <;> rfl
 have f0:(k == 0)=false:=by rcases hk with rfl | rfl <;> rfl
 have f23:(k == 2)=true\/((k == 2)=false/\(k == 3)=true):=by rcases hk with rfl | rfl <;> simp
 skip
 clear hk
 rcases f23 with f2 | ⟨f2,f3⟩
 all_goals skip
 all_goals cases hmo:decide (x10 mk)
 all_goals
  rw[hmo] at hL1
  have HMO:=mK hmo
  have HBI:=mK hB
  clear hmo hB
  go_enter Tryz.func115,Tryz.ntmps115
  go_wp2_with (go_at_call 152;refine(x5o _ _).mono ?_;rintro e w1 ⟨⟨A1,c1,rfl⟩,hu⟩;have HU1:=mK hu;obtain⟨oc,of⟩:=hu.olds;have hz1:=hu.size;clear hu)
  all_goals
   go_loopg [4,123] ([]:List Tok).length (fun gg v4 iv wr=>∃ (j:Nat) (bb:Bool),j+gg=([]:List Tok).length/\iv=.int .i64 j/\v4=.bool bb/\As ((bb=true ↔ okTo B [] j)/\Pure w wr))
   case atStart=>exact⟨0,_,by simp,rfl,rfl,⟨by
    rw[okTo_zero,HBI.o]
    have h9:=HMO.o
    simp only[decide_eq_true_eq,decide_eq_false_iff_not] at h9
    skip
    simp only[Bool.false_eq_true,true_iff,false_iff,iff_true,iff_false,h9,true_and,and_true,false_and,and_false,not_false_eq_true,decide_eq_true_eq,beq_iff_eq]
    try omega,(by repeat (first | exact Upd.refl _ _ | exact HU1.o | (refine Upd.alloc ?_ _) | (refine Upd.setCell ?_ (by intro h;simp at h;try omega) _) | (refine Upd.drew ?_) | (refine Upd.drewN ?_ _) | (refine Upd.trans ?_ HU1.o (fun _ _ h=>h))))⟩⟩
   case round=>
    obtain⟨j,bb,hj,rfl,rfl,HC⟩:=hrel
    obtain rfl:j=0:=by simp at hj;omega
    have HP:=mK HC.o.2
    cases bb
    ·have e:=HV1.o (fun h=>by have:=HC.o.1.2 h;cases this)
     subst e
     clear HC
     go_wp2
     go_ret
     exact⟨rfl,HP.o⟩
    ·have e:=HV0.o (HC.o.1.1 rfl)
     subst e
     clear HC
     go_wp2
     go_ret
     exact⟨rfl,HP.o⟩
theorem sc_mark_ne {k fr tt gf gt ins mk:Int} {sl:List Tok} (hr:tokR.row w F A sl) (hb:sl.length<=2048) (hk:k=2\/k=3) (hs:sl.length ≠ 0) :
 Calls Tryz.prog 115 #[(StepD.mk k fr tt gf gt ins sl mk).val A c] w fun r w'=>r=.returned (.int .i64 (if (StepD.mk k fr tt gf gt ins sl mk).ok then 0 else 1))/\Pure w w':=by
 have HR:=mK hr
 have hL1:(((listL mk 3).length:Int) == 1)=decide (x10 mk):=by
  rw[Bool.eq_iff_iff,beq_iff_eq,decide_eq_true_eq,<- list_one]
  omega
 have HBB:=mK (show (∀ (B:Prop),(B ↔ False)->((StepD.mk k fr tt gf gt ins sl mk).ok ↔ okTo B sl sl.length)) from fun B hB=>by
  rw[okTo_all,hB]
  unfold StepD.ok StepD.kindOk
  constructor
  ·rintro ⟨h1,h2,h3,h4,h5⟩
   refine⟨?_,h5⟩
   dsimp only at h1 h2 h3 h4
   rcases h4 with h4 | h4 | h4
   ·exact absurd h4.1 (by omega)
   ·exact absurd h4.1 (by omega)
   ·exact hs (by rw[h4.2.2.2.1];rfl)
  ·rintro ⟨h1,h5⟩
   exact h1.elim)
 obtain⟨B,hB⟩:∃ B:Prop,B ↔ False:=⟨_,Iff.rfl⟩
 have HOK:=mK (HBB.o B hB)
 clear hr HBB
 obtain⟨V,hV⟩:∃ V:Int,V=(if (StepD.mk k fr tt gf gt ins sl mk).ok then 0 else 1):=⟨_,rfl⟩
 rw[<- hV]
 have HV0:=mK (show okTo B sl sl.length->V=0 from fun h=>by rw[hV,if_pos (HOK.o.2 h)])
 have HV1:=mK (show ¬ okTo B sl sl.length->V=1 from fun h=>by rw[hV,if_neg (fun h2=>h (HOK.o.1 h2))])
 clear hV HOK
 unfold StepD.val
 try simp only
 have f1:(k == 1)=false:=by rcases hk with rfl | rfl <;> rfl
 have f0:(k == 0)=false:=by rcases hk with rfl | rfl <;> rfl
 have f23:(k == 2)=true\/((k == 2)=false/\(k == 3)=true):=by rcases hk with rfl | rfl <;> simp
 have e9:((sl.length:Int) == 0)=false:=by rw[beq_eq_false_iff_ne];omega
 clear hk
 rcases f23 with f2 | ⟨f2,f3⟩
 all_goals skip
 all_goals cases hmo:decide (x10 mk)
 all_goals
  rw[hmo] at hL1
  have HMO:=mK hmo
  have HBI:=mK hB
  clear hmo hB
  go_enter Tryz.func115,Tryz.ntmps115
  go_wp2_with (go_at_call 152;refine(x5o _ _).mono ?_;rintro e w1 ⟨⟨A1,c1,rfl⟩,hu⟩;have HU1:=mK hu;obtain⟨oc,of⟩:=hu.olds;have hz1:=hu.size;clear hu)
  all_goals
   go_loopg [4,123] sl.length (fun gg v4 iv wr=>∃ (j:Nat) (bb:Bool),j+gg=sl.length/\iv=.int .i64 j/\v4=.bool bb/\As ((bb=true ↔ okTo B sl j)/\Pure w wr))
   case atStart=>exact⟨0,_,by omega,rfl,rfl,⟨by
    rw[okTo_zero,HBI.o]
    have h9:=HMO.o
    simp only[decide_eq_true_eq,decide_eq_false_iff_not] at h9
    have hlen:0<=(sl.length:Int):=by omega
    simp only[Bool.false_eq_true,true_iff,false_iff,iff_true,iff_false,h9,true_and,and_true,false_and,and_false,not_false_eq_true,decide_eq_true_eq,beq_iff_eq]
    try omega,(by repeat (first | exact Upd.refl _ _ | exact HU1.o | (refine Upd.alloc ?_ _) | (refine Upd.setCell ?_ (by intro h;simp at h;try omega) _) | (refine Upd.drew ?_) | (refine Upd.drewN ?_ _) | (refine Upd.trans ?_ HU1.o (fun _ _ h=>h))))⟩⟩
   case round=>
    obtain⟨j,bb,hj,rfl,rfl,HC⟩:=hrel
    by_cases hlt:j < sl.length
    ·obtain⟨x,hx⟩:=gS hlt
     obtain⟨b,o,rfl,hF,hbl,d0,d1,d2,d3⟩:=x0j (Rp.x01 HR.o HC.o.2) hx
     obtain⟨g1,rfl⟩:=sC1 (by omega:0 < gk)
     have HS:=mK (okTo_succ (B:=B) hx)
     clear hx
     cases hrx:x0p x <;> cases bb
     all_goals
      have HRX:=mK hrx
      clear hrx
      go_wp2_with (go_at_call 102;refine(x2a HRX.o _).mono ?_;rintro e w2 ⟨rfl,hu2⟩;have HU2:=mK hu2;clear hu2)
      go_roundg g1
      case measure=>omega
      case rel=>exact⟨j+1,_,by omega,by go_num,rfl,⟨by rw[HS.o,<- HC.o.1,HRX.o];simp,by first | exact HC.o.2.alloc _ | exact(HC.o.2.alloc _).tt HU2.o⟩⟩
    ·obtain rfl:j=sl.length:=by omega
     have HP:=mK HC.o.2
     cases bb
     ·have e:=HV1.o (fun h=>by have:=HC.o.1.2 h;cases this)
      subst e
      clear HC
      go_wp2
      go_ret
      exact⟨rfl,HP.o⟩
     ·have e:=HV0.o (HC.o.1.1 rfl)
      subst e
      clear HC
      go_wp2
      go_ret
      exact⟨rfl,HP.o⟩
end Go.Proofs.YtofjodppljnlaaaGreatDoor
namespace Go.Proofs.YtofjodppljnlaaaGreatDoor
open Go Go.RowKit Go.Extern.Stop Go.Stop Go.Extern
theorem errno_info:(Tryz.prog.info? 28).map (·.comparable)=some true:=by kernel_rfl
theorem in_errnos (d:Nat) (w:World) (a b:Int):(Op.equalIn (d+2) 187 (.iface 28 (.int .i64 a)) (.iface 28 (.int .i64 b))).run Tryz.prog w=.ok (a == b) w:=by
 obtain⟨i,hi,hc⟩:=Option.map_eq_some_iff.1 errno_info
 simp[Op.equalIn,run_underlying Tryz.underlying187,run_underlying Tryz.underlying28,typeInfo,hi,hc]
/-- Two interface values of one integer type are the same just if their numbers are. -/
theorem eql_errnos (w:World) (a b:Int):(binOp .eql 187 (.iface 28 (.int .i64 a)) (.iface 28 (.int .i64 b))).run Tryz.prog w=.ok (.bool (a == b)) w:=by
 simp only[binOp]
 simp[Op.equal,Op.maxDepth,in_errnos 9998 w a b]
theorem isTypeOf (v:Value) (w:World):(Extern.ReflectliteType.typeOf #[.iface 28 v]).run Tryz.prog w=.ok (.iface 278 (.agg #[typeHandle Tryz.prog 28])) w:=by kernel_rfl
theorem isComparable (w : World) : ((Extern.ReflectliteType.method fun t => do Rtype.noPackHeld "Comparable" t; (fun a => Value.bool a.comparable) <$> typeInfo t) #[.agg #[typeHandle Tryz.prog 28]]).run Tryz.prog w = .ok (.bool true) w := by kernel_rfl
theorem isMethodComparable (v : Value) (w : World) : (Go.method 425 278 v "Comparable").run Tryz.prog w = .ok (256, v) w := by kernel_rfl
theorem noIsE (v:Value) (xT:TypeId) (w:World):(Instr.typeAssert (.iface 28 v) xT 291 true).run Tryz.prog w=.ok (.tuple #[.nilIface,.bool false]) w:=run_typeAssert_lacksB Tryz.underlying291 (by kernel_rfl) (by kernel_rfl) v xT w
theorem noUnwrapE (v:Value) (xT:TypeId) (w:World):(Instr.typeAssert (.iface 28 v) xT 285 true).run Tryz.prog w=.ok (.tuple #[.nilIface,.bool false]) w:=run_typeAssert_lacksB Tryz.underlying285 (by kernel_rfl) (by kernel_rfl) v xT w
theorem noUnwrapsE (v:Value) (xT:TypeId) (w:World):(Instr.typeAssert (.iface 28 v) xT 286 true).run Tryz.prog w=.ok (.tuple #[.nilIface,.bool false]) w:=run_typeAssert_lacksB Tryz.underlying286 (by kernel_rfl) (by kernel_rfl) v xT w
theorem noIsR (v:Value) (xT:TypeId) (w:World):(Instr.typeAssert (.iface 237 v) xT 291 true).run Tryz.prog w=.ok (.tuple #[.nilIface,.bool false]) w:=run_typeAssert_lacksB Tryz.underlying291 (by kernel_rfl) (by kernel_rfl) v xT w
theorem hasUnwrapR (v:Value) (xT:TypeId) (w:World):(Instr.typeAssert (.iface 237 v) xT 285 true).run Tryz.prog w=.ok (.tuple #[.iface 237 v,.bool true]) w:=run_typeAssert_hasB Tryz.underlying285 (by kernel_rfl) v xT w
theorem methodUnwrapR (v : Value) (w : World) : (Go.method 425 237 v "Unwrap").run Tryz.prog w = .ok (250, v) w := by kernel_rfl
theorem unwrap_calls (why:Int) (w:World):Calls Tryz.prog 250 #[.agg #[.int .i64 why]] w fun r w'=>r=.returned (.iface 28 (.int .i64 why))/\Pure w w':=by
 go_enter Tryz.func250,Tryz.ntmps250
 go_wp2
 go_ret
 exact⟨rfl,by first | exact Upd.refl _ _ | exact Upd.alloc1 _ _ _⟩
theorem is_refused (why k:Int) (w:World):Calls Tryz.prog 203 #[.iface 237 (.agg #[.int .i64 why]),.iface 28 (.int .i64 k),.bool true] w fun r w'=>r=.returned (.bool (why == k))/\Pure w w':=by
 have nE:=noIsE
 have uE:=noUnwrapE
 have vE:=noUnwrapsE
 have nR:=noIsR
 have uR:=hasUnwrapR
 have mU:=methodUnwrapR
 have heq:=eql_errnos
 have hty:=fun w=>run_eql_iface_types (P:=Tryz.prog) 237 28 (.agg #[.int .i64 why]) (.int .i64 k) Tryz.underlying187 (by decide) w
 cases hb:(why == k)
 all_goals
  go_enter Tryz.func203,Tryz.ntmps203
  go_wp2
  refine wp_loop_rounds 2 ?_
  rw[rounds_succ]
  go_wp2_with (go_at_call 250;refine(unwrap_calls why _).mono ?_;rintro e w1 ⟨rfl,hu⟩;have HU1:=mK hu;clear hu)
  rw[rounds_succ]
  go_wp2
  go_ret
  exact⟨rfl,HU1.o⟩
theorem Is_refused (why k:Int) (w:World):Calls Tryz.prog 175 #[.iface 237 (.agg #[.int .i64 why]),.iface 28 (.int .i64 k)] w fun r w'=>r=.returned (.bool (why == k))/\Pure w w':=by
 have hT:=@run_callFunc_extern Tryz.prog 202 _ Extern.ReflectliteType.typeOf Tryz.func202 (by kernel_rfl) (by kernel_rfl) (by kernel_rfl) (by kernel_rfl)
 have hC := @run_callFunc_extern Tryz.prog 256 _ (Extern.ReflectliteType.method fun t => do Rtype.noPackHeld "Comparable" t; pure (.bool (<- typeInfo t).comparable)) Tryz.func256 (by kernel_rfl) (by kernel_rfl) (by kernel_rfl) (by kernel_rfl)
 have tT:=isTypeOf
 have cT:=isComparable
 have mR:=isMethodComparable
 have hn1:=fun w=>run_eql_iface_nil_left (P:=Tryz.prog) w 237 (.agg #[.int .i64 why]) Tryz.underlying187
 have HI:=mK (is_refused why k)
 go_enter Tryz.func175,Tryz.ntmps175
 go_wp2_with (go_at_call 203;refine(HI.o _).mono ?_;rintro e w1 ⟨rfl,hu⟩;have HU1:=mK hu;clear hu)
 go_ret
 exact⟨rfl,HU1.o⟩
theorem number_calls {why:Int} (h:1<=why/\why<=12) (w:World):Calls Tryz.prog 144 #[.iface 237 (.agg #[.int .i64 why])] w fun r w'=>r=.returned (.int .i64 why)/\Pure w w':=by
 have HI:=mK (fun k w=>Is_refused why k w)
 have HW:=mK h
 have h1:=h.1
 have h2:=h.2
 clear h
 go_enter Tryz.func144,Tryz.ntmps144
 go_wp2
 go_loopg [3] 12 (fun gg kv wr=>∃ k:Nat,k+gg=13/\1<=k/\kv=.int .i64 k/\(k:Int)<=why/\As (Pure w wr))
 case atStart=>exact⟨1,by omega,by omega,rfl,by omega,⟨Upd.refl _ _⟩⟩
 case round=>
  obtain⟨k,hk,hk1,rfl,hle,HP⟩:=hrel
  by_cases he:(k:Int)=why
  ·have hb:(why == (k:Int))=true:=by simpa using he.symm
   have h12:(k:Int)<=12:=by omega
   have HI2:=mK (HI.o (k:Int))
   rw[hb] at HI2
   have HE:=mK he
   clear he hb
   go_wp2_with (go_at_call 175;refine(HI2.o _).mono ?_;rintro e w1 ⟨rfl,hu⟩;have HU1:=mK hu;clear hu)
   go_ret
   exact⟨by first | exact rfl | (rw[HE.o];exact rfl),HP.o.tt HU1.o⟩
  ·have hb:(why == (k:Int))=false:=by simpa using fun e:why=(k:Int)=>he e.symm
   have h12:(k:Int)<=12:=by omega
   have hlt:(k:Int) < why:=by omega
   have HI2:=mK (HI.o (k:Int))
   rw[hb] at HI2
   obtain⟨g1,rfl⟩:=sC1 (by omega:0 < gk)
   clear he hb
   go_wp2_with (go_at_call 175;refine(HI2.o _).mono ?_;rintro e w1 ⟨rfl,hu⟩;have HU1:=mK hu;clear hu)
   go_roundg g1
   case measure=>omega
   case rel=>exact⟨k+1,by omega,by omega,by go_num,by omega,⟨HP.o.tt HU1.o⟩⟩
end Go.Proofs.YtofjodppljnlaaaGreatDoor
namespace Go.Proofs.YtofjodppljnlaaaGreatDoor
open Go.RowKit
theorem sc_long {s:StepD} (h:s.sl.length > 2048) (hb:s.sl.length<=1048576 * 4):Calls Tryz.prog 115 #[s.val A c] w fun r w'=>r=.returned (.int .i64 2)/\Pure w w':=by
 have h1:decide ((s.sl.length:Int) > 2048)=true:=by simp;omega
 have h2:decide ((2048:Int) < (s.sl.length:Int))=true:=by simp;omega
 unfold StepD.val
 clear h
 go_enter Tryz.func115,Tryz.ntmps115
 go_wp2
 go_ret
 exact⟨rfl,Upd.alloc1 _ _ _⟩
theorem stepCheck_calls {s:StepD} (hr:tokR.row w F A s.sl) (hb:s.sl.length<=1048576 * 4):Calls Tryz.prog 115 #[s.val A c] w fun r w'=>r=.returned (.int .i64 (x0q s))/\Pure w w':=by
 by_cases h:s.sl.length > 2048
 ·have e:x0q s=2:=by unfold x0q;rw[if_pos h]
  rw[e]
  exact sc_long h hb
 ·have e:x0q s=if s.ok then 0 else 1:=by unfold x0q;rw[if_neg h]
  rw[e]
  obtain⟨k,fr,tt,gf,gt,ins,sl,mk⟩:=s
  simp only at hr hb h
  by_cases h1:k=1
  ·subst h1
   exact sc_around hr (by omega)
  ·by_cases h0:k=0
   ·subst h0
    exact sc_replace hr (by omega)
   ·by_cases hk:k=2\/k=3
    ·by_cases hl:sl.length=0
     ·have hn:sl=[]:=List.eq_nil_of_length_eq_zero hl
      subst hn
      exact sc_mark_nil (F:=F) hk
     ·exact sc_mark_ne hr (by omega) hk hl
    ·exact sc_other hr (by omega) (by omega)
theorem x06 {k:Nat} {x0 x1 x2 x3 x4 x5 x6 x7:Value} {t:TypeId} (h:w.heap[k]?=some (.cells #[x0,x1,x2,x3,x4,x5,x6,x7] t (0,0))) :
 w.cell? ⟨k,0,none⟩=some x0/\w.cell? ⟨k,1,none⟩=some x1/\w.cell? ⟨k,2,none⟩=some x2/\w.cell? ⟨k,3,none⟩=some x3/\w.cell? ⟨k,4,none⟩=some x4/\w.cell? ⟨k,5,none⟩=some x5/\w.cell? ⟨k,6,none⟩=some x6/\w.cell? ⟨k,7,none⟩=some x7:=by
 refine⟨?_,?_,?_,?_,?_,?_,?_,?_⟩ <;> simp[World.cell?,h]
/-- step.do does what it should. -/
def DoC (w:World) (A:Option Addr) (c:Nat) (l:List Tok) (B:Option Addr) (cb:Nat) (s:StepD):Prop:=
 ∀ W,Pure w W->Calls Tryz.prog 116 #[.slice A l.length c,s.val B cb] W (Fresh W (x0t l s))
/-- What step.Apply, remap.Do answer. -/
def DocR (w:World) (x:List Tok) (e:Int) (r:Ending) (w':World):Prop:=
 ((e=0/\∃ B,r=.returned (.tuple #[.slice (some B) x.length x.length,.int .i64 0])/\tokR.row w' (fun k=>w.heap.size<=k) (some B) x)\/(e ≠ 0/\r=.returned (.tuple #[.slice none 0 0,.int .i64 e])))/\Pure w w'
theorem stepDo_len {l:List Tok} {s:StepD} (h:x0q s=0) (ht:s.tt<=l.length):(x0t l s).length<=2 * l.length+s.sl.length+10:=by
 obtain⟨_,h1,h2,h3,h4,_⟩:=x27.1 h
 unfold x0t
 split
 ·simp only[List.length_append,List.length_take,List.length_drop];omega
 ·split
  ·simp only[List.length_append,List.length_take,List.length_drop];omega
  ·simp only[List.length_append,List.length_take,List.length_drop,List.length_map];omega
theorem x4c {l:List Tok} (h:(x0a l).2=0):l.length<=2048:=by
 unfold x0a at h
 split at h
 ·simp at h
 ·omega
theorem fc_codes:∀ (l:List Tok) (i n:Nat),(fcGo i n l).2=0\/(fcGo i n l).2=3\/(fcGo i n l).2=4\/(fcGo i n l).2=8:=by
 intro l
 induction l with
 | nil=>
   intro i n
   unfold fcGo
   simp only
   split <;> simp
 | cons x r ih=>
   intro i n
   unfold fcGo
   split
   ·simp
   ·split
    ·split
     ·simp
     ·exact ih _ _
    ·split
     ·exact ih _ _
     ·exact ih _ _
theorem flat_codes (l:List Tok):(x0a l).2=0\/(1<=(x0a l).2/\(x0a l).2<=12):=by
 unfold x0a
 split
 ·simp
 ·rcases fc_codes l 0 0 with h | h | h | h <;> rw[h] <;> simp
theorem ck_codes (rs:List (Spec × Ex)) (gs:List Grp):∀ (l:List Tok) (k:Nat) (top:Lev) (below:List Lev),(ckGo rs gs k top below l).2=0\/(ckGo rs gs k top below l).2=9:=by
 intro l
 induction l with
 | nil=>
   intro k top below
   rw[ck_end]
   simp only
   split <;> simp
 | cons x r ih=>
   intro k top below
   by_cases h2:x.k=2
   ·cases ha:x0n top.1.2 gs top.2
    ·rw[ck_noclose h2 ha];simp
    ·cases below with
     | nil=>
       rw[ckGo.eq_def]
       simp only[if_pos h2,ha,if_true]
       simp
     | cons p q=>rw[ck_close h2 ha];exact ih _ _ _
   ·cases hs:x36 rs gs top x
    ·rw[ck_bad h2 hs];simp
    ·by_cases h1:x.k=1
     ·rw[ck_open h1 hs];exact ih _ _ _
     ·rw[ck_leaf h2 h1 hs];exact ih _ _ _
theorem house_codes (l:List Tok):(x0d l).2=0\/(1<=(x0d l).2/\(x0d l).2<=12):=by
 unfold x0d x12
 split
 ·rcases ck_codes x02 x07 l 0 (x0r x02 0,[]) [] with h | h <;> rw[h] <;> simp
 ·exact flat_codes l
theorem step_codes (l:List Tok) (s:StepD):x15 l s=0\/(1<=x15 l s/\x15 l s<=12):=by
 unfold x15
 split
 ·have:=flat_codes l
  omega
 ·split
  ·unfold x0q
   split
   ·simp
   ·split <;> simp
  ·split
   ·simp
   ·split
    ·simp
    ·exact flat_codes _
theorem remap_codes (l:List Tok) (s:StepD):x08 l s=0\/(1<=x08 l s/\x08 l s<=12):=by
 unfold x08
 split
 ·have:=step_codes l s
  omega
 ·exact house_codes _
theorem DocR.zero {x:List Tok} {r:Ending} {w':World} (h:DocR w x 0 r w'):(∃ B,r=.returned (.tuple #[.slice (some B) x.length x.length,.int .i64 0])/\tokR.row w' (fun k=>w.heap.size<=k) (some B) x)/\Pure w w':=by
 obtain⟨⟨_,B,h1,h2⟩ | ⟨h,_⟩,hu⟩:=h
 ·exact⟨⟨B,h1,h2⟩,hu⟩
 ·exact absurd rfl h
/-- What remap.do answers. -/
def RdoR (w:World) (x:List Tok) (e:Int) (r:Ending) (w':World):Prop:=
 ((e=0/\∃ B,r=.returned (.tuple #[.slice (some B) x.length x.length,.nilIface])/\tokR.row w' (fun k=>w.heap.size<=k) (some B) x)\/(e ≠ 0/\r=.returned (.tuple #[.slice none 0 0,.iface 237 (.agg #[.int .i64 e])])))/\Pure w w'
theorem RdoR.zero {x:List Tok} {r:Ending} {w':World} (h:RdoR w x 0 r w'):(∃ B,r=.returned (.tuple #[.slice (some B) x.length x.length,.nilIface])/\tokR.row w' (fun k=>w.heap.size<=k) (some B) x)/\Pure w w':=by
 obtain⟨⟨_,B,h1,h2⟩ | ⟨h,_⟩,hu⟩:=h
 ·exact⟨⟨B,h1,h2⟩,hu⟩
 ·exact absurd rfl h
theorem Apply_calls {l:List Tok} {s:StepD} (hr:tokR.row w F A l) (hs:tokR.row w G B s.sl) (hb:l.length<=1048576 * 4) (hsb:s.sl.length<=1048576 * 4) (hd:(x0a l).2=0->x0q s=0->s.tt<=l.length->DoC w A c l B cb s) :
 Calls Tryz.prog 57 #[.slice A l.length c,s.val B cb] w (DocR w (x0t l s) (x15 l s)):=by
 have HF:=mK (fun W (hu:Pure w W)=>x63 (c:=c) (Rp.x01 hr hu) hb)
 have HC:=mK (fun W (hu:Pure w W)=>stepCheck_calls (c:=cb) (Rp.x01 hs hu) hsb)
 have HE:=mK (show x15 l s=if (x0a l).2 ≠ 0 then (x0a l).2 else if x0q s ≠ 0 then x0q s else if s.tt > l.length then 1 else if (x0a (x0t l s)).2=3 then 4 else (x0a (x0t l s)).2 from rfl)
 have HD:=mK hd
 have HFO:=mK (fun (W:World) (Bo:Option Addr) (G2:Nat->Prop) (h1:x0q s=0) (h2:s.tt<=l.length) (h0:l.length<=2048) (hrow:tokR.row W G2 Bo (x0t l s))=>x63 (c:=(x0t l s).length) hrow (by have:=stepDo_len h1 h2;have:=(x27.1 h1).1;omega))
 have HSZ:=mK hb
 clear hr hs hd
 unfold StepD.val DoC at *
 by_cases h0:(x0a l).2=0
 ·have hlen:=x4c h0
  have HE2:=mK (show x15 l s=if x0q s ≠ 0 then x0q s else if s.tt > l.length then 1 else if (x0a (x0t l s)).2=3 then 4 else (x0a (x0t l s)).2 by rw[HE.o,if_neg (by omega)])
  rw[h0] at HF
  have HD2:=mK (HD.o h0)
  clear HE HD h0
  by_cases h1:x0q s=0
  ·have HE3:=mK (show x15 l s=if s.tt > l.length then 1 else if (x0a (x0t l s)).2=3 then 4 else (x0a (x0t l s)).2 by rw[HE2.o,if_neg (by omega)])
   rw[h1] at HC
   have HD3:=mK (HD2.o h1)
   have HFO2:=mK (fun W Bo G2=>HFO.o W Bo G2 h1)
   clear HE2 HD2 h1 HFO
   by_cases h2:s.tt > l.length
   ·have HE4:=mK (show x15 l s=1 by rw[HE3.o,if_pos h2])
    have t1:decide (s.tt > (l.length:Int))=true:=by simpa using h2
    have t2:decide ((l.length:Int) < s.tt)=true:=by simpa using h2
    clear h2 HE3 HD3 HFO2
    go_enter Tryz.func57,Tryz.ntmps57
    go_wp2_with (first | (go_at_call 116;refine(HDO.o w2 HU2.o).mono ?_;rintro r w3 ⟨⟨B3,rfl,hrow⟩,hu⟩;have HR3:=mK hrow;have HU3a:=mK hu;have HU3:=mK (HU2.o.tt hu);clear hu hrow;apply As.o) | (go_at_call 115;refine(HC.o w1 HU1.o).mono ?_;rintro r w2 ⟨rfl,hu⟩;have hb2:=kP hu HB1.o;obtain⟨r0,r1,r2,r3,r4,r5,r6,r7⟩:=x06 hb2;have HU2:=mK (HU1.o.tt hu);clear hu hb2) | (go_at_call 64;refine(HF.o _ aU).mono ?_;rintro r w1 ⟨rfl,hu⟩;have hb1:=(hu.block w.heap.size (by simp) (fun h=>h)).trans (heap_alloc_new w _);obtain⟨q0,q1,q2,q3,q4,q5,q6,q7⟩:=x06 hb1;have HB1:=mK hb1;have HU1:=mK (Upd.trans aP hu (fun _ _ h=>h));clear hu hb1))
    go_ret2
    rw[HE4.o]
    exact⟨.inr ⟨by decide,rfl⟩,HU2.o⟩
   ·have HE4:=mK (show x15 l s=if (x0a (x0t l s)).2=3 then 4 else (x0a (x0t l s)).2 by rw[HE3.o,if_neg h2])
    have t1:decide (s.tt > (l.length:Int))=false:=by simpa using h2
    have t2:decide ((l.length:Int) < s.tt)=false:=by simpa using h2
    have HDO:=mK (HD3.o (by omega))
    have HFO3:=mK (fun W Bo G2=>HFO2.o W Bo G2 (by omega) hlen)
    clear h2 HE3 HD3 HFO2
    generalize hxo:x0t l s=xo at *
    have fin:∀ e:Int,(x0a xo).2=e->Calls Tryz.prog 57 #[.slice A l.length c,.agg #[.int .i64 s.k,.int .i64 s.fr,.int .i64 s.tt,.int .i64 s.gf,.int .i64 s.gt,.int .i64 s.ins,.slice B s.sl.length cb,.int .i64 s.mark]] w (DocR w xo (x15 l s)):=by
     intro e he
     rw[he] at HE4 HFO3
     clear he hxo
     by_cases e0:e=0
     ·subst e0
      have HE5:=mK (show x15 l s=0 from HE4.o)
      go_enter Tryz.func57,Tryz.ntmps57
      go_wp2_with (first | (go_at_call 116;refine(HDO.o w2 HU2.o).mono ?_;rintro r w3 ⟨⟨B3,rfl,hrow⟩,hu⟩;have HR3:=mK hrow;have HU3a:=mK hu;have HU3:=mK (HU2.o.tt hu);clear hu hrow;apply As.o) | (go_at_call 115;refine(HC.o w1 HU1.o).mono ?_;rintro r w2 ⟨rfl,hu⟩;have hb2:=kP hu HB1.o;obtain⟨r0,r1,r2,r3,r4,r5,r6,r7⟩:=x06 hb2;have HU2:=mK (HU1.o.tt hu);clear hu hb2) | (go_at_call 64;refine(HF.o _ aU).mono ?_;rintro r w1 ⟨rfl,hu⟩;have hb1:=(hu.block w.heap.size (by simp) (fun h=>h)).trans (heap_alloc_new w _);obtain⟨q0,q1,q2,q3,q4,q5,q6,q7⟩:=x06 hb1;have HB1:=mK hb1;have HU1:=mK (Upd.trans aP hu (fun _ _ h=>h));clear hu hb1))
      refine⟨?_⟩
      go_wp2_with (go_at_call 64;refine(HFO3.o w3 _ _ HR3.o).mono ?_;rintro r w4 ⟨rfl,hu⟩;have HU4:=mK hu;clear hu)
      go_ret2
      rw[HE5.o]
      exact⟨.inl ⟨rfl,B3,rfl,Rp.x09 (Rp.x01 HR3.o HU4.o) (fun q hq=>Nat.le_trans HU2.o.size hq)⟩,HU3.o.tt HU4.o⟩
     ·by_cases e3:e=3
      ·subst e3
       have HE5:=mK (show x15 l s=4 from HE4.o)
       go_enter Tryz.func57,Tryz.ntmps57
       go_wp2_with (first | (go_at_call 116;refine(HDO.o w2 HU2.o).mono ?_;rintro r w3 ⟨⟨B3,rfl,hrow⟩,hu⟩;have HR3:=mK hrow;have HU3a:=mK hu;have HU3:=mK (HU2.o.tt hu);clear hu hrow;apply As.o) | (go_at_call 115;refine(HC.o w1 HU1.o).mono ?_;rintro r w2 ⟨rfl,hu⟩;have hb2:=kP hu HB1.o;obtain⟨r0,r1,r2,r3,r4,r5,r6,r7⟩:=x06 hb2;have HU2:=mK (HU1.o.tt hu);clear hu hb2) | (go_at_call 64;refine(HF.o _ aU).mono ?_;rintro r w1 ⟨rfl,hu⟩;have hb1:=(hu.block w.heap.size (by simp) (fun h=>h)).trans (heap_alloc_new w _);obtain⟨q0,q1,q2,q3,q4,q5,q6,q7⟩:=x06 hb1;have HB1:=mK hb1;have HU1:=mK (Upd.trans aP hu (fun _ _ h=>h));clear hu hb1))
       refine⟨?_⟩
       go_wp2_with (go_at_call 64;refine(HFO3.o w3 _ _ HR3.o).mono ?_;rintro r w4 ⟨rfl,hu⟩;have HU4:=mK hu;clear hu)
       go_ret2
       rw[HE5.o]
       exact⟨.inr ⟨by decide,rfl⟩,HU3.o.tt HU4.o⟩
      ·have HE5:=mK (show x15 l s=e from HE4.o.trans (if_neg e3))
       have HE0:=mK e0
       have f0:(e == 0)=false:=by simpa using e0
       have f3:(e == 3)=false:=by simpa using e3
       clear e0 e3
       go_enter Tryz.func57,Tryz.ntmps57
       go_wp2_with (first | (go_at_call 116;refine(HDO.o w2 HU2.o).mono ?_;rintro r w3 ⟨⟨B3,rfl,hrow⟩,hu⟩;have HR3:=mK hrow;have HU3a:=mK hu;have HU3:=mK (HU2.o.tt hu);clear hu hrow;apply As.o) | (go_at_call 115;refine(HC.o w1 HU1.o).mono ?_;rintro r w2 ⟨rfl,hu⟩;have hb2:=kP hu HB1.o;obtain⟨r0,r1,r2,r3,r4,r5,r6,r7⟩:=x06 hb2;have HU2:=mK (HU1.o.tt hu);clear hu hb2) | (go_at_call 64;refine(HF.o _ aU).mono ?_;rintro r w1 ⟨rfl,hu⟩;have hb1:=(hu.block w.heap.size (by simp) (fun h=>h)).trans (heap_alloc_new w _);obtain⟨q0,q1,q2,q3,q4,q5,q6,q7⟩:=x06 hb1;have HB1:=mK hb1;have HU1:=mK (Upd.trans aP hu (fun _ _ h=>h));clear hu hb1))
       refine⟨?_⟩
       go_wp2_with (go_at_call 64;refine(HFO3.o w3 _ _ HR3.o).mono ?_;rintro r w4 ⟨rfl,hu⟩;have HU4:=mK hu;clear hu)
       go_ret2
       rw[HE5.o]
       exact⟨.inr ⟨HE0.o,rfl⟩,HU3.o.tt HU4.o⟩
    exact fin _ rfl
  ·have HE3:=mK (show x15 l s=x0q s by rw[HE2.o,if_pos h1])
   have HE0:=mK h1
   have f0:(x0q s != 0)=true:=by simpa using h1
   generalize x0q s=e at *
   clear HE2 HD2 h1 HFO
   go_enter Tryz.func57,Tryz.ntmps57
   go_wp2_with (first | (go_at_call 116;refine(HDO.o w2 HU2.o).mono ?_;rintro r w3 ⟨⟨B3,rfl,hrow⟩,hu⟩;have HR3:=mK hrow;have HU3a:=mK hu;have HU3:=mK (HU2.o.tt hu);clear hu hrow;apply As.o) | (go_at_call 115;refine(HC.o w1 HU1.o).mono ?_;rintro r w2 ⟨rfl,hu⟩;have hb2:=kP hu HB1.o;obtain⟨r0,r1,r2,r3,r4,r5,r6,r7⟩:=x06 hb2;have HU2:=mK (HU1.o.tt hu);clear hu hb2) | (go_at_call 64;refine(HF.o _ aU).mono ?_;rintro r w1 ⟨rfl,hu⟩;have hb1:=(hu.block w.heap.size (by simp) (fun h=>h)).trans (heap_alloc_new w _);obtain⟨q0,q1,q2,q3,q4,q5,q6,q7⟩:=x06 hb1;have HB1:=mK hb1;have HU1:=mK (Upd.trans aP hu (fun _ _ h=>h));clear hu hb1))
   go_ret2
   rw[HE3.o]
   exact⟨.inr ⟨HE0.o,rfl⟩,HU2.o⟩
 ·have HE3:=mK (show x15 l s=(x0a l).2 by rw[HE.o,if_pos h0])
  have HE0:=mK h0
  have f0:((x0a l).2 != 0)=true:=by simpa using h0
  generalize (x0a l).2=e at *
  clear HE HD h0 HFO
  go_enter Tryz.func57,Tryz.ntmps57
  go_wp2_with (go_at_call 64;refine(HF.o _ aU).mono ?_;rintro r w1 ⟨rfl,hu⟩;have HU1:=mK (Upd.trans aP hu (fun _ _ h=>h));clear hu)
  go_ret2
  rw[HE3.o]
  exact⟨.inr ⟨HE0.o,rfl⟩,HU1.o⟩
theorem rdo_calls {cs:Nat} {l:List Tok} {s:StepD} (h:SchR w cb x02 x07) (ha:∀ W,Pure w W->Calls Tryz.prog 57 #[.slice A l.length c,s.val B cs] W (DocR W (x0t l s) (x15 l s))) :
 Calls Tryz.prog 143 #[.pointer (some ⟨cb,0,none⟩),.slice A l.length c,s.val B cs] w (RdoR w (x0t l s) (x08 l s)):=by
 have HA:=mK ha
 have HS:=mK h
 have HX:=mK (fun (W:World) (hu:Pure w W) (Bo:Option Addr) (G2:Nat->Prop) (h1:x15 l s=0) (hrow:tokR.row W G2 Bo (x0t l s))=>x3g (c:=(x0t l s).length) (h.pure hu) hrow (by have:=x4c (step_err_zero.1 h1).2.2.2;omega))
 clear h ha
 unfold StepD.val at *
 by_cases h0:x15 l s=0
 ·have HE:=mK (show x08 l s=(x0d (x0t l s)).2 by unfold x08;rw[if_neg (by omega)])
  have HX2:=mK (fun W hu Bo G2=>HX.o W hu Bo G2 h0)
  rw[h0] at HA
  clear h0 HX
  generalize x0t l s=x at *
  by_cases h1:(x0d x).2=0
  ·have HE2:=mK (HE.o.trans h1)
   rw[h1] at HX2
   generalize (x0d x).1=hx1 at *
   clear h1 HE
   go_enter Tryz.func143,Tryz.ntmps143
   go_wp2_with (go_at_call 57;refine(HA.o _ aU).mono ?_;rintro r w1 hd;obtain⟨⟨B1,rfl,hrow⟩,hu⟩:=DocR.zero hd;(have HR1:=mK hrow;have HU1:=mK (Upd.trans aP hu (fun _ _ h=>h));have HZ1:=mK hu.size;clear hd hu hrow;apply As.o))
   refine⟨?_⟩
   go_wp2_with (go_at_call 15;refine(HX2.o w1 HU1.o _ _ HR1.o).mono ?_;rintro r w2 ⟨rfl,hu⟩;have HU2:=mK hu;clear hu)
   go_ret2
   rw[HE2.o]
   exact⟨.inl ⟨rfl,B1,rfl,Rp.x09 (Rp.x01 HR1.o HU2.o) (fun q hq=>by have:=HZ1.o;simp at hq this;omega)⟩,HU1.o.tt HU2.o⟩
  ·have HN:=mK h1
   have f1:((x0d x).2 == 0)=false:=by simpa using h1
   have f2:((x0d x).2 != 0)=true:=by simpa using h1
   generalize (x0d x).2=hx2 at *
   generalize (x0d x).1=hx1 at *
   clear h1
   go_enter Tryz.func143,Tryz.ntmps143
   go_wp2_with (go_at_call 57;refine(HA.o _ aU).mono ?_;rintro r w1 hd;obtain⟨⟨B1,rfl,hrow⟩,hu⟩:=DocR.zero hd;(have HR1:=mK hrow;have HU1:=mK (Upd.trans aP hu (fun _ _ h=>h));clear hd hu hrow;apply As.o))
   refine⟨?_⟩
   go_wp2_with (go_at_call 15;refine(HX2.o w1 HU1.o _ _ HR1.o).mono ?_;rintro r w2 ⟨rfl,hu⟩;have HU2:=mK hu;clear hu)
   go_ret2
   rw[HE.o]
   exact⟨.inr ⟨HN.o,rfl⟩,HU1.o.tt HU2.o⟩
 ·have HE:=mK (show x08 l s=x15 l s by unfold x08;rw[if_pos h0])
  have HN:=mK h0
  have f1:(x15 l s == 0)=false:=by simpa using h0
  have f2:(x15 l s != 0)=true:=by simpa using h0
  generalize x15 l s=e at *
  clear h0 HX
  go_enter Tryz.func143,Tryz.ntmps143
  go_wp2_with (go_at_call 57;refine(HA.o _ aU).mono ?_;rintro r w1 ⟨⟨h0,_⟩ | ⟨_,rfl⟩,hu⟩;exact absurd h0 HN.o;(have HU1:=mK (Upd.trans aP hu (fun _ _ h=>h));clear hu;apply As.o))
  refine⟨?_⟩
  go_wp2
  go_ret2
  rw[HE.o]
  exact⟨.inr ⟨HN.o,rfl⟩,HU1.o⟩
theorem Do_calls {cs:Nat} {l:List Tok} {s:StepD} (h:SchR w cb x02 x07) (ha:∀ W,Pure w W->Calls Tryz.prog 57 #[.slice A l.length c,s.val B cs] W (DocR W (x0t l s) (x15 l s))) :
 Calls Tryz.prog 96 #[.pointer (some ⟨cb,0,none⟩),.slice A l.length c,s.val B cs] w (DocR w (x0t l s) (x08 l s)):=by
 have HD:=mK (fun W (hu:Pure w W)=>rdo_calls (h.pure hu) (fun V hv=>ha V (hu.tt hv)))
 have HC:=remap_codes l s
 clear h ha
 unfold StepD.val at *
 generalize x08 l s=e at *
 generalize x0t l s=x at *
 have n1:=fun (w:World) (v:Value)=>run_eql_iface_nil_left (P:=Tryz.prog) w 237 v Tryz.underlying187
 by_cases h0:e=0
 ·subst h0
  clear HC
  go_enter Tryz.func96,Tryz.ntmps96
  go_wp2_with (go_at_call 143;refine(HD.o _ aU).mono ?_;rintro r w1 hd;obtain⟨⟨B1,rfl,hrow⟩,hu⟩:=RdoR.zero hd;(have HR1:=mK hrow;have HU1:=mK (Upd.trans aP hu (fun _ _ h=>h));clear hd hu hrow;apply As.o))
  refine⟨?_⟩
  go_wp2
  go_ret2
  exact⟨.inl ⟨rfl,B1,rfl,Rp.x09 HR1.o (fun q hq=>by simp at hq;omega)⟩,HU1.o⟩
 ·have HN:=mK h0
  have HNC:=mK (fun W=>number_calls (why:=e) (by omega) W)
  clear h0 HC
  go_enter Tryz.func96,Tryz.ntmps96
  go_wp2_with (go_at_call 143;refine(HD.o _ aU).mono ?_;rintro r w1 ⟨⟨h0,_⟩ | ⟨_,rfl⟩,hu⟩;exact absurd h0 HN.o;(have HU1:=mK (Upd.trans aP hu (fun _ _ h=>h));clear hu;apply As.o))
  refine⟨?_⟩
  go_wp2_with (go_at_call 144;refine(HNC.o _).mono ?_;rintro r w2 ⟨rfl,hu⟩;have HU2:=mK hu;clear hu)
  go_ret2
  exact⟨.inr ⟨HN.o,rfl⟩,HU1.o.tt HU2.o⟩
theorem set8 {rb:Nat} {x0 x1 x2 x3 x4 x5 x6 x7:Value} {t:TypeId} {fr:Nat × Nat} (h:w.heap[rb]?=some (.cells #[x0,x1,x2,x3,x4,x5,x6,x7] t fr)) (y0 y1 y2 y3 y4 y5 y6 y7:Value):((((((((w.setCell ⟨rb,0,none⟩ y0).setCell ⟨rb,1,none⟩ y1).setCell ⟨rb,2,none⟩ y2).setCell ⟨rb,3,none⟩ y3).setCell ⟨rb,4,none⟩ y4).setCell ⟨rb,5,none⟩ y5).setCell ⟨rb,6,none⟩ y6).setCell ⟨rb,7,none⟩ y7).heap[rb]?=some (.cells #[y0,y1,y2,y3,y4,y5,y6,y7] t fr):=by simp[World.setCell,Array.getElem?_modify,h]
theorem x05 {w0:World} {rb:Nat} (hp:Pure w0 w) (hb:w0.heap.size<=rb) (y0 y1 y2 y3 y4 y5 y6 y7:Value):Pure w0 ((((((((w.setCell ⟨rb,0,none⟩ y0).setCell ⟨rb,1,none⟩ y1).setCell ⟨rb,2,none⟩ y2).setCell ⟨rb,3,none⟩ y3).setCell ⟨rb,4,none⟩ y4).setCell ⟨rb,5,none⟩ y5).setCell ⟨rb,6,none⟩ y6).setCell ⟨rb,7,none⟩ y7):=
 hp |>.setCell (p:=⟨rb,0,none⟩) (fun h=>absurd h (by show ¬ rb < w0.heap.size;omega)) _ |>.setCell (p:=⟨rb,1,none⟩) (fun h=>absurd h (by show ¬ rb < w0.heap.size;omega)) _ |>.setCell (p:=⟨rb,2,none⟩) (fun h=>absurd h (by show ¬ rb < w0.heap.size;omega)) _ |>.setCell (p:=⟨rb,3,none⟩) (fun h=>absurd h (by show ¬ rb < w0.heap.size;omega)) _ |>.setCell (p:=⟨rb,4,none⟩) (fun h=>absurd h (by show ¬ rb < w0.heap.size;omega)) _ |>.setCell (p:=⟨rb,5,none⟩) (fun h=>absurd h (by show ¬ rb < w0.heap.size;omega)) _ |>.setCell (p:=⟨rb,6,none⟩) (fun h=>absurd h (by show ¬ rb < w0.heap.size;omega)) _ |>.setCell (p:=⟨rb,7,none⟩) (fun h=>absurd h (by show ¬ rb < w0.heap.size;omega)) _
theorem x0i {V:World} {X:Obj} (h:Pure (w.alloc X) V):V.heap[w.heap.size]?=some X/\Pure w V:=
 ⟨(h.block _ (by simp) (fun h=>h)).trans (heap_alloc_new w X),Upd.trans aP h (fun _ _ h=>h)⟩
abbrev step0:Value:=.agg #[.int .i64 0,.int .i64 0,.int .i64 0,.int .i64 0,.int .i64 0,.int .i64 0,.slice none 0 0,.int .i64 0]
/-- A step that is told, or a refusal. -/
def ToldR (v:Value) (e:Int) (r:Ending):Prop:=(e=0/\r=.returned (.tuple #[v,.int .i64 0]))\/(e ≠ 0/\r=.returned (.tuple #[step0,.int .i64 e]))
theorem ToldR.zero {v:Value} {r:Ending} (h:ToldR v 0 r):r=.returned (.tuple #[v,.int .i64 0]):=by
 rcases h with ⟨_,h⟩ | ⟨h,_⟩
 ·exact h
 ·exact absurd rfl h
theorem ToldR.ne {v:Value} {e:Int} {r:Ending} (h:ToldR v e r) (he:e ≠ 0):r=.returned (.tuple #[step0,.int .i64 e]):=by
 rcases h with ⟨h,_⟩ | ⟨_,h⟩
 ·exact absurd h he
 ·exact h
theorem DocR.ne {x:List Tok} {e:Int} {r:Ending} {w':World} (h:DocR w x e r w') (he:e ≠ 0):r=.returned (.tuple #[.slice none 0 0,.int .i64 e])/\Pure w w':=by
 obtain⟨⟨h,_⟩ | ⟨_,h1⟩,hu⟩:=h
 ·exact absurd h he
 ·exact⟨h1,hu⟩
def x0e (l:List Tok) (f t:Int):Int:=if (x0d l).2 ≠ 0 then (x0d l).2 else if f < 0\/t < f\/(l.length:Int) < t then 1 else 0
theorem x16 {l:List Tok} {f t:Int}:x0e l f t=0 ↔ (x0d l).2=0/\0<=f/\f<=t/\t<=l.length:=by
 unfold x0e
 constructor
 ·intro h
  split at h
  ·omega
  ·split at h <;> omega
 ·rintro ⟨h1,h2,h3,h4⟩
  rw[if_neg (by omega),if_neg (by omega)]
/-- A step s and an error are answered. -/
def Told (s:StepD) (B:Option Addr) (c:Nat) (e:Int) (w:World) (r:Ending) (w':World):Prop:=r=.returned (.tuple #[s.val B c,.int .i64 e])/\Pure w w'
def toldS (s:StepD) (e:Int):StepD:=if e=0 then s else repl 0 0 []
def toldB (B:Option Addr) (e:Int):Option Addr:=if e=0 then B else none
def toldC (c:Nat) (e:Int):Nat:=if e=0 then c else 0
theorem ToldR.told {s:StepD} {e:Int} {w':World} {r:Ending} (h:ToldR (s.val B c) e r/\Pure w w'):Told (toldS s e) (toldB B e) (toldC c e) e w r w':=by
 obtain⟨⟨rfl,h⟩ | ⟨h0,h⟩,hu⟩:=h
 ·exact⟨h,hu⟩
 ·refine⟨?_,hu⟩
  unfold toldS toldB toldC
  rw[if_neg h0,if_neg h0,if_neg h0,h]
  rfl
/-- A token that is no text. -/
def plainT (l:List Tok):Prop:=∀ x ∈ l,x.k=0
instance (l:List Tok):Decidable (plainT l):=by unfold plainT;infer_instance
theorem up1 {b:Nat} {w':World} (h:Pure w w'):Upd (fun k=>k=b) w w':=rU.trans h (fun _ _ h=>h.elim)
theorem x0b {w0:World} {rb:Nat} (hp:Upd (fun k=>k=rb) w0 w) (y0 y1 y2 y3 y4 y5 y6 y7:Value):Upd (fun k=>k=rb) w0 ((((((((w.setCell ⟨rb,0,none⟩ y0).setCell ⟨rb,1,none⟩ y1).setCell ⟨rb,2,none⟩ y2).setCell ⟨rb,3,none⟩ y3).setCell ⟨rb,4,none⟩ y4).setCell ⟨rb,5,none⟩ y5).setCell ⟨rb,6,none⟩ y6).setCell ⟨rb,7,none⟩ y7):=
 hp |>.setCell (p:=⟨rb,0,none⟩) (fun _=>rfl) _ |>.setCell (p:=⟨rb,1,none⟩) (fun _=>rfl) _ |>.setCell (p:=⟨rb,2,none⟩) (fun _=>rfl) _ |>.setCell (p:=⟨rb,3,none⟩) (fun _=>rfl) _ |>.setCell (p:=⟨rb,4,none⟩) (fun _=>rfl) _ |>.setCell (p:=⟨rb,5,none⟩) (fun _=>rfl) _ |>.setCell (p:=⟨rb,6,none⟩) (fun _=>rfl) _ |>.setCell (p:=⟨rb,7,none⟩) (fun _=>rfl) _
theorem x35 {l:List Tok} (hr:tokR.row w F A l) (hne:l ≠ []):∃ b o,A=some ⟨b,o,none⟩:=by
 rcases hr with h | ⟨b,o,hA,_⟩
 ·exact absurd h hne
 ·exact⟨b,o,hA⟩
theorem x3b {l:List Tok} (h:(x0d l).2=0):l ≠ []:=by
 rintro rfl
 rw[awake_nil] at h
 exact absurd h (by decide)
end Go.Proofs.YtofjodppljnlaaaGreatDoor
