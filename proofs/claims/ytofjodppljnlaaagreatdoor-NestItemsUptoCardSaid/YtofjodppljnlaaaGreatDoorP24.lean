/- My own texts, packed: Done9, Chk9, EdAw, EdN, Ed12w. -/
import Derived.Test.YtofjodppljnlaaaGreatDoorP23
set_option maxRecDepth 100000
set_option maxHeartbeats 4000000
set_option linter.unusedVariables false
set_option linter.unusedSimpArgs false
variable {w w1 W:Go.World} {F G:Nat → Prop} {A B:Option Go.Addr} {cb c:Nat}
namespace Go.Proofs.YtofjodppljnlaaaGreatDoor
open Go.RowKit
theorem tokens59 {F0 F1 F2 F3 F4:Nat->Prop} {x0 x1 x2 x3 x4:List Tok} (hb:x0.length+x1.length+x2.length+x3.length+x4.length<=1048576) (W:World) (hu:Pure w W) {v0 v1 v2 v3 v4:Value} {blk:Nat} {e:TypeId} {fr:Nat × Nat} (hblk:W.heap[blk]?=some (.cells #[v0,v1,v2,v3,v4] e fr)) (h0:TokS w F0 v0 x0) (h1:TokS w F1 v1 x1) (h2:TokS w F2 v2 x2) (h3:TokS w F3 v3 x3) (h4:TokS w F4 v4 x4) :
 Calls Tryz.prog 204 #[.slice (some ⟨blk,0,none⟩) 5 5] W fun r w'=>(∃ A c,r=.returned (.slice A (x0 ++ (x1 ++ (x2 ++ (x3 ++ x4)))).length c)/\(x0 ++ (x1 ++ (x2 ++ (x3 ++ x4)))).length<=c/\tokR.row w' (fun k=>W.heap.size<=k) A (x0 ++ (x1 ++ (x2 ++ (x3 ++ x4)))))/\Pure W w':=by
 have hr:toksR.row W (fun _=>True) (some ⟨blk,0,none⟩) [x0,x1,x2,x3,x4]:=toks_box (vs:=[v0,v1,v2,v3,v4]) hblk trivial rfl (fun j v x hv hx=>by
  match j,hv,hx with
  | 0,hv,hx=>simp at hv hx;subst hv hx;exact(h0.pure hu).fp
  | 1,hv,hx=>simp at hv hx;subst hv hx;exact(h1.pure hu).fp
  | 2,hv,hx=>simp at hv hx;subst hv hx;exact(h2.pure hu).fp
  | 3,hv,hx=>simp at hv hx;subst hv hx;exact(h3.pure hu).fp
  | 4,hv,hx=>simp at hv hx;subst hv hx;exact(h4.pure hu).fp
  | j+5,hv,hx=>simp at hv)
 have h:=join9_calls (c:=5) hr (Nat.le_refl _) (by simp) (by simp[sumL];omega)
 have e:([x0,x1,x2,x3,x4]:List (List Tok)).flatten=x0 ++ (x1 ++ (x2 ++ (x3 ++ x4))):=by simp
 rw[e] at h
 exact h
theorem do_arnd_some9 {b o b2 o2:Nat} {l sl:List Tok} {p q g h n:Nat} (hr:tokR.row w F (some ⟨b,o,none⟩) l) (hlc:l.length<=c) (hs:tokR.row w G (some ⟨b2,o2,none⟩) sl) (hsc:sl.length<=cb) (hb:l.length+sl.length<=100000) (hn:n<=sl.length) (hp:p<=g) (hg:g < h) (hh:h<=q) (hq:q<=l.length) :
 Calls Tryz.prog 177 #[.slice (some ⟨b,o,none⟩) l.length c,(arnd p q g h (n:Nat) sl).val (some ⟨b2,o2,none⟩) cb] w (Told9 w (l.take p ++ (sl.take n ++ ((l.take h).drop g ++ (sl.drop n ++ l.drop q))))):=by
 have hbox:=Upd.alloc1 (fun _=>False) w (.cells #[.int .i64 1,.int .i64 (p:Nat),.int .i64 (q:Nat),.int .i64 (g:Nat),.int .i64 (h:Nat),.int .i64 (n:Nat),.slice (some ⟨b2,o2,none⟩) sl.length cb,.int .i64 0] 46)
 have hblk:=heap_alloc_new w (.cells #[.int .i64 1,.int .i64 (p:Nat),.int .i64 (q:Nat),.int .i64 (g:Nat),.int .i64 (h:Nat),.int .i64 (n:Nat),.slice (some ⟨b2,o2,none⟩) sl.length cb,.int .i64 0] 46)
 have h1:=TokS.take (m:=p) hr (by omega) hlc rfl
 have h2:=TokS.take (m:=n) hs (by omega) hsc rfl
 have h3:=TokS.mid (g:=g) (h:=h) (m:=h - g) (c':=c - g) hr (by omega) hlc rfl rfl
 have h4:=TokS.cut (n:=n) (m:=sl.length - n) (c':=cb - n) hs (by omega) hsc rfl rfl
 have h5:=TokS.cut (n:=q) (m:=l.length - q) (c':=c - q) hr hq hlc rfl rfl
 have HT:=mK (fun (W:World) (hu:Pure w W) (blk:Nat) (e:TypeId) (fr:Nat × Nat) hblk=>tokens59 (x0:=l.take p) (x1:=sl.take n) (x2:=(l.take h).drop g) (x3:=sl.drop n) (x4:=l.drop q) (by simp only[List.length_take,List.length_drop,List.length_nil];omega) W hu (blk:=blk) (e:=e) (fr:=fr) hblk h1 h2 h3 h4 h5)
 have HB:=mK hbox
 have HBK:=mK (fun (cs:Array Value) (T:TypeId)=>(by
  have h:=heap_alloc_new (w.alloc (.cells #[.int .i64 1,.int .i64 (p:Nat),.int .i64 (q:Nat),.int .i64 (g:Nat),.int .i64 (h:Nat),.int .i64 (n:Nat),.slice (some ⟨b2,o2,none⟩) sl.length cb,.int .i64 0] 46)) (.cells cs T)
  rw[World.size_alloc] at h
  exact h:(((w.alloc (.cells #[.int .i64 1,.int .i64 (p:Nat),.int .i64 (q:Nat),.int .i64 (g:Nat),.int .i64 (h:Nat),.int .i64 (n:Nat),.slice (some ⟨b2,o2,none⟩) sl.length cb,.int .i64 0] 46)).alloc (.cells cs T)).drew).heap[w.heap.size+1]?=some (.cells cs T (0,0))))
 have q0:∀ v,Pure (w.alloc (.cells #[.int .i64 1,.int .i64 (p:Nat),.int .i64 (q:Nat),.int .i64 (g:Nat),.int .i64 (h:Nat),.int .i64 (n:Nat),.slice (some ⟨b2,o2,none⟩) sl.length cb,.int .i64 0] 46)) v->(fun v=>v.cell? ⟨w.heap.size,0,none⟩=some (.int .i64 1)/\v.cell? ⟨w.heap.size,1,none⟩=some (.int .i64 (p:Nat))/\v.cell? ⟨w.heap.size,2,none⟩=some (.int .i64 (q:Nat))/\v.cell? ⟨w.heap.size,3,none⟩=some (.int .i64 (g:Nat))/\v.cell? ⟨w.heap.size,4,none⟩=some (.int .i64 (h:Nat))/\v.cell? ⟨w.heap.size,5,none⟩=some (.int .i64 (n:Nat))/\v.cell? ⟨w.heap.size,6,none⟩=some (.slice (some ⟨b2,o2,none⟩) sl.length cb)) v:=fun v hu=>by
  have:=(hu.block w.heap.size (by simp) (fun h=>h)).trans hblk
  refine⟨?_,?_,?_,?_,?_,?_,?_⟩ <;> (unfold World.cell?;simp only[this];rfl)
 have HQ:=mK q0
 have i1:(0:Int)<=((p:Nat):Int):=by omega
 have i2:((p:Nat):Int)<=((c:Nat):Int):=by omega
 have i3:(0:Int)<=((q:Nat):Int):=by omega
 have i4:((q:Nat):Int)<=((l.length:Nat):Int):=by omega
 have i5:((q:Nat):Int)<=((c:Nat):Int):=by omega
 have i6:((l.length:Nat):Int)<=((c:Nat):Int):=by omega
 have i7:(0:Int)<=((g:Nat):Int):=by omega
 have i8:((g:Nat):Int)<=((h:Nat):Int):=by omega
 have i9:((h:Nat):Int)<=((c:Nat):Int):=by omega
 have j1:(0:Int)<=((h:Nat):Int):=by omega
 have j2:¬ c=g:=by omega
 have k1:(0:Int)<=((n:Nat):Int):=by omega
 have k2:((n:Nat):Int)<=((cb:Nat):Int):=by omega
 have k3:((n:Nat):Int)<=((sl.length:Nat):Int):=by omega
 have k4:((sl.length:Nat):Int)<=((cb:Nat):Int):=by omega
 clear hr h1 h2 h3 h4 h5 hbox hblk q0 hs
 unfold StepD.val arnd
 go_enter Tryz.func177,Tryz.ntmps177
 go_wp2
 refine x0m (P:=Tryz.prog) (fun v=>v.cell? ⟨w.heap.size,0,none⟩=some (.int .i64 1)/\v.cell? ⟨w.heap.size,1,none⟩=some (.int .i64 (p:Nat))/\v.cell? ⟨w.heap.size,2,none⟩=some (.int .i64 (q:Nat))/\v.cell? ⟨w.heap.size,3,none⟩=some (.int .i64 (g:Nat))/\v.cell? ⟨w.heap.size,4,none⟩=some (.int .i64 (h:Nat))/\v.cell? ⟨w.heap.size,5,none⟩=some (.int .i64 (n:Nat))/\v.cell? ⟨w.heap.size,6,none⟩=some (.slice (some ⟨b2,o2,none⟩) sl.length cb)) 26 (by kernel_rfl) ?_ (fun hHeld=>?_)
 ·first | exact HQ.o _ (rU.drew) | exact HQ.o _ ((rU.alloc _).drew) | exact HQ.o _ (((rU.alloc _).drew).tt hu3)
 refine zT 0 ?_
 refine zT 1 ?_
 refine zT 2 ?_
 refine zT 3 ?_
 (try simp only[Act.put,sA,sB,sC])
 refine zT 4 ?_
 refine zT 5 ?_
 refine zT 6 ?_
 refine zT 7 ?_
 (try simp only[Act.put,sA,sB,sC])
 refine zT 8 ?_
 refine zT 9 ?_
 refine zT 10 ?_
 refine zT 11 ?_
 (try simp only[Act.put,sA,sB,sC])
 refine zT 12 ?_
 refine zT 13 ?_
 refine zT 14 ?_
 refine zT 15 ?_
 (try simp only[Act.put,sA,sB,sC])
 refine zT 16 ?_
 refine zT 17 ?_
 refine zT 18 ?_
 refine zT 19 ?_
 (try simp only[Act.put,sA,sB,sC])
 refine zT 20 ?_
 refine zT 21 ?_
 refine zT 22 ?_
 refine zT 23 ?_
 (try simp only[Act.put,sA,sB,sC])
 refine oT 24 (fun K hK=>?_)
 go_simp
 refine hK.out _ _ (fun _=>by first | exact HQ.o _ (rU.drew) | exact HQ.o _ ((rU.alloc _).drew) | exact HQ.o _ (((rU.alloc _).drew).tt hu3)) (fun hHeld=>?_)
 replace hHeld:=hHeld (by decide)
 clear hK K
 (try simp only[Act.put,sA,sB,sC])
 refine oT 25 (fun K hK=>?_)
 go_simp
 (go_at_call 204;with_reducible refine(HT.o _ ((HB.o.alloc _).drew) _ _ _ (HBK.o _ _)).mono ?_;rintro e w3 ⟨⟨B3,c3,rfl,hle3,hrow3⟩,hu3⟩)
 refine hK.out _ _ (fun _=>by first | exact HQ.o _ (rU.drew) | exact HQ.o _ ((rU.alloc _).drew) | exact HQ.o _ (((rU.alloc _).drew).tt hu3)) (fun hHeld=>?_)
 replace hHeld:=hHeld (by decide)
 clear hK K
 (try simp only[Act.put,sA,sB,sC])
 refine oT 26 (fun K hK=>?_)
 go_simp
 refine hK.out _ _ (fun h=>absurd rfl h) (fun hHeld=>?_)
 clear hK K
 (try simp only[Act.put,sA,sB,sC])
 refine x0l (by kernel_rfl) ?_ _
 go_wp2
 all_goals go_ret
 all_goals exact Told9.of ((HB.o.alloc _).drew) rfl (by first | (simp;done) | (simp;omega)) hle3 hrow3 hu3
theorem do_arnd_none9 {b o:Nat} {l:List Tok} {p q g h:Nat} (hr:tokR.row w F (some ⟨b,o,none⟩) l) (hlc:l.length<=c) (hb:l.length<=100000) (hp:p<=g) (hg:g < h) (hh:h<=q) (hq:q<=l.length) :
 Calls Tryz.prog 177 #[.slice (some ⟨b,o,none⟩) l.length c,(arnd p q g h 0 []).val none 0] w (Told9 w (l.take p ++ ((l.take h).drop g ++ l.drop q))):=by
 have hbox:=Upd.alloc1 (fun _=>False) w (.cells #[.int .i64 1,.int .i64 (p:Nat),.int .i64 (q:Nat),.int .i64 (g:Nat),.int .i64 (h:Nat),.int .i64 0,.slice none 0 0,.int .i64 0] 46)
 have hblk:=heap_alloc_new w (.cells #[.int .i64 1,.int .i64 (p:Nat),.int .i64 (q:Nat),.int .i64 (g:Nat),.int .i64 (h:Nat),.int .i64 0,.slice none 0 0,.int .i64 0] 46)
 have h1:=TokS.take (m:=p) hr (by omega) hlc rfl
 have h2:=(⟨none,0,rfl,Nat.le_refl _,.inl rfl⟩:TokS w (fun _=>True) (.slice none 0 0) ([]:List Tok))
 have h3:=TokS.mid (g:=g) (h:=h) (m:=h - g) (c':=c - g) hr (by omega) hlc rfl rfl
 have h4:=h2
 have h5:=TokS.cut (n:=q) (m:=l.length - q) (c':=c - q) hr hq hlc rfl rfl
 have HT:=mK (fun (W:World) (hu:Pure w W) (blk:Nat) (e:TypeId) (fr:Nat × Nat) hblk=>tokens59 (x0:=l.take p) (x1:=[]) (x2:=(l.take h).drop g) (x3:=[]) (x4:=l.drop q) (by simp only[List.length_take,List.length_drop,List.length_nil];omega) W hu (blk:=blk) (e:=e) (fr:=fr) hblk h1 h2 h3 h4 h5)
 simp only[List.nil_append] at HT
 have HB:=mK hbox
 have HBK:=mK (fun (cs:Array Value) (T:TypeId)=>(by
  have h:=heap_alloc_new (w.alloc (.cells #[.int .i64 1,.int .i64 (p:Nat),.int .i64 (q:Nat),.int .i64 (g:Nat),.int .i64 (h:Nat),.int .i64 0,.slice none 0 0,.int .i64 0] 46)) (.cells cs T)
  rw[World.size_alloc] at h
  exact h:(((w.alloc (.cells #[.int .i64 1,.int .i64 (p:Nat),.int .i64 (q:Nat),.int .i64 (g:Nat),.int .i64 (h:Nat),.int .i64 0,.slice none 0 0,.int .i64 0] 46)).alloc (.cells cs T)).drew).heap[w.heap.size+1]?=some (.cells cs T (0,0))))
 have q0:∀ v,Pure (w.alloc (.cells #[.int .i64 1,.int .i64 (p:Nat),.int .i64 (q:Nat),.int .i64 (g:Nat),.int .i64 (h:Nat),.int .i64 0,.slice none 0 0,.int .i64 0] 46)) v->(fun v=>v.cell? ⟨w.heap.size,0,none⟩=some (.int .i64 1)/\v.cell? ⟨w.heap.size,1,none⟩=some (.int .i64 (p:Nat))/\v.cell? ⟨w.heap.size,2,none⟩=some (.int .i64 (q:Nat))/\v.cell? ⟨w.heap.size,3,none⟩=some (.int .i64 (g:Nat))/\v.cell? ⟨w.heap.size,4,none⟩=some (.int .i64 (h:Nat))/\v.cell? ⟨w.heap.size,5,none⟩=some (.int .i64 0)/\v.cell? ⟨w.heap.size,6,none⟩=some (.slice none 0 0)) v:=fun v hu=>by
  have:=(hu.block w.heap.size (by simp) (fun h=>h)).trans hblk
  refine⟨?_,?_,?_,?_,?_,?_,?_⟩ <;> (unfold World.cell?;simp only[this];rfl)
 have HQ:=mK q0
 have i1:(0:Int)<=((p:Nat):Int):=by omega
 have i2:((p:Nat):Int)<=((c:Nat):Int):=by omega
 have i3:(0:Int)<=((q:Nat):Int):=by omega
 have i4:((q:Nat):Int)<=((l.length:Nat):Int):=by omega
 have i5:((q:Nat):Int)<=((c:Nat):Int):=by omega
 have i6:((l.length:Nat):Int)<=((c:Nat):Int):=by omega
 have i7:(0:Int)<=((g:Nat):Int):=by omega
 have i8:((g:Nat):Int)<=((h:Nat):Int):=by omega
 have i9:((h:Nat):Int)<=((c:Nat):Int):=by omega
 have j1:(0:Int)<=((h:Nat):Int):=by omega
 have j2:¬ c=g:=by omega
 clear hr h1 h2 h3 h4 h5 hbox hblk q0
 unfold StepD.val arnd
 go_enter Tryz.func177,Tryz.ntmps177
 go_wp2
 refine x0m (P:=Tryz.prog) (fun v=>v.cell? ⟨w.heap.size,0,none⟩=some (.int .i64 1)/\v.cell? ⟨w.heap.size,1,none⟩=some (.int .i64 (p:Nat))/\v.cell? ⟨w.heap.size,2,none⟩=some (.int .i64 (q:Nat))/\v.cell? ⟨w.heap.size,3,none⟩=some (.int .i64 (g:Nat))/\v.cell? ⟨w.heap.size,4,none⟩=some (.int .i64 (h:Nat))/\v.cell? ⟨w.heap.size,5,none⟩=some (.int .i64 0)/\v.cell? ⟨w.heap.size,6,none⟩=some (.slice none 0 0)) 26 (by kernel_rfl) ?_ (fun hHeld=>?_)
 ·first | exact HQ.o _ (rU.drew) | exact HQ.o _ ((rU.alloc _).drew) | exact HQ.o _ (((rU.alloc _).drew).tt hu3)
 refine zT 0 ?_
 refine zT 1 ?_
 refine zT 2 ?_
 refine zT 3 ?_
 (try simp only[Act.put,sA,sB,sC])
 refine zT 4 ?_
 refine zT 5 ?_
 refine zT 6 ?_
 refine zT 7 ?_
 (try simp only[Act.put,sA,sB,sC])
 refine zT 8 ?_
 refine zT 9 ?_
 refine zT 10 ?_
 refine zT 11 ?_
 (try simp only[Act.put,sA,sB,sC])
 refine zT 12 ?_
 refine zT 13 ?_
 refine zT 14 ?_
 refine zT 15 ?_
 (try simp only[Act.put,sA,sB,sC])
 refine zT 16 ?_
 refine zT 17 ?_
 refine zT 18 ?_
 refine zT 19 ?_
 (try simp only[Act.put,sA,sB,sC])
 refine zT 20 ?_
 refine zT 21 ?_
 refine zT 22 ?_
 refine zT 23 ?_
 (try simp only[Act.put,sA,sB,sC])
 refine oT 24 (fun K hK=>?_)
 go_simp
 refine hK.out _ _ (fun _=>by first | exact HQ.o _ (rU.drew) | exact HQ.o _ ((rU.alloc _).drew) | exact HQ.o _ (((rU.alloc _).drew).tt hu3)) (fun hHeld=>?_)
 replace hHeld:=hHeld (by decide)
 clear hK K
 (try simp only[Act.put,sA,sB,sC])
 refine oT 25 (fun K hK=>?_)
 go_simp
 (go_at_call 204;with_reducible refine(HT.o _ ((HB.o.alloc _).drew) _ _ _ (HBK.o _ _)).mono ?_;rintro e w3 ⟨⟨B3,c3,rfl,hle3,hrow3⟩,hu3⟩)
 refine hK.out _ _ (fun _=>by first | exact HQ.o _ (rU.drew) | exact HQ.o _ ((rU.alloc _).drew) | exact HQ.o _ (((rU.alloc _).drew).tt hu3)) (fun hHeld=>?_)
 replace hHeld:=hHeld (by decide)
 clear hK K
 (try simp only[Act.put,sA,sB,sC])
 refine oT 26 (fun K hK=>?_)
 go_simp
 refine hK.out _ _ (fun h=>absurd rfl h) (fun hHeld=>?_)
 clear hK K
 (try simp only[Act.put,sA,sB,sC])
 refine x0l (by kernel_rfl) ?_ _
 go_wp2
 all_goals go_ret
 all_goals exact Told9.of ((HB.o.alloc _).drew) rfl (by first | (simp;done) | (simp;omega)) hle3 hrow3 hu3
theorem chk9_arnd {sl:List Tok} {a b g h n0:Int} (hr:tokR.row w F B sl) (hb:sl.length<=1048576 * 4) :
 Calls Tryz.prog 176 #[(arnd a b g h n0 sl).val B cb] w fun r w'=>r=.returned (.int .i64 (x0q (arnd a b g h n0 sl)))/\Pure w w':=by
 have HS1:=mK (fun hz h2=>sc_one (s:=arnd a b g h n0 sl) hz h2)
 have HS0:=mK (fun hz h2=>sc_zero (s:=arnd a b g h n0 sl) hz h2)
 have HS2:=mK (fun hz=>sc_two (s:=arnd a b g h n0 sl) hz)
 have HIF:=mK (arnd_ok (a:=a) (b:=b) (g:=g) (h:=h) (ins:=n0) (sl:=sl))
 have HSL:As ((arnd a b g h n0 sl).sl=sl):=⟨rfl⟩
 rw[HSL.o] at HS1 HS0 HS2
 have HR:=mK hr
 have HBX:=mK (heap_alloc_new w (.cells #[.int .i64 1,.int .i64 a,.int .i64 b,.int .i64 g,.int .i64 h,.int .i64 n0,.slice B sl.length cb,.int .i64 0] 46))
 generalize x0q (arnd a b g h n0 sl)=sc at *
 generalize (arnd a b g h n0 sl).ok=okP at *
 have e:(arnd a b g h n0 sl).val B cb=.agg #[.int .i64 1,.int .i64 a,.int .i64 b,.int .i64 g,.int .i64 h,.int .i64 n0,.slice B sl.length cb,.int .i64 0]:=rfl
 rw[e]
 clear hr e HSL
 cases g0:decide (sl.length > 2048)
 case true=>
  have HG:=mK (of_decide_eq_true g0)
  have g1:decide ((sl.length:Int) > 2048)=true:=decide_eq_true (by have:=HG.o;omega)
  have g2:decide ((2048:Int) < (sl.length:Int))=true:=g1
  have g3:decide (2048 < sl.length)=true:=g0
  go_enter Tryz.func176,Tryz.ntmps176
  go_wp2
  go_ret
  exact⟨by rw[HS2.o HG.o];rfl,Upd.alloc1 _ _ _⟩
 case false=>
  have HG:=mK (of_decide_eq_false g0)
  have g1:decide ((sl.length:Int) > 2048)=false:=decide_eq_false (by have:=HG.o;omega)
  have g2:decide ((2048:Int) < (sl.length:Int))=false:=g1
  have g3:decide (2048 < sl.length)=false:=g0
  cases h0:decide (a < 0) <;> cases h1:decide (b < a) <;> cases h2:decide (2048 < b)
  case false.false.false=>
   have HA:=mK (And.intro (of_decide_eq_false h0) (And.intro (of_decide_eq_false h1) (of_decide_eq_false h2)))
   have h3:decide (a > b)=false:=h1
   have h4:decide (b > 2048)=false:=h2
   have hgap:(g == 0)=false\/((g == 0)=true/\(h == 0)=false)\/((g == 0)=true/\(h == 0)=true/\(n0 == 0)=false)\/((g == 0)=true/\(h == 0)=true/\(n0 == 0)=true):=by
    cases (g == 0) <;> cases (h == 0) <;> cases (n0 == 0) <;> simp
   have hch:decide (a<=g)=false\/(decide (a<=g)=true/\decide (g < h)=false)\/(decide (a<=g)=true/\decide (g < h)=true/\decide (h<=b)=false)\/(decide (a<=g)=true/\decide (g < h)=true/\decide (h<=b)=true/\decide (0<=n0)=false)\/(decide (a<=g)=true/\decide (g < h)=true/\decide (h<=b)=true/\decide (0<=n0)=true/\decide (n0<=(sl.length:Int))=false)\/(decide (a<=g)=true/\decide (g < h)=true/\decide (h<=b)=true/\decide (0<=n0)=true/\decide (n0<=(sl.length:Int))=true):=by
    cases decide (a<=g) <;> cases decide (g < h) <;> cases decide (h<=b) <;> cases decide (0<=n0) <;> cases decide (n0<=(sl.length:Int)) <;> simp
   have x4:decide (n0 >= 0)=decide (0<=n0):=rfl
   rcases hch with hc1 | ⟨hc1,hc2⟩ | ⟨hc1,hc2,hc3⟩ | ⟨hc1,hc2,hc3,hc4⟩ | ⟨hc1,hc2,hc3,hc4,hc5⟩ | ⟨hc1,hc2,hc3,hc4,hc5⟩
   case' inr.inr.inr.inr.inr=>
    have HC:=mK (And.intro (of_decide_eq_true hc1) (And.intro (of_decide_eq_true hc2) (And.intro (of_decide_eq_true hc3) (And.intro (of_decide_eq_true hc4) (of_decide_eq_true hc5)))))
    rw[hc4] at x4
    rcases hgap with q1 | ⟨q1,q2⟩ | ⟨q1,q2,q3⟩ | ⟨q1,q2,q3⟩
    all_goals
     go_enter Tryz.func176,Tryz.ntmps176
     go_wp2
     go_loopg [4,5] sl.length (fun gg fv i wr=>∃ n:Nat,n+gg=sl.length/\fv=.bool (true && (sl.take n).all x0p)/\i=.int .i64 n/\As (wr.heap[w.heap.size]?=some (.cells #[.int .i64 1,.int .i64 a,.int .i64 b,.int .i64 g,.int .i64 h,.int .i64 n0,.slice B sl.length cb,.int .i64 0] 46 (0,0))/\Pure w wr))
     case atStart=>exact⟨0,by omega,by simp,rfl,⟨HBX.o,Upd.alloc1 _ _ _⟩⟩
     case round=>
      obtain⟨n,hn,rfl,rfl,HP⟩:=hrel
      have hbx:=HP.o.1
      have z6:wr.cell? ⟨w.heap.size,6,none⟩=some (.slice B sl.length cb):=by unfold World.cell?;simp only[hbx];rfl
      have hbl:w.heap.size < wr.heap.size:=lB hbx
      by_cases hlt:n < sl.length
      ·obtain⟨x,hx⟩:=gS hlt
       obtain⟨g1,rfl⟩:∃ y,gk=y+1:=⟨gk - 1,by omega⟩
       obtain⟨bt,ot,rfl,hFb,hbb,d0,d1,d2,d3⟩:=x0j (Rp.x01 HR.o HP.o.2) hx
       have HT:=mK (show (sl.take (n+1)).all x0p=((sl.take n).all x0p && x0p x) by rw[List.take_add_one,hx];simp)
       have HRX:=mK (x2s x)
       have HN:=mK hn
       have hnl:(n:Int) < (sl.length:Int):=by omega
       have hnd:decide ((n:Int) < (sl.length:Int))=true:=decide_eq_true (by omega)
       have hwn:IntKind.i64.wrap ((n:Int)+1)=(n:Int)+1:=IntWalk.i64_in _ (by omega)
       clear hx hn hbx
       generalize x0p x=rx at *
       cases hbn:(true && (sl.take n).all x0p)
       ·have HBN:=mK hbn
        clear hbn HRX
        go_wp2
        go_roundg g1
        case measure=>omega
        case rel=>exact⟨n+1,by have:=HN.o;omega,by rw[HT.o,<- Bool.and_assoc,HBN.o];rfl,by go_num,HP⟩
       ·have HBN:=mK hbn
        clear hbn
        go_wp2_with (go_at_call 97;refine(HRX.o _).mono ?_;rintro e w2 ⟨rfl,hu⟩;have HB2:=mK ((hu.block _ hbl (fun h=>h)).trans HP.o.1);have HU2:=mK (HP.o.2.tt hu);clear hu)
        go_roundg g1
        case measure=>omega
        case rel=>exact⟨n+1,by have:=HN.o;omega,by rw[HT.o,<- Bool.and_assoc,HBN.o,Bool.true_and],by go_num,⟨HB2.o,HU2.o⟩⟩
      ·obtain rfl:n=sl.length:=by omega
       have hnd:decide ((sl.length:Int) < (sl.length:Int))=false:=decide_eq_false (by omega)
       rw[List.take_length]
       clear hbx
       cases hall:(true && sl.all x0p)
       ·have HAL:=mK hall
        clear hall
        go_wp2
        go_ret
        exact⟨by rw[HS1.o HG.o (fun ho=>by have h9:=all_right.2 (HIF.o.1 ho).2.2.2.2.2.2.2;rw[h9] at HAL;exact absurd HAL.o (by decide))];rfl,HP.o.2⟩
       ·have HAL:=mK hall
        clear hall
        go_wp2
        go_ret
        exact⟨by rw[HS0.o HG.o (HIF.o.2 ⟨by have:=HA.o;omega,HC.o.1,HC.o.2.1,HC.o.2.2.1,by have:=HA.o;omega,HC.o.2.2.2.1,HC.o.2.2.2.2,all_right.1 (by simpa using HAL.o)⟩)];rfl,HP.o.2⟩
   all_goals
    have HNO:As (¬ okP):=⟨fun ho=>by
     have ho2:=HIF.o.1 ho
     first
      | exact absurd ho2.2.1 (of_decide_eq_false hc1)
      | exact absurd ho2.2.2.1 (of_decide_eq_false hc2)
      | exact absurd ho2.2.2.2.1 (of_decide_eq_false hc3)
      | exact absurd ho2.2.2.2.2.2.1 (of_decide_eq_false hc4)
      | exact absurd ho2.2.2.2.2.2.2.1 (of_decide_eq_false hc5)⟩
    try rw[hc4] at x4
    rcases hgap with q1 | ⟨q1,q2⟩ | ⟨q1,q2,q3⟩ | ⟨q1,q2,q3⟩
    all_goals
     go_enter Tryz.func176,Tryz.ntmps176
     go_wp2
     go_loopg [4,5] sl.length (fun gg fv i wr=>∃ n:Nat,n+gg=sl.length/\fv=.bool false/\i=.int .i64 n/\As (wr.heap[w.heap.size]?=some (.cells #[.int .i64 1,.int .i64 a,.int .i64 b,.int .i64 g,.int .i64 h,.int .i64 n0,.slice B sl.length cb,.int .i64 0] 46 (0,0))/\Pure w wr))
     case atStart=>exact⟨0,by omega,rfl,rfl,⟨HBX.o,Upd.alloc1 _ _ _⟩⟩
     case round=>
      obtain⟨n,hn,rfl,rfl,HP⟩:=hrel
      have hbx:=HP.o.1
      have z6:wr.cell? ⟨w.heap.size,6,none⟩=some (.slice B sl.length cb):=by unfold World.cell?;simp only[hbx];rfl
      have hbl:w.heap.size < wr.heap.size:=lB hbx
      by_cases hlt:n < sl.length
      ·obtain⟨g1,rfl⟩:∃ y,gk=y+1:=⟨gk - 1,by omega⟩
       have HN:=mK hn
       have hnd:decide ((n:Int) < (sl.length:Int))=true:=decide_eq_true (by omega)
       have hwn:IntKind.i64.wrap ((n:Int)+1)=(n:Int)+1:=IntWalk.i64_in _ (by omega)
       clear hn hbx
       go_wp2
       go_roundg g1
       case measure=>omega
       case rel=>exact⟨n+1,by have:=HN.o;omega,rfl,by go_num,HP⟩
      ·obtain rfl:n=sl.length:=by omega
       have hnd:decide ((sl.length:Int) < (sl.length:Int))=false:=decide_eq_false (by omega)
       clear hbx
       go_wp2
       go_ret
       exact⟨by rw[HS1.o HG.o HNO.o];rfl,HP.o.2⟩
  all_goals
   have HNO:As (¬ okP):=⟨fun ho=>by
    have ho2:=HIF.o.1 ho
    have q0:=h0;have q1:=h1;have q2:=h2
    simp only[decide_eq_true_eq,decide_eq_false_iff_not] at q0 q1 q2
    first | omega | (rcases ho2 with ho2;omega)⟩
   have h3:decide (a > b)=decide (b < a):=rfl
   have h4:decide (b > 2048)=decide (2048 < b):=rfl
   rw[h1] at h3
   rw[h2] at h4
   go_enter Tryz.func176,Tryz.ntmps176
   go_wp2
   go_ret
   exact⟨by rw[HS1.o HG.o HNO.o];rfl,Upd.alloc1 _ _ _⟩
theorem cells2 {k:Nat} {x0 x1:Value} {t:TypeId} (h:w.heap[k]?=some (.cells #[x0,x1] t (0,0))):w.cell? ⟨k,0,none⟩=some x0/\w.cell? ⟨k,1,none⟩=some x1:=by
 refine⟨?_,?_⟩ <;> simp[World.cell?,h]
/-- A step and an error are answered. -/
theorem step_end {fn:Func} {p q:Tmp} (hres:fn.results=#[.cell p 46,.tmp q]) (tmps:Array Value) {w:World} {rb:Nat} {y0 y1 y2 y3 y4 y5 y6 y7:Value} {t:TypeId} {fr:Nat × Nat} (hp:tmps.getD p undef=.pointer (some ⟨rb,0,none⟩)) (hg:w.heap[rb]?=some (.cells #[y0,y1,y2,y3,y4,y5,y6,y7] t fr)) :
 (results fn tmps).run Tryz.prog w=.ok (.tuple #[.agg #[y0,y1,y2,y3,y4,y5,y6,y7],tmps.getD q undef]) w:=by
 have hp':tmps[p]?.getD undef=.pointer (some ⟨rb,0,none⟩):=by simpa using hp
 simp[results,hres,hp',asAddr,run_loadVar_row (P:=Tryz.prog) _ rb t 46 _ fr _ hg Tryz.underlying46 rfl (by kernel_rfl)]
/-- A token is answered. -/
theorem tok_end {fn:Func} {p:Tmp} (hres:fn.results=#[.cell p 71]) (tmps:Array Value) {w:World} {rb:Nat} {y0 y1 y2 y3:Value} {t:TypeId} {fr:Nat × Nat} (hp:tmps.getD p undef=.pointer (some ⟨rb,0,none⟩)) (hg:w.heap[rb]?=some (.cells #[y0,y1,y2,y3] t fr)) :
 (results fn tmps).run Tryz.prog w=.ok (.agg #[y0,y1,y2,y3]) w:=by
 have hp':tmps[p]?.getD undef=.pointer (some ⟨rb,0,none⟩):=by simpa using hp
 simp[results,hres,hp',asAddr,run_loadVar_row (P:=Tryz.prog) _ rb t 71 _ fr _ hg Tryz.underlying71 rfl (by kernel_rfl)]
theorem x0s {V:World} {X Y:Obj} (h:Pure ((w.alloc X).alloc Y) V):V.heap[w.heap.size]?=some X/\V.heap[w.heap.size+1]?=some Y/\Pure w V:=by
 obtain⟨h1,h2⟩:=x0i h
 obtain⟨h3,h4⟩:=x0i h2
 exact⟨h3,by simpa using h1,h4⟩
theorem three_up {V:World} {X Y Z:Obj} (h:Pure (((w.alloc X).alloc Y).alloc Z) V):V.heap[w.heap.size]?=some X/\V.heap[w.heap.size+1]?=some Y/\V.heap[w.heap.size+2]?=some Z/\Pure w V:=by
 obtain⟨h1,h2⟩:=x0i h
 obtain⟨h3,h4,h5⟩:=x0s h2
 exact⟨h3,h4,by simpa using h1,h5⟩
abbrev deskV (cb:Nat) (A:Option Addr) (n c:Nat):Value:=.agg #[.pointer (some ⟨cb,0,none⟩),.slice A n c]
theorem x29 {e:Int} {sl text:List Tok} (h2:e=0->sl=text) (h3:e ≠ 0->sl=[]) (hr:tokR.row W G A text) (hc:text.length<=c):tokR.row W G (toldB A e) sl/\sl.length<=toldC c e:=by
 unfold toldB toldC
 by_cases h0:e=0
 ·rw[if_pos h0,if_pos h0,h2 h0]
  exact⟨hr,hc⟩
 ·rw[if_neg h0,if_neg h0,h3 h0]
  exact⟨.inl rfl,Nat.le_refl _⟩
theorem x0g {s:StepD} {e:Int} (h:e ≠ 0):toldS s e=repl 0 0 []:=if_neg h
theorem DoC.pure {l:List Tok} {s:StepD} (h:DoC w A c l B cb s) (hu:Pure w W):DoC W A c l B cb s:=fun V hV=>h V (hu.tt hV)
theorem doc_arnd {l sl:List Tok} {a b g h ins:Int} (hne:l ≠ []) (hr:tokR.row w F A l) (hlc:l.length<=c) (hs:tokR.row w G B sl) (hsc:sl.length<=cb) (hn:sl=[]->B=none/\cb=0)
 (h0:(x0a l).2=0) (h1:x0q (arnd a b g h ins sl)=0) (h2:b<=l.length):DoC w A c l B cb (arnd a b g h ins sl):=by
 obtain⟨bA,oA,rfl⟩:=x35 hr hne
 obtain⟨h3,hok⟩:=x27.1 h1
 obtain⟨o1,o2,o3,o4,o5,o6,o7,_⟩:=arnd_ok.1 hok
 have hl:=x4c h0
 have h3':sl.length<=2048:=h3
 intro W hW
 obtain⟨a,rfl⟩:=Int.eq_ofNat_of_zero_le o1
 obtain⟨g,rfl⟩:=Int.eq_ofNat_of_zero_le (Int.le_trans o1 o2)
 obtain⟨h,rfl⟩:=Int.eq_ofNat_of_zero_le (Int.le_trans (Int.le_trans o1 o2) (Int.le_of_lt o3))
 obtain⟨b,rfl⟩:=Int.eq_ofNat_of_zero_le (Int.le_trans (Int.le_trans (Int.le_trans o1 o2) (Int.le_of_lt o3)) o4)
 obtain⟨ins,rfl⟩:=Int.eq_ofNat_of_zero_le o6
 rw[arnd_do]
 simp only[Int.toNat_natCast]
 by_cases hz:sl=[]
 ·subst hz
  obtain⟨rfl,rfl⟩:=hn rfl
  obtain rfl:ins=0:=by simp at o7;omega
  have:=do_arnd_none (p:=a) (q:=b) (g:=g) (h:=h) (Rp.x01 hr hW) hlc (by omega) (by omega) (by omega) (by omega) (by omega)
  simpa using this
 ·obtain⟨bB,oB,rfl⟩:=x35 hs hz
  have:=do_arnd_some (p:=a) (q:=b) (g:=g) (h:=h) (n:=ins) (Rp.x01 hr hW) hlc (Rp.x01 hs hW) hsc (by omega) (by omega) (by omega) (by omega) (by omega) (by omega)
  rw[<- List.append_assoc,<- List.append_assoc,<- List.append_assoc] at this
  exact this
theorem dn_arnd {l sl:List Tok} {a b g h ins:Int} (hne:l ≠ []) (hr:tokR.row w F A l) (hlc:l.length<=c) (hs:tokR.row w G B sl) (hsc:sl.length<=cb) (hsb:sl.length<=1048576 * 4) (hn:sl=[]->B=none/\cb=0):Dn w A c l B cb (arnd a b g h ins sl):=by
 refine⟨fun W hW=>chk9_arnd (Rp.x01 hs hW) hsb,fun h0 h1 h2 W hW=>?_⟩
 obtain⟨bA,oA,rfl⟩:=x35 hr hne
 obtain⟨h3,hok⟩:=x27.1 h1
 obtain⟨o1,o2,o3,o4,o5,o6,o7,_⟩:=arnd_ok.1 hok
 have hl:=x4c h0
 have h3':sl.length<=2048:=h3
 have h2':b<=(l.length:Int):=h2
 obtain⟨a,rfl⟩:=Int.eq_ofNat_of_zero_le o1
 obtain⟨g,rfl⟩:=Int.eq_ofNat_of_zero_le (Int.le_trans o1 o2)
 obtain⟨h,rfl⟩:=Int.eq_ofNat_of_zero_le (Int.le_trans (Int.le_trans o1 o2) (Int.le_of_lt o3))
 obtain⟨b,rfl⟩:=Int.eq_ofNat_of_zero_le (Int.le_trans (Int.le_trans (Int.le_trans o1 o2) (Int.le_of_lt o3)) o4)
 obtain⟨ins,rfl⟩:=Int.eq_ofNat_of_zero_le o6
 rw[arnd_do]
 simp only[Int.toNat_natCast]
 by_cases hz:sl=[]
 ·subst hz
  obtain⟨rfl,rfl⟩:=hn rfl
  obtain rfl:ins=0:=by simp at o7;omega
  have:=do_arnd_none9 (p:=a) (q:=b) (g:=g) (h:=h) (Rp.x01 hr hW) hlc (by omega) (by omega) (by omega) (by omega) (by omega)
  simpa using this
 ·obtain⟨bB,oB,rfl⟩:=x35 hs hz
  have:=do_arnd_some9 (p:=a) (q:=b) (g:=g) (h:=h) (n:=ins) (Rp.x01 hr hW) hlc (Rp.x01 hs hW) hsc (by omega) (by omega) (by omega) (by omega) (by omega) (by omega)
  rw[<- List.append_assoc,<- List.append_assoc,<- List.append_assoc] at this
  exact this
/-- What may be put around: something, and all of it opens. -/
def goodW (us:List Tok):Prop:=us ≠ []/\∀ x ∈ us,x.k=1
instance (us:List Tok):Decidable (goodW us):=by unfold goodW;infer_instance
end Go.Proofs.YtofjodppljnlaaaGreatDoor
