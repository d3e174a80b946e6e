/- My own texts, packed: Pars5, Mach2, NetW. -/
import Derived.Test.YtofjodppljnlaaaGreatDoorP5
set_option maxRecDepth 100000
set_option maxHeartbeats 4000000
set_option linter.unusedVariables false
set_option linter.unusedSimpArgs false
variable {w w1 W:Go.World} {F G:Nat → Prop} {A B:Option Go.Addr} {cb c:Nat}
namespace Go.Proofs.YtofjodppljnlaaaGreatDoor
open Go.RowKit
theorem atom_name {tb k m:Nat} {s:ByteArray} (h:TB w tb s k) (hn:NameIn s k m) (hk:k < s.size) (h40:(s[k] == 40)=false) (h32:(s[k] == 32)=false) (h0:1<=s[k].toNat) :
 Calls Tryz.prog 220 #[.pointer (some ⟨tb,0,none⟩)] w fun r w'=>r=.returned (.tuple #[.agg #[.int .i64 1,.string (s.extract k m),.slice none 0 0],.nilIface])/\TB w' tb s m/\Upd (fun q=>q=tb) w w':=by
 have HN:=mK hn
 have hks:=hn.lt
 have hms:=hn.le
 have hsm:=hn.small
 have hT1:Pure w (w.alloc (.cells #[.int .i64 0,.string ⟨#[]⟩,.slice none 0 0] 92)):=Upd.alloc1 _ _ _
 have htbw:=h.cells.2.2
 have HNX:=mK (next_at (h.pure hT1) hk h32 h0 hsm)
 have HT:=mK (h.pure hT1)
 have hb1:((s[k].toNat:Int) == 40)=false:=by
  have:s[k] ≠ 40:=by simpa using h40
  simp
  intro h
  apply this
  apply UInt8.toNat_inj.1
  have:s[k].toNat=40:=by omega
  rw[this];rfl
 have hb2:(s[k].toNat == 40)=false:=by
  simp at hb1 ⊢
  omega
 clear h hn h40 h32 h0
 go_enter Tryz.func220,Tryz.ntmps220
 go_wp2_with (go_at_call 179;refine HNX.o.mono ?_;rintro e w1 ⟨rfl,hu⟩;have HU1:=mK hu;clear hu;apply As.o)
 refine⟨?_⟩
 have HT1:=mK (HT.o.pure HU1.o)
 obtain⟨⟨c0,c1⟩,f1,htb⟩:=HT1.o.cells
 have hrb0:=(HU1.o.block w.heap.size (by simp) (fun h=>h)).trans (heap_alloc_new w _)
 have HRB:=mK hrb0
 clear hrb0
 go_wp2
 go_loopg [] (m - k) (fun g wr=>∃ i:Nat,i+g=m/\k<=i/\As (TB wr tb s i/\Upd (fun q=>q=tb) w1 wr))
 case atStart=>exact⟨k,by omega,Nat.le_refl _,⟨HT1.o,Upd.refl _ _⟩⟩
 case round=>
  obtain⟨i,hi,hki,HP⟩:=hrel
  clear c0 c1 f1
  obtain⟨⟨c0,c1⟩,f1,htb2⟩:=HP.o.1.cells
  have c0d:wr.drew.cell? ⟨tb,0,none⟩=some (.string s):=c0
  have c1d:wr.drew.cell? ⟨tb,1,none⟩=some (.int .i64 i):=c1
  by_cases hlt:i < m
  ·obtain⟨g1,rfl⟩:∃ g,gk=g+1:=⟨gk - 1,by omega⟩
   have hl1:((i:Int) < (s.size:Int)):=by omega
   have hl2:decide (i < s.size)=true:=by simp;omega
   have hl3:decide ((i:Int) < (s.size:Int))=true:=by simp;omega
   have hwr:IntKind.i64.wrap ((i:Int)+1)=(i:Int)+1:=by rw[IntKind.wrap_i64];omega
   have hx1:(0:Int)<=(i:Int)+1:=by omega
   have hx2:(i:Int)+1<=(s.size:Int):=by omega
   have hx3:(i:Int)<=(i:Int)+1:=by omega
   have HI:=mK hi
   have HNM:=mK (HN.o.in_ i hki hlt)
   clear hi
   go_wp2
   refine wp_region_held_drew (S:=(fun v=>v.cell? ⟨tb,0,none⟩=some (.string s)/\v.cell? ⟨tb,1,none⟩=some (.int .i64 i))) (by kernel_rfl) ?_ (fun hHeld=>?_)
   ·first | exact⟨(HUn.o.cell htb2 (fun h=>h)).trans c0d,(HUn.o.cell htb2 (fun h=>h)).trans c1d⟩ | exact⟨c0d,c1d⟩
   refine zH 0 ?_
   (try simp only[Act.put,sA,sB,sC])
   refine zH 1 ?_
   refine zH 2 ?_
   refine zH 3 ?_
   refine zH 4 ?_
   (try simp only[Act.put,sA,sB,sC])
   refine zH 5 ?_
   refine zH 6 ?_
   refine zH 7 ?_
   refine zH 8 ?_
   (try simp only[Act.put,sA,sB,sC])
   refine zH 9 ?_
   refine zH 10 ?_
   refine zH 11 ?_
   refine zH 12 ?_
   (try simp only[Act.put,sA,sB,sC])
   refine zH 13 ?_
   refine zH 14 ?_
   refine zH 15 ?_
   refine zH 16 ?_
   (try simp only[Act.put,sA,sB,sC])
   refine zH 17 ?_
   refine zH 18 ?_
   refine zH 19 ?_
   refine zH 20 ?_
   (try simp only[Act.put,sA,sB,sC])
   refine zH 21 ?_
   refine zH 22 ?_
   refine zH 23 ?_
   refine zH 24 ?_
   (try simp only[Act.put,sA,sB,sC])
   refine wpAnyH_ready (rs:=[25]) (by kernel_rfl) (by simp) (AllReadyH.cons (by exact opAt rfl) (fun K hK=>?_) AllReadyH.nil)
   go_simp
   (go_at_call 157;refine(x5p (s.extract i (i+1)) _ (by simp;omega)).mono ?_;rintro e wn ⟨rfl,hu⟩;rw[HNM.o];have HUn:=mK (show Pure wr.drew wn from hu);clear hu)
   refine hK.out _ _ (by first | exact⟨(HUn.o.cell htb2 (fun h=>h)).trans c0d,(HUn.o.cell htb2 (fun h=>h)).trans c1d⟩ | exact⟨c0d,c1d⟩) (fun hHeld=>?_)
   clear hK K
   (try simp only[Act.put,sA,sB,sC])
   refine zH 26 ?_
   refine wpAnyH_done (by kernel_rfl) ?_ _
   obtain⟨⟨n0,n1⟩,nf1,ntb⟩:=(HP.o.1.pure ((Upd.refl (fun _=>False) wr).drew.tt HUn.o)).cells
   go_wp2
   go_roundg g1
   case measure=>omega
   case rel=>
    have hT2:=(HP.o.1.pure ((Upd.refl (fun _=>False) wr).drew.tt HUn.o)).set (i+1)
    exact⟨i+1,by have:=HI.o;omega,by omega,⟨hT2,(HP.o.2.trans ((Upd.refl (fun _=>False) wr).drew.tt HUn.o) (fun _ _ h=>h.elim)).setCell (p:=⟨tb,1,none⟩) (fun _=>rfl) _⟩⟩
  ·have him:i=m:=by omega
   have hik:((i:Int) == (k:Int))=false:=by simp;omega
   have hik2:(i == k)=false:=by simp;omega
   have hsl1:(0:Int)<=(i:Int):=by omega
   have hsl2:(i:Int)<=(s.size:Int):=by omega
   have hsl3:(k:Int)<=(i:Int):=by omega
   by_cases hend:i < s.size
   ·have hl1:((i:Int) < (s.size:Int)):=by omega
    have hl2:decide (i < s.size)=true:=by simp;omega
    have hl3:decide ((i:Int) < (s.size:Int))=true:=by simp;omega
    have hwr:IntKind.i64.wrap ((i:Int)+1)=(i:Int)+1:=by rw[IntKind.wrap_i64];omega
    have hx1:(0:Int)<=(i:Int)+1:=by omega
    have hx2:(i:Int)+1<=(s.size:Int):=by omega
    have hx3:(i:Int)<=(i:Int)+1:=by omega
    have HNM:As (nameB (s.extract i (i+1))=false):=⟨by rw[him];exact HN.o.o (by omega)⟩
    have HIM:=mK him
    clear him
    go_wp2
    refine wp_region_held_drew (S:=(fun v=>v.cell? ⟨tb,0,none⟩=some (.string s)/\v.cell? ⟨tb,1,none⟩=some (.int .i64 i))) (by kernel_rfl) ?_ (fun hHeld=>?_)
    ·first | exact⟨(HUn.o.cell htb2 (fun h=>h)).trans c0d,(HUn.o.cell htb2 (fun h=>h)).trans c1d⟩ | exact⟨c0d,c1d⟩
    refine zH 0 ?_
    refine zH 1 ?_
    refine zH 2 ?_
    refine zH 3 ?_
    refine zH 4 ?_
    refine zH 5 ?_
    (try simp only[Act.put,sA,sB,sC])
    refine zH 6 ?_
    refine zH 7 ?_
    refine zH 8 ?_
    refine zH 9 ?_
    (try simp only[Act.put,sA,sB,sC])
    refine zH 10 ?_
    refine zH 11 ?_
    refine zH 12 ?_
    refine zH 13 ?_
    (try simp only[Act.put,sA,sB,sC])
    refine zH 14 ?_
    refine zH 15 ?_
    refine zH 16 ?_
    refine zH 17 ?_
    (try simp only[Act.put,sA,sB,sC])
    refine zH 18 ?_
    refine zH 19 ?_
    refine zH 20 ?_
    refine zH 21 ?_
    (try simp only[Act.put,sA,sB,sC])
    refine zH 22 ?_
    refine zH 23 ?_
    refine zH 24 ?_
    refine wpAnyH_ready (rs:=[25]) (by kernel_rfl) (by simp) (AllReadyH.cons (by exact opAt rfl) (fun K hK=>?_) AllReadyH.nil)
    go_simp
    (go_at_call 157;refine(x5p (s.extract i (i+1)) _ (by simp;omega)).mono ?_;rintro e wn ⟨rfl,hu⟩;rw[HNM.o];have HUn:=mK (show Pure wr.drew wn from hu);clear hu)
    refine hK.out _ _ (by first | exact⟨(HUn.o.cell htb2 (fun h=>h)).trans c0d,(HUn.o.cell htb2 (fun h=>h)).trans c1d⟩ | exact⟨c0d,c1d⟩) (fun hHeld=>?_)
    clear hK K
    (try simp only[Act.put,sA,sB,sC])
    refine zH 26 ?_
    refine wpAnyH_done (by kernel_rfl) ?_ _
    have HW9:=mK ((Upd.refl (fun _=>False) wr).drew.tt HUn.o)
    obtain⟨⟨n0,n1⟩,nf1,ntb⟩:=(HP.o.1.pure HW9.o).cells
    have hrb:wn.heap[w.heap.size]?=some (.cells #[.int .i64 0,.string ⟨#[]⟩,.slice none 0 0] 92 (0,0)):=((HW9.o.block _ (by have:=HP.o.2.size;have:=(lB HRB.o);omega) (fun h=>h)).trans (HP.o.2.block _ (lB HRB.o) (by omega))).trans HRB.o
    obtain⟨⟨r0,r1,r2⟩,⟨rf0,rf1,rf2⟩,hrl⟩:=x11 hrb
    have n0d:wn.drew.cell? ⟨tb,0,none⟩=some (.string s):=n0
    have n1d:wn.drew.cell? ⟨tb,1,none⟩=some (.int .i64 i):=n1
    have hne:¬ tb=w.heap.size:=by omega
    go_wp2
    refine x0m (P:=Tryz.prog) (fun v=>(v.cell? ⟨tb,0,none⟩=some (.string s)/\v.cell? ⟨tb,1,none⟩=some (.int .i64 i))/\v.frozen? ⟨w.heap.size,0,none⟩=false/\v.frozen? ⟨w.heap.size,1,none⟩=false/\v.frozen? ⟨w.heap.size,2,none⟩=false) 12 (by kernel_rfl) ?_ (fun hHeld=>?_)
    ·first | exact⟨⟨((set3U _ w.heap.size _ _ _).cell ntb hne).trans n0d,((set3U _ w.heap.size _ _ _).cell ntb hne).trans n1d⟩,by simp[World.frozen?_setCell,rf0],by simp[World.frozen?_setCell,rf1],by simp[World.frozen?_setCell,rf2]⟩ | exact⟨⟨n0d,n1d⟩,rf0,rf1,rf2⟩
    refine zT 0 ?_
    refine zT 1 ?_
    refine zT 2 ?_
    (try simp only[Act.put,sA,sB,sC])
    refine zT 3 ?_
    refine zT 4 ?_
    refine zT 5 ?_
    refine zT 6 ?_
    (try simp only[Act.put,sA,sB,sC])
    refine zT 7 ?_
    refine zT 8 ?_
    refine zT 9 ?_
    refine zT 10 ?_
    (try simp only[Act.put,sA,sB,sC])
    refine oT 11 (fun K hK=>?_)
    go_simp
    refine hK.out _ _ (fun _=>by first | exact⟨⟨((set3U _ w.heap.size _ _ _).cell ntb hne).trans n0d,((set3U _ w.heap.size _ _ _).cell ntb hne).trans n1d⟩,by simp[World.frozen?_setCell,rf0],by simp[World.frozen?_setCell,rf1],by simp[World.frozen?_setCell,rf2]⟩ | exact⟨⟨n0d,n1d⟩,rf0,rf1,rf2⟩) (fun hHeld=>?_)
    replace hHeld:=hHeld (by decide)
    clear hK K
    (try simp only[Act.put,sA,sB,sC])
    refine oT 12 (fun K hK=>?_)
    go_simp
    refine hK.out _ _ (fun h=>absurd rfl h) (fun hHeld=>?_)
    clear hK K
    (try simp only[Act.put,sA,sB,sC])
    refine x0l (by kernel_rfl) ?_ _
    go_wp2
    exact bodyPost_ret (v:=.tuple #[.agg #[.int .i64 1,.string (s.extract k i),.slice none 0 0],.nilIface]) (by simp[results,Tryz.results220,go_sem,r0,r1,r2,rf0,rf1,rf2]) rfl ⟨by rw[HIM.o],by
     have hT:=HP.o.1.pure HW9.o
     unfold TB at hT ⊢
     rw[<- HIM.o]
     exact(((set3U _ w.heap.size _ _ _).drew).block _ ntb hne).trans hT,by
     refine Upd.trans (S':=fun q=>q=w.heap.size) (((hT1.tt HU1.o).mono (fun _ _ h=>h.elim)).trans (HP.o.2.trans HW9.o (fun _ _ h=>h.elim)) (fun q hq h=>h)) ?_ (fun q hq h=>absurd h (by omega))
     first | exact(set3U _ w.heap.size _ _ _).drew | exact((set3U _ w.heap.size _ _ _).drew).drew⟩
   ·have hl2:decide (i < s.size)=false:=by simp;omega
    have hl3:decide ((i:Int) < (s.size:Int))=false:=by simp;omega
    have hl1:¬ ((i:Int) < (s.size:Int)):=by omega
    have HIM:=mK him
    clear him
    go_wp2
    refine wp_region_held_drew (S:=(fun v=>v.cell? ⟨tb,0,none⟩=some (.string s)/\v.cell? ⟨tb,1,none⟩=some (.int .i64 i))) (by kernel_rfl) ?_ (fun hHeld=>?_)
    ·exact⟨c0d,c1d⟩
    refine zH 0 ?_
    refine zH 1 ?_
    refine zH 2 ?_
    refine zH 3 ?_
    refine zH 4 ?_
    refine zH 5 ?_
    (try simp only[Act.put,sA,sB,sC])
    refine zH 6 ?_
    refine zH 7 ?_
    refine zH 8 ?_
    refine zH 9 ?_
    (try simp only[Act.put,sA,sB,sC])
    refine zH 10 ?_
    refine sH 11 ?_
    refine sH 12 ?_
    refine sH 13 ?_
    (try simp only[Act.put,sA,sB,sC])
    refine sH 14 ?_
    refine sH 15 ?_
    refine sH 16 ?_
    refine sH 17 ?_
    (try simp only[Act.put,sA,sB,sC])
    refine sH 18 ?_
    refine sH 19 ?_
    refine sH 20 ?_
    refine sH 21 ?_
    (try simp only[Act.put,sA,sB,sC])
    refine sH 22 ?_
    refine sH 23 ?_
    refine sH 24 ?_
    refine sH 25 ?_
    (try simp only[Act.put,sA,sB,sC])
    refine zH 26 ?_
    refine wpAnyH_done (by kernel_rfl) ?_ _
    have HW9:=mK (Upd.refl (fun _=>False) wr)
    obtain⟨⟨n0,n1⟩,nf1,ntb⟩:=(HP.o.1.pure HW9.o).cells
    have hrb:wr.heap[w.heap.size]?=some (.cells #[.int .i64 0,.string ⟨#[]⟩,.slice none 0 0] 92 (0,0)):=((HW9.o.block _ (by have:=HP.o.2.size;have:=(lB HRB.o);omega) (fun h=>h)).trans (HP.o.2.block _ (lB HRB.o) (by omega))).trans HRB.o
    obtain⟨⟨r0,r1,r2⟩,⟨rf0,rf1,rf2⟩,hrl⟩:=x11 hrb
    have n0d:wr.drew.drew.cell? ⟨tb,0,none⟩=some (.string s):=n0
    have n1d:wr.drew.drew.cell? ⟨tb,1,none⟩=some (.int .i64 i):=n1
    have hne:¬ tb=w.heap.size:=by omega
    go_wp2
    refine x0m (P:=Tryz.prog) (fun v=>(v.cell? ⟨tb,0,none⟩=some (.string s)/\v.cell? ⟨tb,1,none⟩=some (.int .i64 i))/\v.frozen? ⟨w.heap.size,0,none⟩=false/\v.frozen? ⟨w.heap.size,1,none⟩=false/\v.frozen? ⟨w.heap.size,2,none⟩=false) 12 (by kernel_rfl) ?_ (fun hHeld=>?_)
    ·first | exact⟨⟨((set3U _ w.heap.size _ _ _).cell ntb hne).trans n0d,((set3U _ w.heap.size _ _ _).cell ntb hne).trans n1d⟩,by simp[World.frozen?_setCell,rf0],by simp[World.frozen?_setCell,rf1],by simp[World.frozen?_setCell,rf2]⟩ | exact⟨⟨n0d,n1d⟩,rf0,rf1,rf2⟩
    refine zT 0 ?_
    refine zT 1 ?_
    refine zT 2 ?_
    (try simp only[Act.put,sA,sB,sC])
    refine zT 3 ?_
    refine zT 4 ?_
    refine zT 5 ?_
    refine zT 6 ?_
    (try simp only[Act.put,sA,sB,sC])
    refine zT 7 ?_
    refine zT 8 ?_
    refine zT 9 ?_
    refine zT 10 ?_
    (try simp only[Act.put,sA,sB,sC])
    refine oT 11 (fun K hK=>?_)
    go_simp
    refine hK.out _ _ (fun _=>by first | exact⟨⟨((set3U _ w.heap.size _ _ _).cell ntb hne).trans n0d,((set3U _ w.heap.size _ _ _).cell ntb hne).trans n1d⟩,by simp[World.frozen?_setCell,rf0],by simp[World.frozen?_setCell,rf1],by simp[World.frozen?_setCell,rf2]⟩ | exact⟨⟨n0d,n1d⟩,rf0,rf1,rf2⟩) (fun hHeld=>?_)
    replace hHeld:=hHeld (by decide)
    clear hK K
    (try simp only[Act.put,sA,sB,sC])
    refine oT 12 (fun K hK=>?_)
    go_simp
    refine hK.out _ _ (fun h=>absurd rfl h) (fun hHeld=>?_)
    clear hK K
    (try simp only[Act.put,sA,sB,sC])
    refine x0l (by kernel_rfl) ?_ _
    go_wp2
    exact bodyPost_ret (v:=.tuple #[.agg #[.int .i64 1,.string (s.extract k i),.slice none 0 0],.nilIface]) (by simp[results,Tryz.results220,go_sem,r0,r1,r2,rf0,rf1,rf2]) rfl ⟨by rw[HIM.o],by
     have hT:=HP.o.1.pure HW9.o
     unfold TB at hT ⊢
     rw[<- HIM.o]
     exact(((set3U _ w.heap.size _ _ _).drew).block _ ntb hne).trans hT,by
     refine Upd.trans (S':=fun q=>q=w.heap.size) (((hT1.tt HU1.o).mono (fun _ _ h=>h.elim)).trans (HP.o.2.trans HW9.o (fun _ _ h=>h.elim)) (fun q hq h=>h)) ?_ (fun q hq h=>absurd h (by omega))
     first | exact(set3U _ w.heap.size _ _ _).drew | exact((set3U _ w.heap.size _ _ _).drew).drew⟩
theorem part_name {tb m:Nat} {s:ByteArray} {kk:Int} (h:TB w tb s 0) (hn:x2r s m kk) :
 Calls Tryz.prog 217 #[.pointer (some ⟨tb,0,none⟩)] w fun r w'=>∃ nb,r=.returned (.tuple #[.agg #[.int .i64 kk,.string ⟨#[]⟩,.slice (some ⟨nb,0,none⟩) 1 1],.nilIface])/\NameB w' nb (s.extract 0 m)/\w.heap.size<=nb/\TB w' tb s s.size/\Upd (fun q=>q=tb) w w':=by
 have HN:=mK hn
 have hms:=hn.nm.le
 have hm0:=hn.nm.lt
 have hlen:=hn.len
 have hsm:=hn.nm.small
 have htb:=h.cells.2.2
 have hT1:Pure w (w.alloc (.cells #[.int .i64 0,.string ⟨#[]⟩,.slice none 0 0] 92)):=Upd.alloc1 _ _ _
 obtain⟨a1,a2,a3⟩:=hn.c0 (by omega)
 have HAT:=mK (atom_name (h.pure hT1) hn.nm (by omega) a1 a2 a3)
 have hsgn:=hn.sg (by omega)
 have HT1:=mK hT1
 obtain⟨cm,hcm⟩:∃ c:Int,c=(s[m]'(by omega)).toNat:=⟨_,rfl⟩
 rw[<- hcm] at hsgn
 have hc32:((s[m]'(by omega)) == 32)=false:=by
  rw[beq_eq_false_iff_ne]
  intro e
  rw[e] at hcm
  have:cm=32:=hcm
  omega
 have HNA:=mK (fun (W:World) (hT:TB W tb s m)=>next_at hT (by omega:m < s.size) hc32 (by omega) hsm)
 have HNE:=mK (fun (W:World) (hT:TB W tb s s.size)=>next_end hT hsm)
 have HSG:=mK (fun W=>sign_is (c:=cm) (kk:=kk) (by omega) W)
 have HS0:=mK (fun W=>sign_is (c:=0) (kk:=0) (by omega) W)
 have HCM:=mK hcm
 have hkk:(kk == 0)=false:=by simp;omega
 clear h hn hT1 a1 a2 a3 hcm hc32 hsgn
 go_enter Tryz.func217,Tryz.ntmps217
 go_wp2_with (go_at_call 220;refine HAT.o.mono ?_;rintro e w1 ⟨rfl,hT,hu⟩;have HTB:=mK hT;have HU1:=mK hu;clear hT hu;apply As.o)
 refine⟨?_⟩
 have hz1:=HU1.o.size
 have hrb1:=(HU1.o.block w.heap.size (by simp) (by omega)).trans (heap_alloc_new w _)
 have HRB:=mK hrb1
 simp at hz1
 have hp01:Upd (fun q=>q=tb) w w1:=(HT1.o.mono (fun _ _ h=>h.elim)).trans HU1.o (fun q hq h=>h)
 have HP01:=mK hp01
 clear hrb1 hp01
 have hne1:¬ tb=w1.heap.size:=by omega
 have hne2:¬ w.heap.size=w1.heap.size:=by omega
 have hne3:¬ w1.heap.size=tb:=by omega
 have hm1:IntKind.i64.wrap ((m:Int)+1)=(m:Int)+1:=by rw[IntKind.wrap_i64];omega
 go_wp2
 go_loopg [] 1 (fun g wr=>(g=1/\As (wr=w1.alloc (.cells #[.int .i64 1,.string (s.extract 0 m),.slice none 0 0] 92)))\/(g=0/\∃ nb,As (PartR w tb s m kk w1.heap.size nb wr)))
 case atStart=>exact .inl ⟨rfl,⟨rfl⟩⟩
 case round=>
  rcases hrel with ⟨rfl,HW⟩ | ⟨rfl,nb,HR⟩
  ·obtain rfl:=HW.o
   have heb:=heap_alloc_new w1 (.cells #[.int .i64 1,.string (s.extract 0 m),.slice none 0 0] 92)
   have HEB:=mK heb
   have HTW:=mK (HTB.o.pure (Upd.alloc1 (fun _=>False) w1 (.cells #[.int .i64 1,.string (s.extract 0 m),.slice none 0 0] 92)))
   clear heb
   go_wp2_with (go_at_call 179;refine(HNA.o _ HTW.o).mono ?_;rintro e w2 ⟨rfl,hu⟩;rw[<- HCM.o];have HU2:=mK hu;clear hu;apply As.o)
   refine⟨?_⟩
   obtain⟨⟨c0,c1⟩,f1,htb2⟩:=(HTW.o.pure HU2.o).cells
   have hz2:=HU2.o.size
   simp at hz2
   have heb2:=(HU2.o.block w1.heap.size (by simp) (fun h=>h)).trans HEB.o
   obtain⟨⟨e0,e1,e2⟩,⟨ef0,ef1,ef2⟩,hel⟩:=x11 heb2
   have HEB2:=mK heb2
   clear heb2
   go_wp2_with (go_at_call 221;refine(HSG.o _).mono ?_;rintro e w3 ⟨rfl,rfl⟩)
   go_roundg 0
   case measure=>omega
   case rel=>
    have hT3:=(HTW.o.pure HU2.o).set (m+1)
    have hrb2:=(HU2.o.block w.heap.size (by simp;omega) (fun h=>h)).trans ((Below.heap_alloc w1 _ w.heap.size (by omega)).trans HRB.o)
    have hup2:Upd (fun q=>q=tb) w w2:=HP01.o.trans ((Upd.alloc1 (fun _=>False) w1 _).tt HU2.o) (fun _ _ h=>h.elim)
    have hstep:=part_step (kk:=kk) hT3 (HEB2.o) (by omega:tb ≠ w1.heap.size) (s.extract 0 m)
    have hz5:(((((w2.setCell ⟨tb,1,none⟩ (.int .i64 ((m+1:Nat):Int))).setCell ⟨w1.heap.size,0,none⟩ (.int .i64 kk)).setCell ⟨w1.heap.size,1,none⟩ (.string ⟨#[]⟩)).setCell ⟨w1.heap.size,2,none⟩ (.slice (some ⟨w2.heap.size,0,none⟩) 1 1))).heap.size=w2.heap.size:=by simp[World.setCell]
    obtain⟨p1,p2,p3,p4⟩:=hstep
    refine .inr ⟨rfl,w2.heap.size,⟨⟨by rw[<- hlen];exact p1,p2,by omega,p3,?_,?_⟩⟩⟩
    ·exact(p4.block w.heap.size (by omega) (by omega)).trans hrb2
    ·exact hup2.trans p4 (fun q hq h=>by omega)
  ·have HTW:=mK HR.o.ht
   go_wp2_with (go_at_call 179;refine(HNE.o _ HTW.o).mono ?_;rintro e w2 ⟨rfl,hu⟩;have HU2:=mK hu;clear hu;apply As.o)
   refine⟨?_⟩
   have heb2:=(HU2.o.block w1.heap.size (lB HR.o.eb) (fun h=>h)).trans HR.o.eb
   obtain⟨⟨e0,e1,e2⟩,⟨ef0,ef1,ef2⟩,hel⟩:=x11 heb2
   have hrb2:=(HU2.o.block w.heap.size (lB HR.o.rb) (fun h=>h)).trans HR.o.rb
   obtain⟨⟨r0,r1,r2⟩,⟨rf0,rf1,rf2⟩,hrl⟩:=x11 hrb2
   clear heb2 hrb2
   go_wp2_with (go_at_call 221;refine(HS0.o _).mono ?_;rintro e w3 ⟨rfl,rfl⟩)
   exact bodyPost_ret (v:=.tuple #[.agg #[.int .i64 kk,.string ⟨#[]⟩,.slice (some ⟨nb,0,none⟩) 1 1],.nilIface]) (by simp[results,Tryz.results217,go_sem,r0,r1,r2,rf0,rf1,rf2]) rfl ⟨nb,rfl,by
    have hnb:=lB HR.o.nm
    exact(((set3U w2 w.heap.size _ _ _).block nb (Nat.lt_of_lt_of_le hnb HU2.o.size) (by have:=HR.o.le;omega)).trans ((HU2.o.block nb hnb (fun h=>h)).trans HR.o.nm)),by have:=HR.o.le;omega,by
    have hT:=HR.o.ht.pure HU2.o
    exact((set3U w2 w.heap.size _ _ _).block tb hT.cells.2.2 (by omega)).trans hT,(HR.o.up.trans HU2.o (fun _ _ h=>h.elim)).trans (set3U w2 w.heap.size _ _ _) (fun q hq h=>absurd h (by omega))⟩
theorem someRow {tb m mb:Nat} {s:ByteArray} {kk:Int} (h:TB w tb s 0) (hn:x2r s m kk) (hc:w.cell? ⟨mb,0,none⟩=some (.pointer (some ⟨tb,0,none⟩))) (hmb:mb < w.heap.size) (hne:mb ≠ tb) :
 Calls Tryz.prog 208 #[.pointer (some ⟨tb,0,none⟩),.int .i64 2,.func (.func 217) #[.pointer (some ⟨tb,0,none⟩)] #[],.func (.func 218) #[] #[.pointer (some ⟨mb,0,none⟩)]] w (PartPost w tb s m kk):=by
 have hsm:=hn.nm.small
 have hsgn:=hn.sg (by have:=hn.len;omega)
 have htb:=h.cells.2.2
 have hkk:(kk == 2)=false:=by simp;omega
 have hT1:Pure w ((w.alloc (.cells #[.int .i64 0,.string ⟨#[]⟩,.slice none 0 0] 92)).alloc (.cells #[.int .i64 2,.string ⟨#[]⟩,.slice none 0 0] 92)):=aU.alloc _
 have HT1:=mK hT1
 have HPT:=mK (part_name (h.pure hT1) hn)
 have hrb0:=(Below.heap_alloc (w.alloc (.cells #[.int .i64 0,.string ⟨#[]⟩,.slice none 0 0] 92)) (.cells #[.int .i64 2,.string ⟨#[]⟩,.slice none 0 0] 92) w.heap.size (by simp)).trans (heap_alloc_new w _)
 have hkb0:=heap_alloc_new (w.alloc (.cells #[.int .i64 0,.string ⟨#[]⟩,.slice none 0 0] 92)) (.cells #[.int .i64 2,.string ⟨#[]⟩,.slice none 0 0] 92)
 rw[show (w.alloc (.cells #[.int .i64 0,.string ⟨#[]⟩,.slice none 0 0] 92)).heap.size=w.heap.size+1 by simp] at hkb0
 have HRB:=mK hrb0
 have HKB:=mK hkb0
 have HMR:=mK (fun (W:World) (h:TB W tb s s.size) (hc:W.cell? ⟨mb,0,none⟩=some (.pointer (some ⟨tb,0,none⟩)))=>moreRow h hc hsm)
 have HC:=mK hc
 clear h hn hT1 hrb0 hkb0 hsgn hc
 go_enter Tryz.func208,Tryz.ntmps208
 go_wp2
 go_loopg [11] 0 (fun g n wr=>n=.int .i64 0/\As (wr=(w.alloc (.cells #[.int .i64 0,.string ⟨#[]⟩,.slice none 0 0] 92)).alloc (.cells #[.int .i64 2,.string ⟨#[]⟩,.slice none 0 0] 92)))
 case atStart=>exact⟨rfl,⟨rfl⟩⟩
 case round=>
  obtain⟨rfl,HW⟩:=hrel
  obtain rfl:=HW.o
  go_wp2_with (go_at_call 217;refine HPT.o.mono ?_;rintro e w1 ⟨nb,rfl,hnm,hnb,hT,hu⟩;have HNM:=mK hnm;have HT:=mK hT;have HU1:=mK hu;clear hnm hT hu;apply As.o)
  refine⟨?_⟩
  simp at hnb
  have hz1:=HU1.o.size
  simp at hz1
  have hnbl:=lB HNM.o
  have hrb1:=(HU1.o.block w.heap.size (by simp;omega) (by omega)).trans HRB.o
  have hkb1:=(HU1.o.block (w.heap.size+1) (by simp) (by omega)).trans HKB.o
  have HRB1:=mK hrb1
  have HKB1:=mK hkb1
  obtain⟨⟨r0,r1,r2⟩,⟨rf0,rf1,rf2⟩,hrl⟩:=x11 hrb1
  obtain⟨⟨k0,k1,k2⟩,⟨kf0,kf1,kf2⟩,hkl⟩:=x11 hkb1
  have HP3:As (Upd (fun q=>q=tb) w w1):=⟨(HT1.o.mono (fun _ _ h=>h.elim)).tt HU1.o⟩
  have HEB:=mK (heap_alloc_new w1 (.cells #[.int .i64 kk,.string ⟨#[]⟩,.slice (some ⟨nb,0,none⟩) 1 1] 92))
  clear hrb1 hkb1
  have HREP:As (exR.rep (w1.alloc (.cells #[.int .i64 kk,.string ⟨#[]⟩,.slice (some ⟨nb,0,none⟩) 1 1] 92)) (fun q=>q=nb) (.mk kk ⟨#[]⟩ [.mk 1 (s.extract 0 m) []]) [.int .i64 kk,.string ⟨#[]⟩,.slice (some ⟨nb,0,none⟩) 1 1]):=⟨name_rep ((Below.heap_alloc w1 _ nb hnbl).trans HNM.o) rfl⟩
  go_wp2_with (at_builtin;refine Rp.x0o exR (Rp.x0v exR _ _ (fun _=>False)) _ _ HREP.o (G:=fun _=>True) (fun _ _ _=>⟨trivial,by simp[Value.ownBlock]⟩) (fun _ h=>h.elim) (fun _ _=>trivial) rfl _ _ 90 _ 48 rfl Tryz.underlying90 ex_info rfl (by decide) (by decide) rfl (by simp[Act.eval]) (by simp) ?_;intro v1 w2 ho1 hu1;have HO1:=mK ho1;have HU2:=mK (show Pure (w1.alloc (.cells #[.int .i64 kk,.string ⟨#[]⟩,.slice (some ⟨nb,0,none⟩) 1 1] 92)) w2 from hu1.mono (fun _ _ h=>by simp[Value.ownBlock] at h));clear ho1 hu1;apply As.o)
  refine⟨?_⟩
  obtain⟨A2,c2,rfl,_,_⟩:=Rp.x0c HO1.o
  have hz2:=HU2.o.size
  simp at hz2
  clear r0 r1 r2 rf0 rf1 rf2 k0 k1 k2 kf0 kf1 kf2
  have hP2:Pure w1 w2:=(Upd.alloc1 (fun _=>False) w1 _).tt HU2.o
  have hrb2:=(hP2.block w.heap.size (by omega) (fun h=>h)).trans HRB1.o
  have hkb2:=(hP2.block (w.heap.size+1) (by omega) (fun h=>h)).trans HKB1.o
  have heb2:=(HU2.o.block w1.heap.size (by simp) (fun h=>h)).trans HEB.o
  have HT2:=mK (HT.o.pure hP2)
  have hc2:w2.cell? ⟨mb,0,none⟩=some (.pointer (some ⟨tb,0,none⟩)):=(hP2.cell (by omega) (fun h=>h)).trans ((HP3.o.cell (by omega) (by omega)).trans HC.o)
  have hne1:¬ tb=w.heap.size+1:=by omega
  have hne2:¬ mb=w.heap.size+1:=by omega
  have HT3:As (∀ u,TB (w2.setCell ⟨w.heap.size+1,2,none⟩ u) tb s s.size):=⟨fun u=>(Below.heap_setCell w2 ⟨w.heap.size+1,2,none⟩ u tb hne1).trans HT2.o⟩
  have HC3:As (∀ u,(w2.setCell ⟨w.heap.size+1,2,none⟩ u).cell? ⟨mb,0,none⟩=some (.pointer (some ⟨tb,0,none⟩))):=⟨fun u=>(World.cell?_of_block (Below.heap_setCell w2 ⟨w.heap.size+1,2,none⟩ u mb hne2)).trans hc2⟩
  have HRB2:=mK hrb2
  have HEB2:=mK heb2
  have HP12:=mK hP2
  have HNM2:As (NameB w2 nb (s.extract 0 m)):=⟨(hP2.block nb hnbl (fun h=>h)).trans HNM.o⟩
  obtain⟨⟨k0,k1,k2⟩,⟨kf0,kf1,kf2⟩,hkl⟩:=x11 hkb2
  clear hrb2 hkb2 heb2 hP2 hc2
  go_wp2_with (go_at_call 218;refine(HMR.o _ (HT3.o _) (HC3.o _)).mono ?_;rintro e w4 ⟨rfl,hu⟩;have HU4:=mK (show Pure (w2.setCell ⟨w.heap.size+1,2,none⟩ _) w4 from hu);clear hu;apply As.o)
  refine⟨?_⟩
  have hsz3:∀ u,(w2.setCell ⟨w.heap.size+1,2,none⟩ u).heap.size=w2.heap.size:=fun u=>by simp[World.setCell]
  have hU24:Upd (fun q=>q=w.heap.size+1) w2 w4:=(Upd.x1v (S:=fun q=>q=w.heap.size+1) w2 (p:=⟨w.heap.size+1,2,none⟩) rfl _).trans HU4.o (fun _ _ h=>h.elim)
  have hrb4:=(hU24.block w.heap.size (lB HRB2.o) (by omega)).trans HRB2.o
  have heb4:=(hU24.block w1.heap.size (lB HEB2.o) (by omega)).trans HEB2.o
  obtain⟨⟨r0,r1,r2⟩,⟨rf0,rf1,rf2⟩,hrl⟩:=x11 hrb4
  obtain⟨⟨e0,e1,e2⟩,⟨ef0,ef1,ef2⟩,hel⟩:=x11 heb4
  have HU24:=mK hU24
  clear k0 k1 k2 kf0 kf1 kf2 hrb4 heb4 hU24
  go_wp2
  exact bodyPost_ret (v:=.tuple #[.agg #[.int .i64 kk,.string ⟨#[]⟩,.slice (some ⟨nb,0,none⟩) 1 1],.nilIface]) (by simp[results,Tryz.results208,go_sem,r0,r1,r2,rf0,rf1,rf2]) rfl ⟨nb,rfl,by
   have hnb2:=lB HNM2.o
   exact((set3U w4 w.heap.size _ _ _).block nb (Nat.lt_of_lt_of_le hnb2 HU24.o.size) (by omega)).trans ((HU24.o.block nb hnb2 (by omega)).trans HNM2.o),by omega,by
   have hT4:TB w4 tb s s.size:=(HU24.o.block tb HT2.o.cells.2.2 (by omega)).trans HT2.o
   exact((set3U w4 w.heap.size _ _ _).block tb hT4.cells.2.2 (by omega)).trans hT4,by
   exact(((HP3.o.trans HP12.o (fun _ _ h=>h.elim)).trans HU24.o (fun q hq h=>absurd h (by omega))).trans (set3U w4 w.heap.size _ _ _) (fun q hq h=>absurd h (by omega)))⟩
theorem row_name {tb m:Nat} {s:ByteArray} {kk:Int} (h:TB w tb s 0) (hn:x2r s m kk):Calls Tryz.prog 207 #[.pointer (some ⟨tb,0,none⟩)] w (PartPost w tb s m kk):=by
 have hsm:=hn.nm.small
 have htb:=h.cells.2.2
 have hT1:Pure w ((w.alloc (.cells #[.pointer (some ⟨tb,0,none⟩)] 205)).alloc (.cells #[.int .i64 0,.string ⟨#[]⟩,.slice none 0 0] 92)):=aU.alloc _
 have HT1:=mK hT1
 have hb0:=(Below.heap_alloc (w.alloc (.cells #[.pointer (some ⟨tb,0,none⟩)] 205)) (.cells #[.int .i64 0,.string ⟨#[]⟩,.slice none 0 0] 92) w.heap.size (by simp)).trans (heap_alloc_new w _)
 have hc:((w.alloc (.cells #[.pointer (some ⟨tb,0,none⟩)] 205)).alloc (.cells #[.int .i64 0,.string ⟨#[]⟩,.slice none 0 0] 92)).cell? ⟨w.heap.size,0,none⟩=some (.pointer (some ⟨tb,0,none⟩)):=by unfold World.cell?;simp only[hb0];rfl
 have HSM:=mK (someRow (mb:=w.heap.size) (h.pure hT1) hn hc (by simp;omega) (by omega))
 have hrb0:=heap_alloc_new (w.alloc (.cells #[.pointer (some ⟨tb,0,none⟩)] 205)) (.cells #[.int .i64 0,.string ⟨#[]⟩,.slice none 0 0] 92)
 rw[show (w.alloc (.cells #[.pointer (some ⟨tb,0,none⟩)] 205)).heap.size=w.heap.size+1 by simp] at hrb0
 have HRB:=mK hrb0
 clear h hn hT1 hb0 hc hrb0
 go_enter Tryz.func207,Tryz.ntmps207
 go_wp2_with (go_at_call 208;refine HSM.o.mono ?_;rintro e w1 ⟨nb,rfl,hnm,hnb,hT,hu⟩;have HNM:=mK hnm;have HT:=mK hT;have HU1:=mK hu;clear hnm hT hu;apply As.o)
 refine⟨?_⟩
 simp at hnb
 have hrb1:=(HU1.o.block (w.heap.size+1) (by simp) (by omega)).trans HRB.o
 obtain⟨⟨r0,r1,r2⟩,⟨rf0,rf1,rf2⟩,hrl⟩:=x11 hrb1
 clear hrb1
 go_wp2
 exact bodyPost_ret (v:=.tuple #[.agg #[.int .i64 kk,.string ⟨#[]⟩,.slice (some ⟨nb,0,none⟩) 1 1],.nilIface]) (by simp[results,Tryz.results207,go_sem,r0,r1,r2,rf0,rf1,rf2]) rfl ⟨nb,rfl,by
  have hnb2:=lB HNM.o
  exact((set3U w1 (w.heap.size+1) _ _ _).block nb hnb2 (by omega)).trans HNM.o,by omega,by
  exact((set3U w1 (w.heap.size+1) _ _ _).block tb HT.o.cells.2.2 (by omega)).trans HT.o,by
  exact((HT1.o.mono (fun _ _ h=>h.elim)).tt HU1.o).trans (set3U w1 (w.heap.size+1) _ _ _) (fun q hq h=>absurd h (by omega))⟩
theorem someChoice {tb m mb:Nat} {s:ByteArray} {kk:Int} (h:TB w tb s 0) (hn:x2r s m kk) (hc:w.cell? ⟨mb,0,none⟩=some (.pointer (some ⟨tb,0,none⟩))) (hmb:mb < w.heap.size) (hne:mb ≠ tb) :
 Calls Tryz.prog 208 #[.pointer (some ⟨tb,0,none⟩),.int .i64 3,.func (.func 207) #[.pointer (some ⟨tb,0,none⟩)] #[],.func (.func 209) #[] #[.pointer (some ⟨mb,0,none⟩)]] w (PartPost w tb s m kk):=by
 have hsm:=hn.nm.small
 have hsgn:=hn.sg (by have:=hn.len;omega)
 have htb:=h.cells.2.2
 have hkk:(kk == 3)=false:=by simp;omega
 have hT1:Pure w ((w.alloc (.cells #[.int .i64 0,.string ⟨#[]⟩,.slice none 0 0] 92)).alloc (.cells #[.int .i64 3,.string ⟨#[]⟩,.slice none 0 0] 92)):=aU.alloc _
 have HT1:=mK hT1
 have HPT:=mK (row_name (h.pure hT1) hn)
 have hrb0:=(Below.heap_alloc (w.alloc (.cells #[.int .i64 0,.string ⟨#[]⟩,.slice none 0 0] 92)) (.cells #[.int .i64 3,.string ⟨#[]⟩,.slice none 0 0] 92) w.heap.size (by simp)).trans (heap_alloc_new w _)
 have hkb0:=heap_alloc_new (w.alloc (.cells #[.int .i64 0,.string ⟨#[]⟩,.slice none 0 0] 92)) (.cells #[.int .i64 3,.string ⟨#[]⟩,.slice none 0 0] 92)
 rw[show (w.alloc (.cells #[.int .i64 0,.string ⟨#[]⟩,.slice none 0 0] 92)).heap.size=w.heap.size+1 by simp] at hkb0
 have HRB:=mK hrb0
 have HKB:=mK hkb0
 have HMR:=mK (fun (W:World) (h:TB W tb s s.size) (hc:W.cell? ⟨mb,0,none⟩=some (.pointer (some ⟨tb,0,none⟩)))=>moreChoice h hc hsm)
 have HC:=mK hc
 clear h hn hT1 hrb0 hkb0 hsgn hc
 go_enter Tryz.func208,Tryz.ntmps208
 go_wp2
 go_loopg [11] 0 (fun g n wr=>n=.int .i64 0/\As (wr=(w.alloc (.cells #[.int .i64 0,.string ⟨#[]⟩,.slice none 0 0] 92)).alloc (.cells #[.int .i64 3,.string ⟨#[]⟩,.slice none 0 0] 92)))
 case atStart=>exact⟨rfl,⟨rfl⟩⟩
 case round=>
  obtain⟨rfl,HW⟩:=hrel
  obtain rfl:=HW.o
  go_wp2_with (go_at_call 207;refine HPT.o.mono ?_;rintro e w1 ⟨nb,rfl,hnm,hnb,hT,hu⟩;have HNM:=mK hnm;have HT:=mK hT;have HU1:=mK hu;clear hnm hT hu;apply As.o)
  refine⟨?_⟩
  simp at hnb
  have hz1:=HU1.o.size
  simp at hz1
  have hnbl:=lB HNM.o
  have hrb1:=(HU1.o.block w.heap.size (by simp;omega) (by omega)).trans HRB.o
  have hkb1:=(HU1.o.block (w.heap.size+1) (by simp) (by omega)).trans HKB.o
  have HRB1:=mK hrb1
  have HKB1:=mK hkb1
  obtain⟨⟨r0,r1,r2⟩,⟨rf0,rf1,rf2⟩,hrl⟩:=x11 hrb1
  obtain⟨⟨k0,k1,k2⟩,⟨kf0,kf1,kf2⟩,hkl⟩:=x11 hkb1
  have HP3:As (Upd (fun q=>q=tb) w w1):=⟨(HT1.o.mono (fun _ _ h=>h.elim)).tt HU1.o⟩
  have HEB:=mK (heap_alloc_new w1 (.cells #[.int .i64 kk,.string ⟨#[]⟩,.slice (some ⟨nb,0,none⟩) 1 1] 92))
  clear hrb1 hkb1
  have HREP:As (exR.rep (w1.alloc (.cells #[.int .i64 kk,.string ⟨#[]⟩,.slice (some ⟨nb,0,none⟩) 1 1] 92)) (fun q=>q=nb) (.mk kk ⟨#[]⟩ [.mk 1 (s.extract 0 m) []]) [.int .i64 kk,.string ⟨#[]⟩,.slice (some ⟨nb,0,none⟩) 1 1]):=⟨name_rep ((Below.heap_alloc w1 _ nb hnbl).trans HNM.o) rfl⟩
  go_wp2_with (at_builtin;refine Rp.x0o exR (Rp.x0v exR _ _ (fun _=>False)) _ _ HREP.o (G:=fun _=>True) (fun _ _ _=>⟨trivial,by simp[Value.ownBlock]⟩) (fun _ h=>h.elim) (fun _ _=>trivial) rfl _ _ 90 _ 48 rfl Tryz.underlying90 ex_info rfl (by decide) (by decide) rfl (by simp[Act.eval]) (by simp) ?_;intro v1 w2 ho1 hu1;have HO1:=mK ho1;have HU2:=mK (show Pure (w1.alloc (.cells #[.int .i64 kk,.string ⟨#[]⟩,.slice (some ⟨nb,0,none⟩) 1 1] 92)) w2 from hu1.mono (fun _ _ h=>by simp[Value.ownBlock] at h));clear ho1 hu1;apply As.o)
  refine⟨?_⟩
  obtain⟨A2,c2,rfl,_,_⟩:=Rp.x0c HO1.o
  have hz2:=HU2.o.size
  simp at hz2
  clear r0 r1 r2 rf0 rf1 rf2 k0 k1 k2 kf0 kf1 kf2
  have hP2:Pure w1 w2:=(Upd.alloc1 (fun _=>False) w1 _).tt HU2.o
  have hrb2:=(hP2.block w.heap.size (by omega) (fun h=>h)).trans HRB1.o
  have hkb2:=(hP2.block (w.heap.size+1) (by omega) (fun h=>h)).trans HKB1.o
  have heb2:=(HU2.o.block w1.heap.size (by simp) (fun h=>h)).trans HEB.o
  have HT2:=mK (HT.o.pure hP2)
  have hc2:w2.cell? ⟨mb,0,none⟩=some (.pointer (some ⟨tb,0,none⟩)):=(hP2.cell (by omega) (fun h=>h)).trans ((HP3.o.cell (by omega) (by omega)).trans HC.o)
  have hne1:¬ tb=w.heap.size+1:=by omega
  have hne2:¬ mb=w.heap.size+1:=by omega
  have HT3:As (∀ u,TB (w2.setCell ⟨w.heap.size+1,2,none⟩ u) tb s s.size):=⟨fun u=>(Below.heap_setCell w2 ⟨w.heap.size+1,2,none⟩ u tb hne1).trans HT2.o⟩
  have HC3:As (∀ u,(w2.setCell ⟨w.heap.size+1,2,none⟩ u).cell? ⟨mb,0,none⟩=some (.pointer (some ⟨tb,0,none⟩))):=⟨fun u=>(World.cell?_of_block (Below.heap_setCell w2 ⟨w.heap.size+1,2,none⟩ u mb hne2)).trans hc2⟩
  have HRB2:=mK hrb2
  have HEB2:=mK heb2
  have HP12:=mK hP2
  have HNM2:As (NameB w2 nb (s.extract 0 m)):=⟨(hP2.block nb hnbl (fun h=>h)).trans HNM.o⟩
  obtain⟨⟨k0,k1,k2⟩,⟨kf0,kf1,kf2⟩,hkl⟩:=x11 hkb2
  clear hrb2 hkb2 heb2 hP2 hc2
  go_wp2_with (go_at_call 209;refine(HMR.o _ (HT3.o _) (HC3.o _)).mono ?_;rintro e w4 ⟨rfl,hu⟩;have HU4:=mK (show Pure (w2.setCell ⟨w.heap.size+1,2,none⟩ _) w4 from hu);clear hu;apply As.o)
  refine⟨?_⟩
  have hsz3:∀ u,(w2.setCell ⟨w.heap.size+1,2,none⟩ u).heap.size=w2.heap.size:=fun u=>by simp[World.setCell]
  have hU24:Upd (fun q=>q=w.heap.size+1) w2 w4:=(Upd.x1v (S:=fun q=>q=w.heap.size+1) w2 (p:=⟨w.heap.size+1,2,none⟩) rfl _).trans HU4.o (fun _ _ h=>h.elim)
  have hrb4:=(hU24.block w.heap.size (lB HRB2.o) (by omega)).trans HRB2.o
  have heb4:=(hU24.block w1.heap.size (lB HEB2.o) (by omega)).trans HEB2.o
  obtain⟨⟨r0,r1,r2⟩,⟨rf0,rf1,rf2⟩,hrl⟩:=x11 hrb4
  obtain⟨⟨e0,e1,e2⟩,⟨ef0,ef1,ef2⟩,hel⟩:=x11 heb4
  have HU24:=mK hU24
  clear k0 k1 k2 kf0 kf1 kf2 hrb4 heb4 hU24
  go_wp2
  exact bodyPost_ret (v:=.tuple #[.agg #[.int .i64 kk,.string ⟨#[]⟩,.slice (some ⟨nb,0,none⟩) 1 1],.nilIface]) (by simp[results,Tryz.results208,go_sem,r0,r1,r2,rf0,rf1,rf2]) rfl ⟨nb,rfl,by
   have hnb2:=lB HNM2.o
   exact((set3U w4 w.heap.size _ _ _).block nb (Nat.lt_of_lt_of_le hnb2 HU24.o.size) (by omega)).trans ((HU24.o.block nb hnb2 (by omega)).trans HNM2.o),by omega,by
   have hT4:TB w4 tb s s.size:=(HU24.o.block tb HT2.o.cells.2.2 (by omega)).trans HT2.o
   exact((set3U w4 w.heap.size _ _ _).block tb hT4.cells.2.2 (by omega)).trans hT4,by
   exact(((HP3.o.trans HP12.o (fun _ _ h=>h.elim)).trans HU24.o (fun q hq h=>absurd h (by omega))).trans (set3U w4 w.heap.size _ _ _) (fun q hq h=>absurd h (by omega)))⟩
/-- One row of followers grown, and laid anew into the row of rows. -/
theorem Mach.join1 {B:Nat} {M:Nat->Prop} {mb:Nat} {ts fs:List (List Int)} {b0 b1 b2 tv:Value} {fb cap:Nat} {vs:List Value} (h:Mach w B M mb ts fs b0 b1 b2 tv (.slice (some ⟨fb,0,none⟩) fs.length cap) vs)
 {n:Nat} {x:List Int} {u u1:Value} (hx:fs[n]?=some x) (hu:vs[n]?=some u) {first:List Int} {F:Nat->Prop} (ho:intR.own 3 w1 F u1 (x ++ first)) (hU:Upd (fun k=>u.ownBlock=some k) w w1)
 (hat:u1.ownBlock=u.ownBlock\/∃ b,u1.ownBlock=some b/\w.heap.size<=b) :
 Mach (w1.setCell ⟨fb,n,none⟩ u1) B (fun k=>M k\/(w.heap.size<=k/\k < w1.heap.size)) mb ts (fs.modify n (· ++ first)) b0 b1 b2 tv (.slice (some ⟨fb,0,none⟩) (fs.modify n (· ++ first)).length cap) (vs.set n u1) /\
  Upd M w (w1.setCell ⟨fb,n,none⟩ u1):=by
 have hB:B<=w.heap.size:=by have:=h.low mb h.mbM;omega
 have hn:n < fs.length:=(List.getElem?_eq_some_iff.1 hx).1
 obtain⟨hou,huM⟩:=h.foll.each n u x hu hx
 have hfb:M fb:=h.foll.inM fb rfl
 have hufb:∀ k,u.ownBlock=some k->k ≠ fb:=by
  rintro k hk rfl
  obtain⟨inner,h1,_⟩:=hou
  exact own_ne h1 h.foll.own (by decide) k hk rfl
 have hU2:Upd (fun k=>u.ownBlock=some k\/k=fb) w (w1.setCell ⟨fb,n,none⟩ u1):=(hU.mono (fun k _ hk=>.inl hk)).setCell (p:=⟨fb,n,none⟩) (fun _=>.inr rfl) u1
 have hSM:∀ k,(u.ownBlock=some k\/k=fb)->M k:=by
  rintro k (hk | rfl)
  ·exact huM k hk
  ·exact hfb
 have hmbu:u.ownBlock ≠ some mb:=by
  obtain⟨inner,h1,_⟩:=hou
  exact x1j h1 h.blk (by decide)
 have hmbf:mb ≠ fb:=by
  rintro rfl
  exact x1j h.foll.own h.blk (by decide) rfl
 have hsz:(w1.setCell ⟨fb,n,none⟩ u1).heap.size=w1.heap.size:=by simp[World.setCell]
 have hto:∃ ti,w.ownsRow 0 83 1 tv ts.length ti:=by obtain⟨inner,h1,_⟩:=h.types;exact⟨inner,h1⟩
 obtain⟨ti,hto⟩:=hto
 have hmod:∀ i,i ≠ n->(fs.modify n (· ++ first))[i]?=fs[i]?:=fun i hi=>by rw[List.getElem?_modify];simp[Ne.symm hi]
 have hmodn:(fs.modify n (· ++ first))[n]?=some (x ++ first):=by rw[List.getElem?_modify];simp[hx]
 have hvn:n < vs.length:=(List.getElem?_eq_some_iff.1 hu).1
 have hset:∀ i,i ≠ n->(vs.set n u1)[i]?=vs[i]?:=fun i hi=>by rw[List.getElem?_set];simp[Ne.symm hi]
 have hsetn:(vs.set n u1)[n]?=some u1:=by rw[List.getElem?_set];simp[hvn]
 have hu1fb:∀ k,u1.ownBlock=some k->k ≠ fb:=by
  intro k hk
  rcases hat with hat | ⟨b,hb,hle⟩
  ·exact hufb k (hat ▸ hk)
  ·rw[hb] at hk
   injection hk with hk
   have:=(h.low fb hfb).2
   omega
 have hu1M:∀ k,u1.ownBlock=some k->M k\/(w.heap.size<=k/\k < w1.heap.size):=by
  intro k hk
  rcases hat with hat | ⟨b,hb,hle⟩
  ·exact .inl (huM k (hat ▸ hk))
  ·have:=(Rp.x03 ho k hk).2
   rw[hb] at hk
   injection hk with hk
   exact .inr ⟨by omega,this⟩
 refine⟨⟨?_,.inl h.mbM,?_,?_,fun k hk=>.inl (h.typesM k hk),⟨?_,fun k hk=>.inl (h.foll.inM k hk),?_,?_⟩,h.apart⟩,hU2.mono (fun k _ hk=>hSM k hk)⟩
 ·rw[hU2.block mb (h.low mb h.mbM).2 (by rintro (hk | hk);exact hmbu hk;exact hmbf hk),List.length_modify]
  exact h.blk
 ·rintro k (hk | hk)
  ·exact⟨(h.low k hk).1,by rw[hsz];exact Nat.lt_of_lt_of_le (h.low k hk).2 hU.size⟩
  ·exact⟨by omega,by rw[hsz];exact hk.2⟩
 ·refine Rp.x0w h.types hU2 (fun k hl hk hS=>?_)
  rcases hk with hk | hk
  ·have:=(h.low k (hSM k hS)).1
   omega
  ·rcases hS with hS | rfl
   ·obtain⟨inner,h1,_⟩:=hou
    exact own_ne hto h1 (by decide) k hk hS
   ·exact h.apart k hk rfl
 ·rw[List.length_modify]
  obtain⟨inner,h1,_⟩:=hou
  exact x5b (x4e h.foll.own hU (fun k hk hS=>own_ne h.foll.own h1 (by decide) k hk hS)) hn u1
 ·intro i v y hv hy
  by_cases hi:i=n
  ·subst hi
   rw[hsetn] at hv
   rw[hmodn] at hy
   cases hv
   cases hy
   exact⟨x31 (Rp.x0w (x31 ho) (Upd.x1v (S:=fun k=>k=fb) w1 (p:=⟨fb,i,none⟩) rfl u1) (fun k _ hk he=>hu1fb k hk he)),hu1M⟩
  ·rw[hset i hi] at hv
   rw[hmod i hi] at hy
   obtain⟨ho2,hM2⟩:=h.foll.each i v y hv hy
   refine⟨Rp.x0w ho2 hU2 (fun k _ hk hS=>?_),fun k hk=>.inl (hM2 k hk)⟩
   rcases hS with hS | rfl
   ·exact h.foll.two i n v u k hv hu hi hk hS
   ·obtain⟨inner,h1,_⟩:=ho2
    exact own_ne h1 h.foll.own (by decide) k hk rfl
 ·intro i j v v' k hv hv' hij hk
  by_cases hi:i=n
  ·subst hi
   rw[hsetn] at hv
   cases hv
   rw[hset j (Ne.symm hij)] at hv'
   rcases hat with hat | ⟨b,hb,hle⟩
   ·exact h.foll.two i j u v' k hu hv' hij (hat ▸ hk)
   ·rw[hb] at hk
    injection hk with hk
    subst hk
    intro hk'
    have hj:j < fs.length:=by rw[<- (show vs.length=fs.length by simpa using h.foll.own.1)];exact(List.getElem?_eq_some_iff.1 hv').1
    have:=(h.low b ((h.foll.each j v' _ hv' (List.getElem?_eq_getElem hj)).2 b hk')).2
    omega
  ·rw[hset i hi] at hv
   by_cases hj:j=n
   ·subst hj
    rw[hsetn] at hv'
    cases hv'
    rcases hat with hat | ⟨b,hb,hle⟩
    ·rw[hat]
     exact h.foll.two i j v u k hv hu hij hk
    ·rw[hb]
     intro hk'
     injection hk' with hk'
     subst hk'
     have hi2:i < fs.length:=by rw[<- (show vs.length=fs.length by simpa using h.foll.own.1)];exact(List.getElem?_eq_some_iff.1 hv).1
     have:=(h.low b ((h.foll.each i v _ hv (List.getElem?_eq_getElem hi2)).2 b hk)).2
     omega
   ·rw[hset j hj] at hv'
    exact h.foll.two i j v v' k hv hv' hij hk
theorem join_calls {B:Nat} {M:Nat->Prop} {mb:Nat} {ts fs:List (List Int)} {b0 b1 b2 tv fv:Value} {vs:List Value} {Al Af:Option Addr} {cl cf:Nat} {last first:List Int}
 (h:Mach w B M mb ts fs b0 b1 b2 tv fv vs) (hl:intR.row w F Al last) (hf:intR.row w G Af first) (hF:∀ k,F k->k < w.heap.size->¬ M k) (hG:∀ k,G k->k < w.heap.size->¬ M k) (hr:∀ a ∈ last,0<=a/\a < fs.length)
 (hfl:fs.length<=1048576) (hbl:last.length<=1000) (hbf:first.length<=1000) (hbs:∀ x ∈ fs,x.length<=1000000000) :
 Calls Tryz.prog 193 #[.pointer (some ⟨mb,0,none⟩),.slice Al last.length cl,.slice Af first.length cf] w fun r w'=>r=.returned (.tuple #[])/\JoinRel w w' B M mb ts (joinF fs last first) b0 b1 b2 tv:=by
 have HM:=mK h
 have HL:=mK hl
 have HF:=mK hf
 have HFM:=mK hF
 have HGM:=mK hG
 have HB:=mK hbs
 have HA:=mK hr
 clear h hl hf hF hG hbs hr
 go_enter Tryz.func193,Tryz.ntmps193
 go_wp2
 go_loopg [10] last.length (fun g i wr=>∃ k:Nat,k+g=last.length/\i=.int .i64 k/\As (JoinRel w wr B M mb ts (joinF fs (last.take k) first) b0 b1 b2 tv))
 case atStart=>exact⟨0,by omega,rfl,⟨M,fv,vs,HM.o,⟨fun _ h=>h,fun _ h=>.inl h⟩,Upd.refl _ _⟩⟩
 case round=>
  obtain⟨k,hk,rfl,HC⟩:=hrel
  by_cases hlt:k < last.length
  ·obtain⟨x,hx⟩:=gS hlt
   obtain⟨M1,fv1,vs1,hm1,hg1,hu1⟩:=HC.o
   have HLr:=mK (Rp.x0f HL.o hu1 (fun k hk hF=>HFM.o k hF hk))
   have HFr:=mK (Rp.x0f HF.o hu1 (fun k hk hF=>HGM.o k hF hk))
   obtain⟨b,o,rfl,hFb,hbb,d0⟩:=int_at HLr.o hx
   obtain⟨hx0,hx1⟩:=HA.o x (List.mem_of_getElem? hx)
   obtain⟨n,rfl⟩:∃ n:Nat,x=n:=⟨x.toNat,by omega⟩
   have hlen:=x49 fs (last.take k) first
   obtain⟨y,hy⟩:∃ y,(joinF fs (last.take k) first)[n]?=some y:=⟨_,List.getElem?_eq_getElem (by omega)⟩
   have hyl:=x66 (last:=last.take k) (first:=first) HB.o y (List.mem_of_getElem? hy)
   rw[List.length_take] at hyl
   have hyl2:y.length<=1001000000:=by
    have:min k last.length * first.length<=1000 * 1000:=Nat.mul_le_mul (by omega) hbf
    omega
   obtain⟨g1,rfl⟩:=sC1 (by omega:0 < gk)
   have hvl:vs1.length=(joinF fs (last.take k) first).length:=by simpa using hm1.foll.own.1
   obtain⟨u,hu⟩:∃ u,vs1[n]?=some u:=⟨_,List.getElem?_eq_getElem (by omega)⟩
   have hnf:n < (joinF fs (last.take k) first).length:=by omega
   have hnfi:(n:Int) < ((joinF fs (last.take k) first).length:Int):=by omega
   obtain⟨fb,cap,rfl,_,hfbl⟩:=hm1.foll.own.form (by omega)
   have hmd:As (Mach wr.drew B M1 mb ts (joinF fs (last.take k) first) b0 b1 b2 tv (.slice (some ⟨fb,0,none⟩) (joinF fs (last.take k) first).length cap) vs1):=⟨hm1.pure (rU.drew)⟩
   obtain⟨hou,huM⟩:=hmd.o.foll.each n u y hu hy
   have hcur:∃ cur,wr.heap[fb]?=some (.cells cur 83 (0,0))/\cur[n]?=some u:=by
    rcases hm1.foll.own.2 with ⟨h,_⟩ | ⟨g,cap',cur,hv,_,hg,hle,_,hcs,htake⟩
    ·cases h
    ·simp at hv
     obtain⟨rfl,rfl⟩:=hv
     refine⟨cur,hg,?_⟩
     rw[<- htake,List.getElem?_take] at hu
     split at hu
     ·simpa using hu
     ·cases hu
   obtain⟨cur,hcb,hcn⟩:=hcur
   have q1:wr.cell? ⟨mb,1,none⟩=some (.slice (some ⟨fb,0,none⟩) (joinF fs (last.take k) first).length cap):=by unfold World.cell?;simp only[hm1.blk];rfl
   have q2:wr.cell? ⟨fb,n,none⟩=some u:=by unfold World.cell?;simp only[hcb];exact hcn
   have q3:wr.frozen? ⟨fb,n,none⟩=false:=by simp[World.frozen?,hcb]
   have hmbl:=(hm1.low mb hm1.mbM).2
   have HSK:As (∀ w1,Upd (fun k=>u.ownBlock=some k) wr.drew w1->w1.cell? ⟨mb,1,none⟩=some (.slice (some ⟨fb,0,none⟩) (joinF fs (last.take k) first).length cap)/\w1.cell? ⟨fb,n,none⟩=some u/\w1.frozen? ⟨fb,n,none⟩=false):=⟨by
    intro w1 hU
    obtain⟨inner,h1,_⟩:=hou
    have n1:¬ u.ownBlock=some mb:=x1j h1 hmd.o.blk (by decide)
    have n2:¬ u.ownBlock=some fb:=fun hk=>own_ne h1 hmd.o.foll.own (by decide) fb hk rfl
    exact⟨(hU.cell hmbl n1).trans q1,(hU.cell hfbl n2).trans q2,(hU.frozen hfbl n2).trans q3⟩⟩
   have HSS:As (∀ w1,Upd (fun k=>u.ownBlock=some k) wr.drew w1->∀ v,(w1.setCell ⟨fb,n,none⟩ v).cell? ⟨mb,1,none⟩=some (.slice (some ⟨fb,0,none⟩) (joinF fs (last.take k) first).length cap)/\(w1.setCell ⟨fb,n,none⟩ v).frozen? ⟨fb,n,none⟩=false):=⟨by
    intro w1 hU v
    obtain⟨s1,s2,s3⟩:=HSK.o w1 hU
    have hne:mb ≠ fb:=by
     rintro rfl
     exact x1j hmd.o.foll.own hmd.o.blk (by decide) rfl
    refine⟨?_,?_⟩
    ·rw[<- s1]
     exact World.cell?_of_block (Below.heap_setCell _ _ _ _ hne)
    ·rw[World.frozen?_setCell]
     exact s3⟩
   have HOU:=mK hou
   have HY:=mK hy
   have HUU:=mK hu
   have HG1:=mK hg1
   have HU1':=mK hu1
   have HT:=mK (joinF_succ (fs:=fs) (first:=first) hx)
   have HK:=mK hk
   have HFd:=mK (Rp.x01 HFr.o ((Upd.refl (fun _=>False) wr).drew))
   have HQ:=mK (And.intro q1 (And.intro q2 q3))
   generalize hfs:joinF fs (last.take k) first=fk at *
   clear hk hx hy hu hg1 hu1 hou hcb hcn hm1 HC HLr HFr q1 q2 q3 hvl hlen hyl hfs huM
   go_wp2
   have q2:=HQ.o.2.1
   have q2d:wr.drew.cell? ⟨fb,n,none⟩=some u:=q2
   refine x0m (P:=Tryz.prog) (fun w'=>w'.cell? ⟨mb,1,none⟩=some (.slice (some ⟨fb,0,none⟩) fk.length cap)/\w'.cell? ⟨fb,n,none⟩=some u/\w'.frozen? ⟨fb,n,none⟩=false) 15 (by kernel_rfl) ?_ (fun hHeld=>?_)
   ·first | exact HQ.o | exact HSK.o _ HU2.o
   refine zT 0 ?_
   refine zT 1 ?_
   refine zT 2 ?_
   refine zT 3 ?_
   (try simp only[Act.put,sA,sB,sC])
   refine zT 4 ?_
   refine zT 5 ?_
   refine zT 6 ?_
   refine zT 7 ?_
   (try simp only[Act.put,sA,sB,sC])
   refine zT 8 ?_
   refine zT 9 ?_
   refine zT 10 ?_
   refine zT 11 ?_
   (try simp only[Act.put,sA,sB,sC])
   refine zT 12 ?_
   refine oT 13 (fun K hK=>?_)
   refine Rp.x1g intR (c:=cf) HOU.o (Rp.x1q HFd.o (fun _ _ h=>h)) (Fz:=fun _=>False) (fun _ h=>h.elim) (by rfl) _ _ 83 (.int .i64 0) 8 (by rfl) Tryz.underlying83 x3n rfl (by decide) (by decide) (by rfl) (by rfl) (by omega) ?_;intro v1 w2 ho1 hu2 hat;obtain⟨A1,c1,rfl,_,_⟩:=Rp.x0c ho1;have HO1:=mK ho1;have HU2:=mK hu2;have HAT:=mK hat;have HST:=mK (fun v=>HSS.o w2 hu2 v);obtain⟨s1,s2,s3⟩:=HSK.o w2 hu2;clear ho1 hu2 hat
   refine hK.out _ _ (fun _=>by first | exact HQ.o | exact HSK.o _ HU2.o) (fun hHeld=>?_)
   replace hHeld:=hHeld (by decide)
   clear hK K
   (try simp only[Act.put,sA,sB,sC])
   refine zT 14 ?_
   refine oT 15 (fun K hK=>?_)
   go_simp
   refine hK.out _ _ (fun h=>absurd rfl h) (fun hHeld=>?_)
   clear hK K
   (try simp only[Act.put,sA,sB,sC])
   refine x0l (by kernel_rfl) ?_ _
   obtain⟨hmn,hun⟩:=Mach.join1 hmd.o HY.o HUU.o HO1.o HU2.o HAT.o
   have hsz2:(w2.setCell ⟨fb,n,none⟩ (.slice A1 (y.length+first.length) c1)).heap.size=w2.heap.size:=by simp[World.setCell]
   have HN:As (JoinRel w (w2.setCell ⟨fb,n,none⟩ (.slice A1 (y.length+first.length) c1)) B M mb ts (joinF fs (last.take (k+1)) first) b0 b1 b2 tv):=⟨by
    have hle1:wr.heap.size<=w2.heap.size:=HU2.o.size
    have hle0:=HU1'.o.size
    rw[HT.o]
    have e1:((n:Int)).toNat=n:=by simp
    rw[e1]
    rw[List.length_append] at hmn hun
    refine⟨_,_,_,hmn,⟨fun q hq=>.inl (HG1.o.1 q hq),fun q hq=>?_⟩,Upd.trans HU1'.o (Upd.trans ((Upd.refl M1 wr).drew) hun (fun k _ h=>h)) (fun q hq h=>?_)⟩
    ·rcases hq with hq | hq
     ·rcases HG1.o.2 q hq with hq | hq
      ·exact .inl hq
      ·exact .inr ⟨hq.1,by rw[hsz2];omega⟩
     ·exact .inr ⟨by have h1:wr.heap.size<=q:=hq.1;omega,by rw[hsz2];exact hq.2⟩
    ·rcases HG1.o.2 q h with h | h
     ·exact h
     ·omega⟩
   go_wp2
   go_roundg g1
   case measure=>omega
   case rel=>exact⟨k+1,by have:=HK.o;omega,by go_num,HN⟩
  ·have hkl:k=last.length:=by omega
   subst hkl
   rw[List.take_length] at HC
   go_wp2
   go_end0
   exact⟨rfl,HC.o⟩
/-- The ways without a type: a row of rows, each its own block. Each block bears a label; different ones are different blocks. -/
structure CT (w:World) (M:Nat->Prop) (lab:Nat->Nat) (v:Value) (fs:List (List Int)) (vs:List Value):Prop where
 own:w.ownsRow 0 83 1 v fs.length vs
 inM:∀ k,v.ownBlock=some k->M k/\lab k=1
 each:∀ (i:Nat) (u:Value) (x:List Int),vs[i]?=some u->fs[i]?=some x->intR.own 3 w (fun k=>u.ownBlock=some k) u x/\∀ k,u.ownBlock=some k->M k/\lab k=4+i
structure CB (w:World) (B:Nat) (M:Nat->Prop) (lab:Nat->Nat) (v:Value) (bs:List (List Int)):Prop where
 own:intR.slice.own 83 w (fun k=>k < B\/v.ownBlock=some k) v bs
 inM:∀ k,v.ownBlock=some k->M k/\lab k=2
structure CN (w:World) (M:Nat->Prop) (lab:Nat->Nat) (v:Value) (xs:List Int):Prop where
 own:intR.own 3 w (fun k=>v.ownBlock=some k) v xs
 inM:∀ k,v.ownBlock=some k->M k/\lab k=3
structure NetS (w:World) (B:Nat) (M:Nat->Prop) (lab:Nat->Nat) (nb:Nat) (N:NetD) (tv bv nv:Value) (vs:List Value):Prop where
 blk:w.heap[nb]?=some (.cells #[tv,bv,nv] 229 (0,0))
 nbM:M nb/\lab nb=0
 low:∀ k,M k->B<=k/\k < w.heap.size
 ct:CT w M lab tv N.tos vs
 cb:CB w B M lab bv N.bys
 cn:CN w M lab nv N.nx
/-- New blocks get a label. -/
def relab (n j:Nat) (lab:Nat->Nat) (k:Nat):Nat:=if k < n then lab k else j
theorem x2x {n j k:Nat} {lab:Nat->Nat} (h:k < n):relab n j lab k=lab k:=by unfold relab;rw[if_pos h]
theorem relab_new {n j k:Nat} {lab:Nat->Nat} (h:n<=k):relab n j lab k=j:=by unfold relab;rw[if_neg (by omega)]
abbrev MNew (M:Nat->Prop) (lo hi:Nat):Nat->Prop:=fun k=>M k\/(lo<=k/\k < hi)
section
variable {w w1:World} {B:Nat} {M M' S:Nat->Prop} {lab lab':Nat->Nat}
theorem CT.upd {v:Value} {fs:List (List Int)} {vs:List Value} (h:CT w M lab v fs vs) (hlow:∀ k,M k->k < w.heap.size) (hu:Upd S w w1) (hS:∀ k,M k->S k->lab k ≠ 1/\lab k < 4) (hM:∀ k,M k->M' k/\lab' k=lab k):CT w1 M' lab' v fs vs where
 own:=x4e h.own hu (fun k hk hs=>(hS k (h.inM k hk).1 hs).1 (h.inM k hk).2)
 inM:=fun k hk=>by
  obtain⟨h1,h2⟩:=h.inM k hk
  obtain⟨h3,h4⟩:=hM k h1
  exact⟨h3,h4.trans h2⟩
 each:=fun i u x h1 h2=>by
  obtain⟨h3,h4⟩:=h.each i u x h1 h2
  refine⟨Rp.x0w h3 hu (fun k _ hk hs=>?_),fun k hk=>?_⟩
  ·obtain⟨h5,h6⟩:=h4 k hk
   have:=(hS k h5 hs).2
   omega
  ·obtain⟨h5,h6⟩:=h4 k hk
   obtain⟨h7,h8⟩:=hM k h5
   exact⟨h7,h8.trans h6⟩
theorem CB.upd {v:Value} {bs:List (List Int)} (h:CB w B M lab v bs) (hlow:∀ k,M k->B<=k) (hu:Upd S w w1) (hS:∀ k,k < w.heap.size->S k->M k/\lab k ≠ 2) (hM:∀ k,M k->M' k/\lab' k=lab k):CB w1 B M' lab' v bs where
 own:=Rp.x0w h.own hu (fun k hl hk hs=>by
  obtain⟨h1,h2⟩:=hS k hl hs
  rcases hk with hk | hk
  ·have:=hlow k h1
   omega
  ·exact h2 (h.inM k hk).2)
 inM:=fun k hk=>by
  obtain⟨h1,h2⟩:=h.inM k hk
  obtain⟨h3,h4⟩:=hM k h1
  exact⟨h3,h4.trans h2⟩
theorem CN.upd {v:Value} {xs:List Int} (h:CN w M lab v xs) (hu:Upd S w w1) (hS:∀ k,M k->S k->lab k ≠ 3) (hM:∀ k,M k->M' k/\lab' k=lab k):CN w1 M' lab' v xs where
 own:=Rp.x0w h.own hu (fun k hl hk hs=>hS k (h.inM k hk).1 hs (h.inM k hk).2)
 inM:=fun k hk=>by
  obtain⟨h1,h2⟩:=h.inM k hk
  obtain⟨h3,h4⟩:=hM k h1
  exact⟨h3,h4.trans h2⟩
end
section
variable {w w2:World} {B:Nat} {M:Nat->Prop} {lab:Nat->Nat} {nb:Nat} {N:NetD} {tv bv nv v1:Value} {vs:List Value}
theorem NetS.upd {S:Nat->Prop} (h:NetS w B M lab nb N tv bv nv vs) (hu:Upd S w w2) (hs:∀ k,k < w.heap.size->S k->B<=k/\¬ M k):NetS w2 B M lab nb N tv bv nv vs where
 blk:=by rw[hu.block nb (h.low nb h.nbM.1).2 (fun hS=>(hs nb (h.low nb h.nbM.1).2 hS).2 h.nbM.1)];exact h.blk
 nbM:=h.nbM
 low:=fun k hk=>⟨(h.low k hk).1,Nat.lt_of_lt_of_le (h.low k hk).2 hu.size⟩
 ct:=h.ct.upd (S:=S) (fun k hk=>(h.low k hk).2) hu (fun k hk hS=>absurd hk (hs k (h.low k hk).2 hS).2) (fun k hk=>⟨hk,rfl⟩)
 cb:=⟨Rp.x0w h.cb.own hu (fun k hl hk hS=>by
  have:=hs k hl hS
  rcases hk with hk | hk
  ·omega
  ·exact this.2 (h.cb.inM k hk).1),h.cb.inM⟩
 cn:=h.cn.upd hu (fun k hk hS=>absurd hk (hs k (h.low k hk).2 hS).2) (fun k hk=>⟨hk,rfl⟩)
theorem NetS.pure (h:NetS w B M lab nb N tv bv nv vs) (hu:Pure w w2):NetS w2 B M lab nb N tv bv nv vs:=h.upd hu (fun _ _ h=>h.elim)
/-- The frame of a write of one row and of the box. -/
theorem frame_low (h:NetS w B M lab nb N tv bv nv vs) (hU:w.heap.size<=w2.heap.size):∀ k,MNew M w.heap.size w2.heap.size k->B<=k/\k < w2.heap.size:=by
 have hB:B<=w.heap.size:=by have:=h.low nb h.nbM.1;omega
 rintro k (hk | hk)
 ·exact⟨(h.low k hk).1,Nat.lt_of_lt_of_le (h.low k hk).2 hU⟩
 ·exact⟨by omega,hk.2⟩
theorem x4k (h:NetS w B M lab nb N tv bv nv vs) (j hi:Nat):∀ k,M k->MNew M w.heap.size hi k/\relab w.heap.size j lab k=lab k:=fun k hk=>⟨.inl hk,x2x (h.low k hk).2⟩
theorem frame_v1 {v:Value} {j:Nat} (h:NetS w B M lab nb N tv bv nv vs) (hv:∀ k,v.ownBlock=some k->M k/\lab k=j) (hlt:∀ k,v1.ownBlock=some k->k < w2.heap.size) (hat:v1.ownBlock=v.ownBlock\/∃ b,v1.ownBlock=some b/\w.heap.size<=b) :
 ∀ k,v1.ownBlock=some k->MNew M w.heap.size w2.heap.size k/\relab w.heap.size j lab k=j:=by
 intro k hk
 have h4:=hlt k hk
 rcases hat with hat | ⟨b,hb,hle⟩
 ·obtain⟨h1,h2⟩:=hv k (hat ▸ hk)
  exact⟨.inl h1,(x2x (h.low k h1).2).trans h2⟩
 ·rw[hb] at hk
  injection hk with hk
  exact⟨.inr ⟨by omega,h4⟩,relab_new (by omega)⟩
theorem NetS.to1 (h:NetS w B M lab nb N tv bv nv vs) (ho:w2.ownsRow 0 83 1 v1 (N.tos.length+1) (vs ++ [.slice none 0 0])) (hU:Upd (fun k=>tv.ownBlock=some k) w w2) (hat:v1.ownBlock=tv.ownBlock\/∃ b,v1.ownBlock=some b/\w.heap.size<=b) :
 NetS (w2.setCell ⟨nb,0,none⟩ v1) B (MNew M w.heap.size w2.heap.size) (relab w.heap.size 1 lab) nb ⟨N.tos ++ [[]],N.bys,N.nx⟩ v1 bv nv (vs ++ [.slice none 0 0])/\Upd M w (w2.setCell ⟨nb,0,none⟩ v1):=by
 have hsz:(w2.setCell ⟨nb,0,none⟩ v1).heap.size=w2.heap.size:=by simp[World.setCell]
 have hl:vs.length=N.tos.length:=by simpa using h.ct.own.1
 have hnb:tv.ownBlock ≠ some nb:=fun e=>by have:=(h.ct.inM nb e).2;have:=h.nbM.2;omega
 have hblk2:w2.heap[nb]?=some (.cells #[tv,bv,nv] 229 (0,0)):=by rw[hU.block nb (h.low nb h.nbM.1).2 hnb];exact h.blk
 have hU2:Upd (fun k=>tv.ownBlock=some k\/k=nb) w (w2.setCell ⟨nb,0,none⟩ v1):=(hU.mono (fun k _ hk=>.inl hk)).setCell (p:=⟨nb,0,none⟩) (fun _=>.inr rfl) v1
 have hv1:=frame_v1 (w2:=w2) h h.ct.inM (fun k hk=>(ho.lt k hk).2) hat
 have hS:∀ k,(tv.ownBlock=some k\/k=nb)->M k/\lab k<=1:=by
  rintro k (hk | rfl)
  ·exact⟨(h.ct.inM k hk).1,Nat.le_of_eq (h.ct.inM k hk).2⟩
  ·exact⟨h.nbM.1,by rw[h.nbM.2];omega⟩
 have hnb1:v1.ownBlock ≠ some nb:=fun e=>by
  have:=(hv1 nb e).2
  rw[x2x (h.low nb h.nbM.1).2,h.nbM.2] at this
  omega
 refine⟨⟨by simp[World.setCell,Array.getElem?_modify,hblk2],⟨.inl h.nbM.1,(x2x (h.low nb h.nbM.1).2).trans h.nbM.2⟩,?_,⟨?_,hv1,?_⟩,?_,?_⟩,hU2.mono (fun k _ hk=>(hS k hk).1)⟩
 ·rw[hsz];exact frame_low h hU.size
 ·rw[List.length_append]
  exact x4e ho (Upd.x1v (S:=fun k=>k=nb) w2 (p:=⟨nb,0,none⟩) rfl v1) (fun k hk he=>hnb1 (he ▸ hk))
 ·intro i u x hu hx
  rcases Nat.lt_or_ge i vs.length with hi | hi
  ·rw[List.getElem?_append_left hi] at hu
   rw[List.getElem?_append_left (by omega)] at hx
   obtain⟨h5,h6⟩:=h.ct.each i u x hu hx
   refine⟨Rp.x0w h5 hU2 (fun k _ hk hs=>?_),fun k hk=>?_⟩
   ·have h7:=(h6 k hk).2
    have h8:=(hS k hs).2
    omega
   ·obtain⟨h7,h8⟩:=h6 k hk
    exact⟨.inl h7,(x2x (h.low k h7).2).trans h8⟩
  ·rw[List.getElem?_append_right hi] at hu
   rw[List.getElem?_append_right (by omega)] at hx
   match hk:i - vs.length,hu with
   | 0,hu=>
     rw[<- hl,hk] at hx
     simp at hu hx
     subst hu hx
     exact⟨Rp.x0v _ _ _ _,fun k hk=>by simp[Value.ownBlock] at hk⟩
   | j+1,hu=>simp at hu
 ·exact h.cb.upd (fun k hk=>(h.low k hk).1) hU2 (fun k _ hs=>⟨(hS k hs).1,by have:=(hS k hs).2;omega⟩) (x4k h 1 _)
 ·exact h.cn.upd hU2 (fun k _ hs=>by have:=(hS k hs).2;omega) (x4k h 1 _)
theorem NetS.by1 {x:List Int} (h:NetS w B M lab nb N tv bv nv vs) (ho:intR.slice.own 83 w2 (fun k=>k < B\/v1.ownBlock=some k) v1 (N.bys ++ [x])) (hU:Upd (fun k=>bv.ownBlock=some k) w w2) (hat:v1.ownBlock=bv.ownBlock\/∃ b,v1.ownBlock=some b/\w.heap.size<=b) :
 NetS (w2.setCell ⟨nb,1,none⟩ v1) B (MNew M w.heap.size w2.heap.size) (relab w.heap.size 2 lab) nb ⟨N.tos,N.bys ++ [x],N.nx⟩ tv v1 nv vs/\Upd M w (w2.setCell ⟨nb,1,none⟩ v1):=by
 have hsz:(w2.setCell ⟨nb,1,none⟩ v1).heap.size=w2.heap.size:=by simp[World.setCell]
 have hnb:bv.ownBlock ≠ some nb:=fun e=>by have:=(h.cb.inM nb e).2;have:=h.nbM.2;omega
 have hblk2:w2.heap[nb]?=some (.cells #[tv,bv,nv] 229 (0,0)):=by rw[hU.block nb (h.low nb h.nbM.1).2 hnb];exact h.blk
 have hU2:Upd (fun k=>bv.ownBlock=some k\/k=nb) w (w2.setCell ⟨nb,1,none⟩ v1):=(hU.mono (fun k _ hk=>.inl hk)).setCell (p:=⟨nb,1,none⟩) (fun _=>.inr rfl) v1
 have hv1:=frame_v1 (w2:=w2) h h.cb.inM (fun k hk=>(Rp.x03 ho k hk).2) hat
 have hS:∀ k,(bv.ownBlock=some k\/k=nb)->M k/\(lab k=0\/lab k=2):=by
  rintro k (hk | rfl)
  ·exact⟨(h.cb.inM k hk).1,.inr (h.cb.inM k hk).2⟩
  ·exact⟨h.nbM.1,.inl h.nbM.2⟩
 have hnb1:v1.ownBlock ≠ some nb:=fun e=>by
  have:=(hv1 nb e).2
  rw[x2x (h.low nb h.nbM.1).2,h.nbM.2] at this
  omega
 have hBn:=(h.low nb h.nbM.1).1
 refine⟨⟨by simp[World.setCell,Array.getElem?_modify,hblk2],⟨.inl h.nbM.1,(x2x (h.low nb h.nbM.1).2).trans h.nbM.2⟩,?_,?_,⟨?_,hv1⟩,?_⟩,hU2.mono (fun k _ hk=>(hS k hk).1)⟩
 ·rw[hsz];exact frame_low h hU.size
 ·exact h.ct.upd (fun k hk=>(h.low k hk).2) hU2 (fun k _ hs=>by have:=(hS k hs).2;omega) (x4k h 2 _)
 ·exact Rp.x0w ho (Upd.x1v (S:=fun k=>k=nb) w2 (p:=⟨nb,1,none⟩) rfl v1) (fun k _ hk he=>by
   rcases hk with hk | hk
   ·omega
   ·exact hnb1 (he ▸ hk))
 ·exact h.cn.upd hU2 (fun k _ hs=>by have:=(hS k hs).2;omega) (x4k h 2 _)
theorem NetS.nx1 {x:Int} {F:Nat->Prop} (h:NetS w B M lab nb N tv bv nv vs) (ho:intR.own 3 w2 F v1 (N.nx ++ [x])) (hU:Upd (fun k=>nv.ownBlock=some k) w w2) (hat:v1.ownBlock=nv.ownBlock\/∃ b,v1.ownBlock=some b/\w.heap.size<=b) :
 NetS (w2.setCell ⟨nb,2,none⟩ v1) B (MNew M w.heap.size w2.heap.size) (relab w.heap.size 3 lab) nb ⟨N.tos,N.bys,N.nx ++ [x]⟩ tv bv v1 vs/\Upd M w (w2.setCell ⟨nb,2,none⟩ v1):=by
 have hsz:(w2.setCell ⟨nb,2,none⟩ v1).heap.size=w2.heap.size:=by simp[World.setCell]
 have hnb:nv.ownBlock ≠ some nb:=fun e=>by have:=(h.cn.inM nb e).2;have:=h.nbM.2;omega
 have hblk2:w2.heap[nb]?=some (.cells #[tv,bv,nv] 229 (0,0)):=by rw[hU.block nb (h.low nb h.nbM.1).2 hnb];exact h.blk
 have hU2:Upd (fun k=>nv.ownBlock=some k\/k=nb) w (w2.setCell ⟨nb,2,none⟩ v1):=(hU.mono (fun k _ hk=>.inl hk)).setCell (p:=⟨nb,2,none⟩) (fun _=>.inr rfl) v1
 have hv1:=frame_v1 (w2:=w2) h h.cn.inM (fun k hk=>(Rp.x03 ho k hk).2) hat
 have hS:∀ k,(nv.ownBlock=some k\/k=nb)->M k/\(lab k=0\/lab k=3):=by
  rintro k (hk | rfl)
  ·exact⟨(h.cn.inM k hk).1,.inr (h.cn.inM k hk).2⟩
  ·exact⟨h.nbM.1,.inl h.nbM.2⟩
 have hnb1:v1.ownBlock ≠ some nb:=fun e=>by
  have:=(hv1 nb e).2
  rw[x2x (h.low nb h.nbM.1).2,h.nbM.2] at this
  omega
 refine⟨⟨by simp[World.setCell,Array.getElem?_modify,hblk2],⟨.inl h.nbM.1,(x2x (h.low nb h.nbM.1).2).trans h.nbM.2⟩,?_,?_,?_,⟨?_,hv1⟩⟩,hU2.mono (fun k _ hk=>(hS k hk).1)⟩
 ·rw[hsz];exact frame_low h hU.size
 ·exact h.ct.upd (fun k hk=>(h.low k hk).2) hU2 (fun k _ hs=>by have:=(hS k hs).2;omega) (x4k h 3 _)
 ·exact h.cb.upd (fun k hk=>(h.low k hk).1) hU2 (fun k _ hs=>⟨(hS k hs).1,by have:=(hS k hs).2;omega⟩) (x4k h 3 _)
 ·exact x31 (Rp.x0w (x31 ho) (Upd.x1v (S:=fun k=>k=nb) w2 (p:=⟨nb,2,none⟩) rfl v1) (fun k _ hk he=>hnb1 (he ▸ hk)))
/-- A way more from a: its row grown, and laid anew. -/
theorem NetS.free1 {fb cap a:Nat} {x:List Int} {u u1:Value} {y:List Int} {F:Nat->Prop} (h:NetS w B M lab nb N (.slice (some ⟨fb,0,none⟩) N.tos.length cap) bv nv vs) (hx:N.tos[a]?=some x) (hu:vs[a]?=some u)
 (ho:intR.own 3 w2 F u1 (x ++ y)) (hU:Upd (fun k=>u.ownBlock=some k) w w2) (hat:u1.ownBlock=u.ownBlock\/∃ b,u1.ownBlock=some b/\w.heap.size<=b) :
 NetS (w2.setCell ⟨fb,a,none⟩ u1) B (MNew M w.heap.size w2.heap.size) (relab w.heap.size (4+a) lab) nb ⟨N.tos.modify a (· ++ y),N.bys,N.nx⟩ (.slice (some ⟨fb,0,none⟩) (N.tos.modify a (· ++ y)).length cap) bv nv (vs.set a u1)/\Upd M w (w2.setCell ⟨fb,a,none⟩ u1):=by
 have hsz:(w2.setCell ⟨fb,a,none⟩ u1).heap.size=w2.heap.size:=by simp[World.setCell]
 obtain⟨h1,h2⟩:=h.ct.each a u x hu hx
 have hfb:=h.ct.inM fb rfl
 have ha:a < N.tos.length:=(List.getElem?_eq_some_iff.1 hx).1
 have hav:a < vs.length:=(List.getElem?_eq_some_iff.1 hu).1
 have hU2:Upd (fun k=>u.ownBlock=some k\/k=fb) w (w2.setCell ⟨fb,a,none⟩ u1):=(hU.mono (fun k _ hk=>.inl hk)).setCell (p:=⟨fb,a,none⟩) (fun _=>.inr rfl) u1
 have hv1:=frame_v1 (w2:=w2) (v:=u) (j:=4+a) h h2 (fun k hk=>(Rp.x03 ho k hk).2) hat
 have hS:∀ k,(u.ownBlock=some k\/k=fb)->M k/\(lab k=4+a\/lab k=1):=by
  rintro k (hk | rfl)
  ·exact⟨(h2 k hk).1,.inl (h2 k hk).2⟩
  ·exact⟨hfb.1,.inr hfb.2⟩
 have hfb1:u1.ownBlock ≠ some fb:=fun e=>by
  have:=(hv1 fb e).2
  rw[x2x (h.low fb hfb.1).2,hfb.2] at this
  omega
 have hmod:∀ i,i ≠ a->(N.tos.modify a (· ++ y))[i]?=N.tos[i]?:=fun i hi=>by rw[List.getElem?_modify];simp[Ne.symm hi]
 have hmodn:(N.tos.modify a (· ++ y))[a]?=some (x ++ y):=by rw[List.getElem?_modify];simp[hx]
 have hset:∀ i,i ≠ a->(vs.set a u1)[i]?=vs[i]?:=fun i hi=>by rw[List.getElem?_set];simp[Ne.symm hi]
 have hsetn:(vs.set a u1)[a]?=some u1:=by rw[List.getElem?_set];simp[hav]
 refine⟨⟨?_,⟨.inl h.nbM.1,(x2x (h.low nb h.nbM.1).2).trans h.nbM.2⟩,?_,⟨?_,?_,?_⟩,?_,?_⟩,hU2.mono (fun k _ hk=>(hS k hk).1)⟩
 ·rw[hU2.block nb (h.low nb h.nbM.1).2 (fun hs=>by have:=(hS nb hs).2;have:=h.nbM.2;omega),List.length_modify]
  exact h.blk
 ·rw[hsz];exact frame_low h hU.size
 ·rw[List.length_modify]
  exact x5b (x4e h.ct.own hU (fun k hk hS=>by
   have e1:=(h.ct.inM k hk).2
   have e2:=(h2 k hS).2
   omega)) ha u1
 ·intro k hk
  obtain⟨e1,e2⟩:=h.ct.inM k hk
  exact⟨.inl e1,(x2x (h.low k e1).2).trans e2⟩
 ·intro i v z hv hz
  by_cases hi:i=a
  ·subst hi
   rw[hsetn] at hv
   rw[hmodn] at hz
   cases hv
   cases hz
   exact⟨x31 (Rp.x0w (x31 ho) (Upd.x1v (S:=fun k=>k=fb) w2 (p:=⟨fb,i,none⟩) rfl u1) (fun k _ hk he=>hfb1 (he ▸ hk))),hv1⟩
  ·rw[hset i hi] at hv
   rw[hmod i hi] at hz
   obtain⟨h5,h6⟩:=h.ct.each i v z hv hz
   refine⟨Rp.x0w h5 hU2 (fun k _ hk hs=>?_),fun k hk=>?_⟩
   ·have h7:=(h6 k hk).2
    have h8:=(hS k hs).2
    omega
   ·obtain⟨h7,h8⟩:=h6 k hk
    exact⟨.inl h7,(x2x (h.low k h7).2).trans h8⟩
 ·exact h.cb.upd (fun k hk=>(h.low k hk).1) hU2 (fun k _ hs=>⟨(hS k hs).1,by have:=(hS k hs).2;omega⟩) (x4k h (4+a) _)
 ·exact h.cn.upd hU2 (fun k _ hs=>by have:=(hS k hs).2;omega) (x4k h (4+a) _)
/-- The types of a place. -/
theorem NetS.by2 {gb cap c:Nat} {x:List Int} {A1:Option Addr} {c1:Nat} (h:NetS w B M lab nb N tv (.slice (some ⟨gb,0,none⟩) N.bys.length cap) nv vs) (hc:c < N.bys.length) (hx:intR.row w (fun k=>k < B) A1 x) (hl:x.length<=c1) :
 NetS (w.setCell ⟨gb,c,none⟩ (.slice A1 x.length c1)) B M lab nb ⟨N.tos,N.bys.set c x,N.nx⟩ tv (.slice (some ⟨gb,0,none⟩) (N.bys.set c x).length cap) nv vs/\Upd M w (w.setCell ⟨gb,c,none⟩ (.slice A1 x.length c1)):=by
 have hgb:=h.cb.inM gb rfl
 have hU:Upd (fun k=>k=gb) w (w.setCell ⟨gb,c,none⟩ (.slice A1 x.length c1)):=Upd.x1v (S:=fun k=>k=gb) w (p:=⟨gb,c,none⟩) rfl _
 have hsz:(w.setCell ⟨gb,c,none⟩ (.slice A1 x.length c1)).heap.size=w.heap.size:=by simp[World.setCell]
 have hgB:=(h.low gb hgb.1).1
 refine⟨⟨?_,h.nbM,?_,?_,⟨?_,h.cb.inM⟩,?_⟩,hU.mono (fun k _ hk=>hk ▸ hgb.1)⟩
 ·rw[hU.block nb (h.low nb h.nbM.1).2 (fun e=>by have h9:=h.nbM.2;rw[e,hgb.2] at h9;omega),List.length_set]
  exact h.blk
 ·rw[hsz];exact h.low
 ·exact h.ct.upd (fun k hk=>(h.low k hk).2) hU (fun k _ hs=>by rw[hs,hgb.2];omega) (fun k hk=>⟨hk,rfl⟩)
 ·obtain⟨inner,h1,h2,h3⟩:=h.cb.own
  have hil:inner.length=N.bys.length:=h1.1.trans (Nat.mul_one _)
  refine⟨inner.set c (.slice A1 x.length c1),by rw[List.length_set];exact x5b h1 hc _,h2,⟨by simp[hil,show intR.slice.sz=1 from rfl],fun j y hy=>?_⟩⟩
  have hs1:intR.slice.sz=1:=rfl
  rw[hs1,Nat.mul_one]
  have hone:∀ (L:List Value) (j:Nat) (v:Value),L[j]?=some v->(L.drop j).take 1=[v]:=fun L j v hv=>by
   obtain⟨e1,e2⟩:=List.getElem?_eq_some_iff.1 hv
   rw[List.drop_eq_getElem_cons e1,e2]
   rfl
  by_cases hj:j=c
  ·subst hj
   rw[List.getElem?_set,if_pos rfl,if_pos hc] at hy
   cases hy
   rw[hone _ j (.slice A1 x.length c1) (by rw[List.getElem?_set,if_pos rfl,if_pos (by omega)])]
   refine⟨A1,c1,rfl,hl,Rp.x1d (fun k hk hlt=>⟨⟨.inl hk,?_⟩,by rw[hsz];exact hlt,hU.block k hlt (fun e=>by omega)⟩) hx⟩
   intro e
   simp[Value.ownBlock] at e
   omega
  ·rw[List.getElem?_set,if_neg (Ne.symm hj)] at hy
   have h4:=h3.2 j y hy
   rw[hs1,Nat.mul_one] at h4
   have hjl:j < inner.length:=by rw[hil];exact(List.getElem?_eq_some_iff.1 hy).1
   rw[hone inner j _ (List.getElem?_eq_getElem hjl)] at h4
   rw[hone _ j inner[j] (by rw[List.getElem?_set,if_neg (Ne.symm hj)];exact List.getElem?_eq_getElem hjl)]
   refine intR.slice.move (fun k hk hlt=>⟨hk,by rw[hsz];exact hlt,hU.block k hlt (fun e=>?_)⟩) h4
   subst e
   exact hk.2 rfl
 ·exact h.cn.upd hU (fun k _ hs=>by rw[hs,hgb.2];omega) (fun k hk=>⟨hk,rfl⟩)
/-- Where a place's types lead. -/
theorem NetS.nx2 {gb cap c:Nat} {x:Int} (h:NetS w B M lab nb N tv bv (.slice (some ⟨gb,0,none⟩) N.nx.length cap) vs) (hc:c < N.nx.length) :
 NetS (w.setCell ⟨gb,c,none⟩ (.int .i64 x)) B M lab nb ⟨N.tos,N.bys,N.nx.set c x⟩ tv bv (.slice (some ⟨gb,0,none⟩) (N.nx.set c x).length cap) vs/\Upd M w (w.setCell ⟨gb,c,none⟩ (.int .i64 x)):=by
 have hgb:=h.cn.inM gb rfl
 have hU:Upd (fun k=>k=gb) w (w.setCell ⟨gb,c,none⟩ (.int .i64 x)):=Upd.x1v (S:=fun k=>k=gb) w (p:=⟨gb,c,none⟩) rfl _
 have hsz:(w.setCell ⟨gb,c,none⟩ (.int .i64 x)).heap.size=w.heap.size:=by simp[World.setCell]
 refine⟨⟨?_,h.nbM,?_,?_,?_,⟨?_,h.cn.inM⟩⟩,hU.mono (fun k _ hk=>hk ▸ hgb.1)⟩
 ·rw[hU.block nb (h.low nb h.nbM.1).2 (fun e=>by have h9:=h.nbM.2;rw[e,hgb.2] at h9;omega),List.length_set]
  exact h.blk
 ·rw[hsz];exact h.low
 ·exact h.ct.upd (fun k hk=>(h.low k hk).2) hU (fun k _ hs=>by rw[hs,hgb.2];omega) (fun k hk=>⟨hk,rfl⟩)
 ·exact h.cb.upd (fun k hk=>(h.low k hk).1) hU (fun k _ hs=>by rw[hs];exact⟨hgb.1,by rw[hgb.2];omega⟩) (fun k hk=>⟨hk,rfl⟩)
 ·obtain⟨inner,h1,h2,h3⟩:=h.cn.own
  have hil:inner.length=N.nx.length:=h1.1.trans (Nat.mul_one _)
  refine⟨inner.set c (.int .i64 x),by rw[List.length_set];exact x5b h1 hc _,h2,⟨by simp[hil,show intR.sz=1 from rfl],fun j y hy=>?_⟩⟩
  have hs1:intR.sz=1:=rfl
  rw[hs1,Nat.mul_one]
  have hone:∀ (L:List Value) (j:Nat) (v:Value),L[j]?=some v->(L.drop j).take 1=[v]:=fun L j v hv=>by
   obtain⟨e1,e2⟩:=List.getElem?_eq_some_iff.1 hv
   rw[List.drop_eq_getElem_cons e1,e2]
   rfl
  by_cases hj:j=c
  ·subst hj
   rw[List.getElem?_set,if_pos rfl,if_pos hc] at hy
   cases hy
   rw[hone _ j (.int .i64 x) (by rw[List.getElem?_set,if_pos rfl,if_pos (by omega)])]
   rfl
  ·rw[List.getElem?_set,if_neg (Ne.symm hj)] at hy
   have h4:=h3.2 j y hy
   rw[hs1,Nat.mul_one] at h4
   have hjl:j < inner.length:=by rw[hil];exact(List.getElem?_eq_some_iff.1 hy).1
   rw[hone inner j _ (List.getElem?_eq_getElem hjl)] at h4
   rw[hone _ j inner[j] (by rw[List.getElem?_set,if_neg (Ne.symm hj)];exact List.getElem?_eq_getElem hjl)]
   exact h4
end
end Go.Proofs.YtofjodppljnlaaaGreatDoor
