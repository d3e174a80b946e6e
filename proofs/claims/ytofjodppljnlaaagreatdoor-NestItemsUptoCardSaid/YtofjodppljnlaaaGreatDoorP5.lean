/- My own texts, packed: Pars5, Par6, Par7, Par8. -/
import Derived.Test.YtofjodppljnlaaaGreatDoorP4
set_option maxRecDepth 100000
set_option maxHeartbeats 4000000
set_option linter.unusedVariables false
set_option linter.unusedSimpArgs false
variable {w w1 W:Go.World} {F G:Nat → Prop} {A B:Option Go.Addr} {cb c:Nat}
namespace Go.Proofs.YtofjodppljnlaaaGreatDoor
open Go.RowKit
theorem next_at {tb k:Nat} {s:ByteArray} (h:TB w tb s k) (hk:k < s.size) (h32:(s[k] == 32)=false) (h0:1<=s[k].toNat) (hs:s.size<=1000) :
 Calls Tryz.prog 179 #[.pointer (some ⟨tb,0,none⟩)] w fun r w'=>r=.returned (.int .u8 s[k].toNat)/\Pure w w':=by
 have HT:=mK h
 have hlt:((k:Int) < (s.size:Int)):=by omega
 have hlt2:decide (k < s.size)=true:=by simp;exact hk
 have hlt3:decide ((k:Int) < (s.size:Int))=true:=by simp;omega
 have heq2:(k == s.size)=false:=by simp;omega
 have heq3:((k:Int) == (s.size:Int))=false:=by simp;omega
 have hb1:((s[k].toNat:Int) == 32)=false:=by
  have:s[k] ≠ 32:=by simpa using h32
  simp
  intro h
  apply this
  apply UInt8.toNat_inj.1
  have:s[k].toNat=32:=by omega
  rw[this];rfl
 have hb2:(s[k].toNat == 32)=false:=by
  simp at hb1 ⊢
  omega
 have hmx:max (s[k].toNat:Int) 1=(s[k].toNat:Int):=by omega
 clear h
 go_enter Tryz.func179,Tryz.ntmps179
 go_wp2
 go_loopg [] 0 (fun g wr=>As (wr=w))
 case atStart=>exact⟨rfl⟩
 case round=>
  obtain rfl:=hrel.o
  obtain⟨⟨c0,c1⟩,f1,htb⟩:=HT.o.cells
  have c0d:wr.drew.cell? ⟨tb,0,none⟩=some (.string s):=c0
  have c1d:wr.drew.cell? ⟨tb,1,none⟩=some (.int .i64 k):=c1
  go_wp2
  refine wp_region_held_drew (S:=(fun v=>v.cell? ⟨tb,0,none⟩=some (.string s)/\v.cell? ⟨tb,1,none⟩=some (.int .i64 k))) (by kernel_rfl) ?_ (fun hHeld=>?_)
  ·exact⟨c0d,c1d⟩
  refine zH 0 ?_
  refine zH 1 ?_
  refine zH 2 ?_
  refine zH 3 ?_
  (try simp only[Act.put,sA,sB,sC])
  refine zH 4 ?_
  refine zH 5 ?_
  refine zH 6 ?_
  refine zH 7 ?_
  (try simp only[Act.put,sA,sB,sC])
  refine zH 8 ?_
  refine zH 9 ?_
  refine zH 10 ?_
  refine zH 11 ?_
  (try simp only[Act.put,sA,sB,sC])
  refine zH 12 ?_
  refine zH 13 ?_
  refine zH 14 ?_
  refine zH 15 ?_
  (try simp only[Act.put,sA,sB,sC])
  refine zH 16 ?_
  refine zH 17 ?_
  refine zH 18 ?_
  refine zH 19 ?_
  (try simp only[Act.put,sA,sB,sC])
  refine zH 20 ?_
  refine zH 21 ?_
  refine wpAnyH_done (by kernel_rfl) ?_ _
  go_wp2
  refine wp_region_held_drew (S:=(fun v=>v.cell? ⟨tb,0,none⟩=some (.string s)/\v.cell? ⟨tb,1,none⟩=some (.int .i64 k))) (by kernel_rfl) ?_ (fun hHeld=>?_)
  ·exact⟨c0d,c1d⟩
  refine zH 0 ?_
  refine zH 1 ?_
  (try simp only[Act.put,sA,sB,sC])
  refine zH 2 ?_
  refine zH 3 ?_
  refine zH 4 ?_
  refine zH 5 ?_
  (try simp only[Act.put,sA,sB,sC])
  refine zH 6 ?_
  refine zH 7 ?_
  refine zH 8 ?_
  refine zH 9 ?_
  (try simp only[Act.put,sA,sB,sC])
  refine wpAnyH_done (by kernel_rfl) ?_ _
  go_wp2
  refine wp_region_held_drew (S:=(fun v=>v.cell? ⟨tb,0,none⟩=some (.string s)/\v.cell? ⟨tb,1,none⟩=some (.int .i64 k))) (by kernel_rfl) ?_ (fun hHeld=>?_)
  ·exact⟨c0d,c1d⟩
  refine zH 0 ?_
  refine zH 1 ?_
  refine zH 2 ?_
  refine zH 3 ?_
  (try simp only[Act.put,sA,sB,sC])
  refine zH 4 ?_
  refine zH 5 ?_
  refine zH 6 ?_
  refine zH 7 ?_
  (try simp only[Act.put,sA,sB,sC])
  refine zH 8 ?_
  refine zH 9 ?_
  refine zH 10 ?_
  refine wpAnyH_done (by kernel_rfl) ?_ _
  go_wp2
  go_ret
  exact⟨rfl,((rU.drew).drew).drew⟩
theorem part_step {w2:World} {tb eb m:Nat} {s:ByteArray} {kk:Int} {x0 x1 x2:Value} (hT:TB (w2.setCell ⟨tb,1,none⟩ (.int .i64 (m:Nat))) tb s m) (he:w2.heap[eb]?=some (.cells #[x0,x1,x2] 92 (0,0))) (hne:tb ≠ eb) (nm:ByteArray) :
 TB (((((w2.setCell ⟨tb,1,none⟩ (.int .i64 (m:Nat))).setCell ⟨eb,0,none⟩ (.int .i64 kk)).setCell ⟨eb,1,none⟩ (.string ⟨#[]⟩)).setCell ⟨eb,2,none⟩ (.slice (some ⟨w2.heap.size,0,none⟩) 1 1)).alloc (.cells #[.int .i64 1,.string nm,.slice none 0 0] 92)) tb s m /\
 NameB (((((w2.setCell ⟨tb,1,none⟩ (.int .i64 (m:Nat))).setCell ⟨eb,0,none⟩ (.int .i64 kk)).setCell ⟨eb,1,none⟩ (.string ⟨#[]⟩)).setCell ⟨eb,2,none⟩ (.slice (some ⟨w2.heap.size,0,none⟩) 1 1)).alloc (.cells #[.int .i64 1,.string nm,.slice none 0 0] 92)) w2.heap.size nm /\
 (((((w2.setCell ⟨tb,1,none⟩ (.int .i64 (m:Nat))).setCell ⟨eb,0,none⟩ (.int .i64 kk)).setCell ⟨eb,1,none⟩ (.string ⟨#[]⟩)).setCell ⟨eb,2,none⟩ (.slice (some ⟨w2.heap.size,0,none⟩) 1 1)).alloc (.cells #[.int .i64 1,.string nm,.slice none 0 0] 92)).heap[eb]?=some (.cells #[.int .i64 kk,.string ⟨#[]⟩,.slice (some ⟨w2.heap.size,0,none⟩) 1 1] 92 (0,0)) /\
 Upd (fun q=>q=tb\/q=eb) w2 (((((w2.setCell ⟨tb,1,none⟩ (.int .i64 (m:Nat))).setCell ⟨eb,0,none⟩ (.int .i64 kk)).setCell ⟨eb,1,none⟩ (.string ⟨#[]⟩)).setCell ⟨eb,2,none⟩ (.slice (some ⟨w2.heap.size,0,none⟩) 1 1)).alloc (.cells #[.int .i64 1,.string nm,.slice none 0 0] 92)):=by
 have hebl:=lB he
 have hu3:=set3U (w2.setCell ⟨tb,1,none⟩ (.int .i64 (m:Nat))) eb (.int .i64 kk) (.string ⟨#[]⟩) (.slice (some ⟨w2.heap.size,0,none⟩) 1 1)
 have hu1:Upd (fun q=>q=tb) w2 (w2.setCell ⟨tb,1,none⟩ (.int .i64 (m:Nat))):=Upd.x1v (S:=fun q=>q=tb) w2 (p:=⟨tb,1,none⟩) rfl _
 have he1:=(hu1.block eb hebl (fun h=>hne h.symm)).trans he
 have hsz:(w2.setCell ⟨tb,1,none⟩ (.int .i64 (m:Nat))).heap.size=w2.heap.size:=by simp[World.setCell]
 refine⟨?_,?_,?_,?_⟩
 ·exact(Below.heap_alloc _ _ _ (by have:=hT.cells.2.2;have:=hu3.size;omega)).trans ((hu3.block tb hT.cells.2.2 hne).trans hT)
 ·have:=heap_alloc_new ((((w2.setCell ⟨tb,1,none⟩ (.int .i64 (m:Nat))).setCell ⟨eb,0,none⟩ (.int .i64 kk)).setCell ⟨eb,1,none⟩ (.string ⟨#[]⟩)).setCell ⟨eb,2,none⟩ (.slice (some ⟨w2.heap.size,0,none⟩) 1 1)) (.cells #[.int .i64 1,.string nm,.slice none 0 0] 92)
  rw[show ((((w2.setCell ⟨tb,1,none⟩ (.int .i64 (m:Nat))).setCell ⟨eb,0,none⟩ (.int .i64 kk)).setCell ⟨eb,1,none⟩ (.string ⟨#[]⟩)).setCell ⟨eb,2,none⟩ (.slice (some ⟨w2.heap.size,0,none⟩) 1 1)).heap.size=w2.heap.size by simp[World.setCell]] at this
  exact this
 ·refine(Below.heap_alloc _ _ _ (by have:=hu3.size;omega)).trans ?_
  simp[World.setCell,Array.getElem?_modify] at he1 ⊢
  simp[he1]
 ·exact(hu1.mono (fun _ _ h=>.inl h)).trans (hu3.alloc _) (fun _ _ h=>.inr h)
/-- A text that is read, up to a place. -/
def PB (w:World) (tb:Nat) (s:ByteArray) (k:Nat):Prop:=w.heap[tb]?=some (.cells #[.string s,.int .i64 k,.bool false] 262 (0,0))
theorem PB.pure {tb:Nat} {s:ByteArray} {k:Nat} (h:PB w tb s k) (hu:Pure w w1):PB w1 tb s k:=(hu.block _ (lB h) (fun h=>h)).trans h
theorem PB.cells {tb:Nat} {s:ByteArray} {k:Nat} (h:PB w tb s k):(w.cell? ⟨tb,0,none⟩=some (.string s)/\w.cell? ⟨tb,1,none⟩=some (.int .i64 k)/\w.cell? ⟨tb,2,none⟩=some (.bool false))/\w.frozen? ⟨tb,1,none⟩=false/\tb < w.heap.size:=by
 have h':w.heap[tb]?=some (.cells #[.string s,.int .i64 k,.bool false] 262 (0,0)):=h
 refine⟨⟨?_,?_,?_⟩,?_,(lB h)⟩
 ·unfold World.cell?;simp only[h'];rfl
 ·unfold World.cell?;simp only[h'];rfl
 ·unfold World.cell?;simp only[h'];rfl
 ·simp[World.frozen?,h']
theorem PB.set {tb:Nat} {s:ByteArray} {k:Nat} (h:PB w tb s k) (m:Nat):PB (w.setCell ⟨tb,1,none⟩ (.int .i64 m)) tb s m:=by
 have h':w.heap[tb]?=some (.cells #[.string s,.int .i64 k,.bool false] 262 (0,0)):=h
 unfold PB
 simp[World.setCell,Array.getElem?_modify,h']
/-- The letters of a name with a sign. -/
theorem name_letters {s:ByteArray} {m:Nat} {kk:Int} (hn:x2r s m kk) (i:Nat) (hi:i < m) (h:i < s.size):97<=(s[i]'h).toNat/\(s[i]'h).toNat<=122:=by
 have h1:=hn.nm.in_ i (Nat.zero_le _) hi
 unfold nameB at h1
 rw[Bool.and_eq_true,List.all_eq_true] at h1
 have h2:=h1.1 (s[i]'h) (by
  have e:(s.extract i (i+1)).data=s.data.extract i (i+1):=by
   rw[ByteArray.data_extract]
  have h':i < s.data.size:=h
  rw[e]
  have:(s.data.extract i (i+1)).toList=[s.data[i]]:=by
   rw[Array.toList_extract]
   simp only[List.extract,Nat.add_sub_cancel_left]
   rw[List.drop_eq_getElem_cons (by simpa using h')]
   simp
  rw[this]
  simp
  rfl)
 simpa[lettB] using h2
theorem peek_end {tb:Nat} {s:ByteArray} (h:PB w tb s s.size) (hs:s.size<=1000) :
 Calls Tryz.prog 191 #[.pointer (some ⟨tb,0,none⟩)] w fun r w'=>r=.returned (.int .u8 0)/\Pure w w':=by
 have HT:=mK h
 have hlt:¬ ((s.size:Int) < (s.size:Int)):=by omega
 have hlt2:decide (s.size < s.size)=false:=by simp
 have heq2:(s.size == s.size)=true:=by simp
 clear h
 go_enter Tryz.func191,Tryz.ntmps191
 go_wp2
 go_loopg [] 0 (fun g wr=>As (wr=w))
 case atStart=>exact⟨rfl⟩
 case round=>
  obtain rfl:=hrel.o
  obtain⟨⟨c0,c1,c2⟩,f1,htb⟩:=HT.o.cells
  have c0d:wr.drew.cell? ⟨tb,0,none⟩=some (.string s):=c0
  have c1d:wr.drew.cell? ⟨tb,1,none⟩=some (.int .i64 s.size):=c1
  have c2d:wr.drew.cell? ⟨tb,2,none⟩=some (.bool false):=c2
  go_wp2
  refine wp_region_held_drew (S:=(fun v=>v.cell? ⟨tb,0,none⟩=some (.string s)/\v.cell? ⟨tb,1,none⟩=some (.int .i64 s.size)/\v.cell? ⟨tb,2,none⟩=some (.bool false))) (by kernel_rfl) ?_ (fun hHeld=>?_)
  ·exact⟨c0d,c1d,c2d⟩
  refine zH 0 ?_
  refine zH 1 ?_
  refine zH 2 ?_
  refine zH 3 ?_
  (try simp only[Act.put,sA,sB,sC])
  refine zH 4 ?_
  refine zH 5 ?_
  refine zH 6 ?_
  refine zH 7 ?_
  (try simp only[Act.put,sA,sB,sC])
  refine zH 8 ?_
  refine zH 9 ?_
  refine zH 10 ?_
  refine sH 11 ?_
  (try simp only[Act.put,sA,sB,sC])
  refine sH 12 ?_
  (try simp only[Act.put,sA,sB,sC])
  refine sH 13 ?_
  (try simp only[Act.put,sA,sB,sC])
  refine sH 14 ?_
  (try simp only[Act.put,sA,sB,sC])
  refine sH 15 ?_
  (try simp only[Act.put,sA,sB,sC])
  refine sH 16 ?_
  (try simp only[Act.put,sA,sB,sC])
  refine sH 17 ?_
  (try simp only[Act.put,sA,sB,sC])
  refine sH 18 ?_
  (try simp only[Act.put,sA,sB,sC])
  refine sH 19 ?_
  (try simp only[Act.put,sA,sB,sC])
  refine sH 20 ?_
  (try simp only[Act.put,sA,sB,sC])
  refine zH 21 ?_
  refine wpAnyH_done (by kernel_rfl) ?_ _
  go_wp2
  refine wp_region_held_drew (S:=(fun v=>v.cell? ⟨tb,0,none⟩=some (.string s)/\v.cell? ⟨tb,1,none⟩=some (.int .i64 s.size)/\v.cell? ⟨tb,2,none⟩=some (.bool false))) (by kernel_rfl) ?_ (fun hHeld=>?_)
  ·exact⟨c0d,c1d,c2d⟩
  refine zH 0 ?_
  refine zH 1 ?_
  refine zH 2 ?_
  (try simp only[Act.put,sA,sB,sC])
  refine zH 3 ?_
  refine zH 4 ?_
  refine zH 5 ?_
  refine zH 6 ?_
  (try simp only[Act.put,sA,sB,sC])
  refine zH 7 ?_
  refine zH 8 ?_
  refine zH 9 ?_
  refine zH 10 ?_
  (try simp only[Act.put,sA,sB,sC])
  refine zH 11 ?_
  refine zH 12 ?_
  refine zH 13 ?_
  refine zH 14 ?_
  (try simp only[Act.put,sA,sB,sC])
  refine zH 15 ?_
  refine wpAnyH_done (by kernel_rfl) ?_ _
  go_wp2
  go_ret
  exact⟨rfl,(rU.drew).drew⟩
theorem peek_at {tb k:Nat} {s:ByteArray} (h:PB w tb s k) (hk:k < s.size) (h32:(s[k] == 32)=false) (h0:1<=s[k].toNat) (hs:s.size<=1000) :
 Calls Tryz.prog 191 #[.pointer (some ⟨tb,0,none⟩)] w fun r w'=>r=.returned (.int .u8 s[k].toNat)/\Pure w w':=by
 have HT:=mK h
 have hlt:((k:Int) < (s.size:Int)):=by omega
 have hlt2:decide (k < s.size)=true:=by simp;exact hk
 have hlt3:decide ((k:Int) < (s.size:Int))=true:=by simp;omega
 have heq2:(k == s.size)=false:=by simp;omega
 have heq3:((k:Int) == (s.size:Int))=false:=by simp;omega
 have hb1:((s[k].toNat:Int) == 32)=false:=by
  have:s[k] ≠ 32:=by simpa using h32
  simp
  intro h
  apply this
  apply UInt8.toNat_inj.1
  have:s[k].toNat=32:=by omega
  rw[this];rfl
 have hb2:(s[k].toNat == 32)=false:=by
  simp at hb1 ⊢
  omega
 have hmx:max (s[k].toNat:Int) 1=(s[k].toNat:Int):=by omega
 clear h
 go_enter Tryz.func191,Tryz.ntmps191
 go_wp2
 go_loopg [] 0 (fun g wr=>As (wr=w))
 case atStart=>exact⟨rfl⟩
 case round=>
  obtain rfl:=hrel.o
  obtain⟨⟨c0,c1,c2⟩,f1,htb⟩:=HT.o.cells
  have c0d:wr.drew.cell? ⟨tb,0,none⟩=some (.string s):=c0
  have c1d:wr.drew.cell? ⟨tb,1,none⟩=some (.int .i64 k):=c1
  have c2d:wr.drew.cell? ⟨tb,2,none⟩=some (.bool false):=c2
  go_wp2
  refine wp_region_held_drew (S:=(fun v=>v.cell? ⟨tb,0,none⟩=some (.string s)/\v.cell? ⟨tb,1,none⟩=some (.int .i64 k)/\v.cell? ⟨tb,2,none⟩=some (.bool false))) (by kernel_rfl) ?_ (fun hHeld=>?_)
  ·exact⟨c0d,c1d,c2d⟩
  refine zH 0 ?_
  refine zH 1 ?_
  refine zH 2 ?_
  (try simp only[Act.put,sA,sB,sC])
  refine zH 3 ?_
  refine zH 4 ?_
  refine zH 5 ?_
  refine zH 6 ?_
  (try simp only[Act.put,sA,sB,sC])
  refine zH 7 ?_
  refine zH 8 ?_
  refine zH 9 ?_
  refine zH 10 ?_
  (try simp only[Act.put,sA,sB,sC])
  refine zH 11 ?_
  refine zH 12 ?_
  refine zH 13 ?_
  refine zH 14 ?_
  (try simp only[Act.put,sA,sB,sC])
  refine zH 15 ?_
  refine zH 16 ?_
  refine zH 17 ?_
  refine zH 18 ?_
  (try simp only[Act.put,sA,sB,sC])
  refine zH 19 ?_
  refine zH 20 ?_
  refine zH 21 ?_
  refine wpAnyH_done (by kernel_rfl) ?_ _
  go_wp2
  refine wp_region_held_drew (S:=(fun v=>v.cell? ⟨tb,0,none⟩=some (.string s)/\v.cell? ⟨tb,1,none⟩=some (.int .i64 k)/\v.cell? ⟨tb,2,none⟩=some (.bool false))) (by kernel_rfl) ?_ (fun hHeld=>?_)
  ·exact⟨c0d,c1d,c2d⟩
  refine zH 0 ?_
  (try simp only[Act.put,sA,sB,sC])
  refine zH 1 ?_
  refine zH 2 ?_
  refine zH 3 ?_
  refine zH 4 ?_
  (try simp only[Act.put,sA,sB,sC])
  refine zH 5 ?_
  refine zH 6 ?_
  refine zH 7 ?_
  refine zH 8 ?_
  (try simp only[Act.put,sA,sB,sC])
  refine zH 9 ?_
  refine zH 10 ?_
  refine zH 11 ?_
  refine zH 12 ?_
  (try simp only[Act.put,sA,sB,sC])
  refine zH 13 ?_
  refine zH 14 ?_
  refine zH 15 ?_
  refine wpAnyH_done (by kernel_rfl) ?_ _
  go_wp2
  refine wp_region_held_drew (S:=(fun v=>v.cell? ⟨tb,0,none⟩=some (.string s)/\v.cell? ⟨tb,1,none⟩=some (.int .i64 k)/\v.cell? ⟨tb,2,none⟩=some (.bool false))) (by kernel_rfl) ?_ (fun hHeld=>?_)
  ·exact⟨c0d,c1d,c2d⟩
  refine zH 0 ?_
  (try simp only[Act.put,sA,sB,sC])
  refine zH 1 ?_
  refine zH 2 ?_
  refine zH 3 ?_
  refine zH 4 ?_
  (try simp only[Act.put,sA,sB,sC])
  refine zH 5 ?_
  refine zH 6 ?_
  refine zH 7 ?_
  refine zH 8 ?_
  (try simp only[Act.put,sA,sB,sC])
  refine zH 9 ?_
  refine zH 10 ?_
  refine wpAnyH_done (by kernel_rfl) ?_ _
  go_wp2
  go_ret
  exact⟨rfl,((rU.drew).drew).drew⟩
theorem part_step6 {w2:World} {tb eb m:Nat} {s:ByteArray} {kk:Int} {x0 x1 x2:Value} (hT:PB w2 tb s m) (he:w2.heap[eb]?=some (.cells #[x0,x1,x2] 92 (0,0))) (hne:tb ≠ eb) (nm:ByteArray) (k:Nat) :
 PB (((((w2.setCell ⟨tb,1,none⟩ (.int .i64 (k:Nat))).setCell ⟨eb,0,none⟩ (.int .i64 kk)).setCell ⟨eb,1,none⟩ (.string ⟨#[]⟩)).setCell ⟨eb,2,none⟩ (.slice (some ⟨w2.heap.size,0,none⟩) 1 1)).alloc (.cells #[.int .i64 1,.string nm,.slice none 0 0] 92)) tb s k /\
 NameB (((((w2.setCell ⟨tb,1,none⟩ (.int .i64 (k:Nat))).setCell ⟨eb,0,none⟩ (.int .i64 kk)).setCell ⟨eb,1,none⟩ (.string ⟨#[]⟩)).setCell ⟨eb,2,none⟩ (.slice (some ⟨w2.heap.size,0,none⟩) 1 1)).alloc (.cells #[.int .i64 1,.string nm,.slice none 0 0] 92)) w2.heap.size nm /\
 (((((w2.setCell ⟨tb,1,none⟩ (.int .i64 (k:Nat))).setCell ⟨eb,0,none⟩ (.int .i64 kk)).setCell ⟨eb,1,none⟩ (.string ⟨#[]⟩)).setCell ⟨eb,2,none⟩ (.slice (some ⟨w2.heap.size,0,none⟩) 1 1)).alloc (.cells #[.int .i64 1,.string nm,.slice none 0 0] 92)).heap[eb]?=some (.cells #[.int .i64 kk,.string ⟨#[]⟩,.slice (some ⟨w2.heap.size,0,none⟩) 1 1] 92 (0,0)) /\
 Upd (fun q=>q=tb\/q=eb) w2 (((((w2.setCell ⟨tb,1,none⟩ (.int .i64 (k:Nat))).setCell ⟨eb,0,none⟩ (.int .i64 kk)).setCell ⟨eb,1,none⟩ (.string ⟨#[]⟩)).setCell ⟨eb,2,none⟩ (.slice (some ⟨w2.heap.size,0,none⟩) 1 1)).alloc (.cells #[.int .i64 1,.string nm,.slice none 0 0] 92)):=by
 have hebl:=lB he
 have htbl:=hT.cells.2.2
 have hT1:=hT.set k
 have hu1:Upd (fun q=>q=tb) w2 (w2.setCell ⟨tb,1,none⟩ (.int .i64 (k:Nat))):=Upd.x1v (S:=fun q=>q=tb) w2 (p:=⟨tb,1,none⟩) rfl _
 have he1:=(hu1.block eb hebl (fun h=>hne h.symm)).trans he
 have hsz:(w2.setCell ⟨tb,1,none⟩ (.int .i64 (k:Nat))).heap.size=w2.heap.size:=by simp[World.setCell]
 generalize w2.setCell ⟨tb,1,none⟩ (.int .i64 (k:Nat))=V at *
 have hu3:=set3U V eb (.int .i64 kk) (.string ⟨#[]⟩) (.slice (some ⟨w2.heap.size,0,none⟩) 1 1)
 have hx:(((V.setCell ⟨eb,0,none⟩ (.int .i64 kk)).setCell ⟨eb,1,none⟩ (.string ⟨#[]⟩)).setCell ⟨eb,2,none⟩ (.slice (some ⟨w2.heap.size,0,none⟩) 1 1)).heap[eb]?=some (.cells #[.int .i64 kk,.string ⟨#[]⟩,.slice (some ⟨w2.heap.size,0,none⟩) 1 1] 92 (0,0)):=by
  simp[World.setCell,Array.getElem?_modify,he1]
 have hxs:(((V.setCell ⟨eb,0,none⟩ (.int .i64 kk)).setCell ⟨eb,1,none⟩ (.string ⟨#[]⟩)).setCell ⟨eb,2,none⟩ (.slice (some ⟨w2.heap.size,0,none⟩) 1 1)).heap.size=w2.heap.size:=by simp[World.setCell] at hsz ⊢;exact hsz
 have hT2:PB (((V.setCell ⟨eb,0,none⟩ (.int .i64 kk)).setCell ⟨eb,1,none⟩ (.string ⟨#[]⟩)).setCell ⟨eb,2,none⟩ (.slice (some ⟨w2.heap.size,0,none⟩) 1 1)) tb s k:=(hu3.block tb (by omega) hne).trans hT1
 generalize ((V.setCell ⟨eb,0,none⟩ (.int .i64 kk)).setCell ⟨eb,1,none⟩ (.string ⟨#[]⟩)).setCell ⟨eb,2,none⟩ (.slice (some ⟨w2.heap.size,0,none⟩) 1 1)=V2 at *
 have hn:=heap_alloc_new V2 (.cells #[.int .i64 1,.string nm,.slice none 0 0] 92)
 rw[hxs] at hn
 exact⟨hT2.pure aU,hn,(Below.heap_alloc V2 _ eb (by omega)).trans hx,(hu1.mono (fun _ _ h=>.inl h)).trans (hu3.alloc _) (fun _ _ h=>.inr h)⟩
structure PartT (w:World) (tb:Nat) (s:ByteArray) (m eb:Nat) (wr:World):Prop where
 ht:PB wr tb s m
 eb:wr.heap[eb]?=some (.cells #[.int .i64 1,.string (s.extract 0 m),.slice none 0 0] 92 (0,0))
 rb:wr.heap[w.heap.size]?=some (.cells #[.int .i64 0,.string ⟨#[]⟩,.slice none 0 0] 92 (0,0))
 up:Upd (fun q=>q=tb) w wr
structure PartS (w:World) (tb:Nat) (s:ByteArray) (m:Nat) (kk:Int) (eb nb:Nat) (wr:World):Prop where
 ht:PB wr tb s s.size
 nm:NameB wr nb (s.extract 0 m)
 le:w.heap.size < nb
 eb:wr.heap[eb]?=some (.cells #[.int .i64 kk,.string ⟨#[]⟩,.slice (some ⟨nb,0,none⟩) 1 1] 92 (0,0))
 rb:wr.heap[w.heap.size]?=some (.cells #[.int .i64 0,.string ⟨#[]⟩,.slice none 0 0] 92 (0,0))
 up:Upd (fun q=>q=tb) w wr
theorem part6_name {tb m:Nat} {s:ByteArray} {kk:Int} (h:PB w tb s 0) (hn:x2r s m kk) :
 Calls Tryz.prog 219 #[.pointer (some ⟨tb,0,none⟩)] w fun r w'=>∃ nb,r=.returned (.agg #[.int .i64 kk,.string ⟨#[]⟩,.slice (some ⟨nb,0,none⟩) 1 1])/\NameB w' nb (s.extract 0 m)/\w.heap.size<=nb/\PB w' tb s s.size/\Upd (fun q=>q=tb) w w':=by
 have HLT:=mK (fun i hi h=>name_letters hn i hi h)
 have hms:=hn.nm.le
 have hm0:=hn.nm.lt
 have hlen:=hn.len
 have hsm:=hn.nm.small
 have htb:=h.cells.2.2
 have hT1:Pure w (w.alloc (.cells #[.int .i64 0,.string ⟨#[]⟩,.slice none 0 0] 92)):=Upd.alloc1 _ _ _
 obtain⟨a1,a2,a3⟩:=hn.c0 (by omega)
 obtain⟨f1,f2⟩:=HLT.o 0 hm0 (by omega)
 obtain⟨c0,hc0⟩:∃ c:Int,c=(s[0]'(by omega)).toNat:=⟨_,rfl⟩
 have g1:c0 >= 97:=by omega
 have g2:c0<=122:=by omega
 have HP0:=mK (show ∀ W,PB W tb s 0->Calls Tryz.prog 191 #[.pointer (some ⟨tb,0,none⟩)] W fun r w'=>r=.returned (.int .u8 c0)/\Pure W w' from fun W hT=>hc0 ▸ peek_at hT (by omega) a2 a3 hsm)
 have hsgn:=hn.sg (by omega)
 obtain⟨cm,hcm⟩:∃ c:Int,c=(s[m]'(by omega)).toNat:=⟨_,rfl⟩
 rw[<- hcm] at hsgn
 have hc32:((s[m]'(by omega)) == 32)=false:=by
  rw[beq_eq_false_iff_ne]
  intro e
  rw[e] at hcm
  have:cm=32:=hcm
  omega
 have HPM:=mK (show ∀ W,PB W tb s m->Calls Tryz.prog 191 #[.pointer (some ⟨tb,0,none⟩)] W fun r w'=>r=.returned (.int .u8 cm)/\Pure W w' from fun W hT=>hcm ▸ peek_at hT (by omega) hc32 (by omega) hsm)
 have HPE:=mK (fun W (hT:PB W tb s s.size)=>peek_end hT hsm)
 have HCM:=mK hcm
 have HSG:=mK hsgn
 have HT:=mK (h.pure hT1)
 have HT1:=mK hT1
 clear h hn a1 a2 a3 f1 f2 hc0 hcm hc32 hsgn hT1
 go_enter Tryz.func219,Tryz.ntmps219
 go_wp2_with (go_at_call 191;refine(HP0.o _ HT.o).mono ?_;rintro e w1 ⟨rfl,hu⟩;have HU1:=mK hu;clear hu;apply As.o)
 refine⟨?_⟩
 have hz1:=HU1.o.size
 simp at hz1
 have HRB:=mK ((HU1.o.block w.heap.size (by simp) (fun h=>h)).trans (heap_alloc_new w _))
 have HTB:=mK (HT.o.pure HU1.o)
 generalize hW:w1.alloc (.cells #[.int .i64 0,.string ⟨#[]⟩,.slice none 0 0] 92)=W
 have hPW:Pure w1 W:=hW ▸ Upd.alloc1 _ _ _
 have hWs:W.heap.size=w1.heap.size+1:=by rw[<- hW];simp
 have HEB:=mK (show W.heap[w1.heap.size]?=some (.cells #[.int .i64 0,.string ⟨#[]⟩,.slice none 0 0] 92 (0,0)) from hW ▸ heap_alloc_new _ _)
 have HPW:=mK hPW
 have HTW:=mK (HTB.o.pure hPW)
 clear hPW
 obtain⟨⟨z0,z1,z2⟩,z3,z4⟩:=HTW.o.cells
 go_wp2
 go_loopg [] m (fun g wr=>∃ i:Nat,i+g=m/\As (PB wr tb s i/\Upd (fun q=>q=tb) W wr))
 case atStart=>exact⟨0,by omega,⟨HTW.o,Upd.refl _ _⟩⟩
 case round=>
  obtain⟨i,hi,HP⟩:=hrel
  clear z0 z1 z2 z3
  obtain⟨⟨c0',c1',c2'⟩,f1,htb2⟩:=HP.o.1.cells
  have c0d:wr.drew.cell? ⟨tb,0,none⟩=some (.string s):=c0'
  have c1d:wr.drew.cell? ⟨tb,1,none⟩=some (.int .i64 i):=c1'
  have hisz:i < s.size:=by omega
  have hl1:((i:Int) < (s.size:Int)):=by omega
  have hl2:decide (i < s.size)=true:=by simp;omega
  have hl3:decide ((i:Int) < (s.size:Int))=true:=by simp;omega
  by_cases hlt:i < m
  ·obtain⟨g1',rfl⟩:∃ g,gk=g+1:=⟨gk - 1,by omega⟩
   obtain⟨l1,l2⟩:=HLT.o i hlt hisz
   have hwr:IntKind.i64.wrap ((i:Int)+1)=(i:Int)+1:=by rw[IntKind.wrap_i64];omega
   have HI:=mK hi
   generalize hsk:s[i]'hisz=cc at *
   have e1:decide ((97:Int)<=(cc.toNat:Int))=true:=by simp;omega
   have e2:decide ((cc.toNat:Int)<=122)=true:=by simp;omega
   clear hi l1 l2
   go_wp2
   refine wp_region_held_drew (S:=(fun v=>v.cell? ⟨tb,0,none⟩=some (.string s)/\v.cell? ⟨tb,1,none⟩=some (.int .i64 i))) (by kernel_rfl) ?_ (fun hHeld=>?_)
   ·exact⟨c0d,c1d⟩
   refine zH 0 ?_
   refine zH 1 ?_
   refine zH 2 ?_
   refine zH 3 ?_
   (try simp only[Act.put,sA,sB,sC])
   refine zH 4 ?_
   refine zH 5 ?_
   refine zH 6 ?_
   refine zH 7 ?_
   (try simp only[Act.put,sA,sB,sC])
   refine zH 8 ?_
   refine zH 9 ?_
   refine zH 10 ?_
   refine zH 11 ?_
   (try simp only[Act.put,sA,sB,sC])
   refine zH 12 ?_
   refine zH 13 ?_
   refine zH 14 ?_
   refine zH 15 ?_
   (try simp only[Act.put,sA,sB,sC])
   refine zH 16 ?_
   refine zH 17 ?_
   refine zH 18 ?_
   refine zH 19 ?_
   (try simp only[Act.put,sA,sB,sC])
   refine zH 20 ?_
   refine zH 21 ?_
   refine zH 22 ?_
   refine zH 23 ?_
   (try simp only[Act.put,sA,sB,sC])
   refine zH 24 ?_
   refine zH 25 ?_
   refine zH 26 ?_
   refine zH 27 ?_
   (try simp only[Act.put,sA,sB,sC])
   refine zH 28 ?_
   refine zH 29 ?_
   refine zH 30 ?_
   refine zH 31 ?_
   (try simp only[Act.put,sA,sB,sC])
   refine zH 32 ?_
   refine zH 33 ?_
   refine wpAnyH_done (by kernel_rfl) ?_ _
   go_wp2
   go_roundg g1'
   case measure=>omega
   case rel=>
    have hT2:=(HP.o.1.pure ((Upd.refl (fun _=>False) wr).drew)).set (i+1)
    exact⟨i+1,by have:=HI.o;omega,⟨hT2,(HP.o.2.trans ((Upd.refl (fun _=>False) wr).drew) (fun _ _ h=>h.elim)).setCell (p:=⟨tb,1,none⟩) (fun _=>rfl) _⟩⟩
  ·have him:i=m:=by omega
   subst him
   have hcm:=HCM.o
   have h97:cm < 97:=by rcases HSG.o with h | h | h <;> omega
   generalize hsk:s[i]'hisz=cc at *
   have e1:decide ((97:Int)<=(cc.toNat:Int))=false:=by simp;omega
   clear hi hcm h97
   go_wp2
   refine wp_region_held_drew (S:=(fun v=>v.cell? ⟨tb,0,none⟩=some (.string s)/\v.cell? ⟨tb,1,none⟩=some (.int .i64 i))) (by kernel_rfl) ?_ (fun hHeld=>?_)
   ·exact⟨c0d,c1d⟩
   refine zH 0 ?_
   refine zH 1 ?_
   (try simp only[Act.put,sA,sB,sC])
   refine zH 2 ?_
   refine zH 3 ?_
   refine zH 4 ?_
   refine zH 5 ?_
   (try simp only[Act.put,sA,sB,sC])
   refine zH 6 ?_
   refine zH 7 ?_
   refine zH 8 ?_
   refine zH 9 ?_
   (try simp only[Act.put,sA,sB,sC])
   refine zH 10 ?_
   refine zH 11 ?_
   refine zH 12 ?_
   refine zH 13 ?_
   (try simp only[Act.put,sA,sB,sC])
   refine zH 14 ?_
   refine zH 15 ?_
   refine zH 16 ?_
   refine zH 17 ?_
   (try simp only[Act.put,sA,sB,sC])
   refine zH 18 ?_
   refine zH 19 ?_
   refine zH 20 ?_
   refine zH 21 ?_
   (try simp only[Act.put,sA,sB,sC])
   refine zH 22 ?_
   refine sH 23 ?_
   (try simp only[Act.put,sA,sB,sC])
   refine sH 24 ?_
   (try simp only[Act.put,sA,sB,sC])
   refine sH 25 ?_
   (try simp only[Act.put,sA,sB,sC])
   refine sH 26 ?_
   (try simp only[Act.put,sA,sB,sC])
   refine sH 27 ?_
   (try simp only[Act.put,sA,sB,sC])
   refine sH 28 ?_
   (try simp only[Act.put,sA,sB,sC])
   refine sH 29 ?_
   (try simp only[Act.put,sA,sB,sC])
   refine sH 30 ?_
   (try simp only[Act.put,sA,sB,sC])
   refine sH 31 ?_
   (try simp only[Act.put,sA,sB,sC])
   refine sH 32 ?_
   (try simp only[Act.put,sA,sB,sC])
   refine zH 33 ?_
   refine wpAnyH_done (by kernel_rfl) ?_ _
   have heb:=(HP.o.2.block w1.heap.size (by omega) (by omega)).trans HEB.o
   have HEBr:=mK heb
   obtain⟨⟨_,_,_⟩,⟨ef0,ef1,ef2⟩,hebl⟩:=x11 heb
   have hne:¬ tb=w1.heap.size:=by omega
   have n0d:wr.drew.drew.cell? ⟨tb,0,none⟩=some (.string s):=c0'
   have n1d:wr.drew.drew.cell? ⟨tb,1,none⟩=some (.int .i64 i):=c1'
   have hsl1:(0:Int)<=(i:Int):=by omega
   have hsl2:(i:Int)<=(s.size:Int):=by omega
   clear heb
   go_wp2
   refine x0m (P:=Tryz.prog) (fun v=>(v.cell? ⟨tb,0,none⟩=some (.string s)/\v.cell? ⟨tb,1,none⟩=some (.int .i64 i))/\v.frozen? ⟨w1.heap.size,0,none⟩=false/\v.frozen? ⟨w1.heap.size,1,none⟩=false/\v.frozen? ⟨w1.heap.size,2,none⟩=false) 11 (by kernel_rfl) ?_ (fun hHeld=>?_)
   ·first | exact⟨⟨((set3U _ w1.heap.size _ _ _).cell htb2 hne).trans n0d,((set3U _ w1.heap.size _ _ _).cell htb2 hne).trans n1d⟩,by simp[World.frozen?_setCell,ef0],by simp[World.frozen?_setCell,ef1],by simp[World.frozen?_setCell,ef2]⟩ | exact⟨⟨n0d,n1d⟩,ef0,ef1,ef2⟩
   refine zT 0 ?_
   refine zT 1 ?_
   refine zT 2 ?_
   (try simp only[Act.put,sA,sB,sC])
   refine zT 3 ?_
   refine zT 4 ?_
   refine zT 5 ?_
   refine zT 6 ?_
   (try simp only[Act.put,sA,sB,sC])
   refine zT 7 ?_
   refine zT 8 ?_
   refine zT 9 ?_
   refine zT 10 ?_
   (try simp only[Act.put,sA,sB,sC])
   refine oT 11 (fun K hK=>?_)
   go_simp

   refine hK.out _ _ (fun h=>absurd rfl h) (fun hHeld=>?_)
   clear hK K
   (try simp only[Act.put,sA,sB,sC])
   refine x0l (by kernel_rfl) ?_ _
   have HF:As (PartT w tb s i w1.heap.size ((((wr.setCell ⟨w1.heap.size,0,none⟩ (.int .i64 1)).setCell ⟨w1.heap.size,1,none⟩ (.string (s.extract 0 i))).setCell ⟨w1.heap.size,2,none⟩ (.slice none 0 0)).drew.drew)):=⟨by
    have hu:=set3U wr w1.heap.size (.int .i64 1) (.string (s.extract 0 i)) (.slice none 0 0)
    have hx:(((wr.setCell ⟨w1.heap.size,0,none⟩ (.int .i64 1)).setCell ⟨w1.heap.size,1,none⟩ (.string (s.extract 0 i))).setCell ⟨w1.heap.size,2,none⟩ (.slice none 0 0)).heap[w1.heap.size]?=some (.cells #[.int .i64 1,.string (s.extract 0 i),.slice none 0 0] 92 (0,0)):=by
     simp[World.setCell,Array.getElem?_modify,HEBr.o]
    have h1:Upd (fun q=>q=tb) w wr:=(HT1.o.mono (fun _ _ h=>h.elim)).trans ((HU1.o.mono (fun _ _ h=>h.elim)).trans ((HPW.o.mono (fun _ _ h=>h.elim)).tt HP.o.2) (fun _ _ h=>h)) (fun _ _ h=>h)
    have hrb:=(HP.o.2.block w.heap.size (by omega) (by omega)).trans ((HPW.o.block w.heap.size (by omega) (fun h=>h)).trans HRB.o)
    refine⟨(hu.drew.drew.block tb htb2 hne).trans HP.o.1,hx,(hu.drew.drew.block w.heap.size (by have:=(lB hrb);omega) (by omega)).trans hrb,h1.trans hu.drew.drew (fun q hq h=>by omega)⟩⟩
   clear c0' c1' c2' f1 c0d c1d n0d n1d ef0 ef1 ef2
   go_wp2
   go_loopg [] 1 (fun g wx=>(g=1/\As (PartT w tb s i w1.heap.size wx))\/(g=0/\∃ nb,As (PartS w tb s i kk w1.heap.size nb wx)))
   case atStart=>exact .inl ⟨rfl,HF⟩
   case round=>
    rcases hrel with ⟨rfl,HR⟩ | ⟨rfl,nb,HR⟩
    ·go_wp2_with (go_at_call 191;refine(HPM.o _ HR.o.ht).mono ?_;rintro e w3 ⟨rfl,hu⟩;have HU3:=mK hu;clear hu;apply As.o)
     refine⟨?_⟩
     have hT3:=HR.o.ht.pure HU3.o
     have heb3:=(HU3.o.block w1.heap.size (lB HR.o.eb) (fun h=>h)).trans HR.o.eb
     have hrb3:=(HU3.o.block w.heap.size (lB HR.o.rb) (fun h=>h)).trans HR.o.rb
     obtain⟨⟨c0',c1',c2'⟩,f1,htb3⟩:=hT3.cells
     obtain⟨⟨e0,e1,e2⟩,⟨ef0,ef1,ef2⟩,hel⟩:=x11 heb3
     have hrl3:=lB hrb3
     have hwr:IntKind.i64.wrap ((i:Int)+1)=(i:Int)+1:=by rw[IntKind.wrap_i64];omega
     have hne2:¬ w1.heap.size=tb:=by omega
     have HT3:=mK hT3
     have HE3:=mK heb3
     have HRB3:=mK hrb3
     have HZ3:=mK HU3.o.size
     clear hT3 heb3 hrb3
     rcases HSG.o with ⟨rfl,rfl⟩ | ⟨rfl,rfl⟩ | ⟨rfl,rfl⟩
     all_goals go_wp2
     all_goals go_roundg 0
     all_goals first
      | (case measure=>omega)
      | (case rel=>
          obtain⟨p1,p2,p3,p4⟩:=part_step6 HT3.o HE3.o hne (s.extract 0 i) (i+1)
          refine .inr ⟨rfl,_,⟨⟨by rw[<- hlen];exact p1,p2,by have:=hrl3;omega,p3,(p4.block w.heap.size hrl3 (by omega)).trans HRB3.o,?_⟩⟩⟩
          exact(HR.o.up.trans HU3.o (fun _ _ h=>h.elim)).trans p4 (fun q hq h=>by omega))
    ·go_wp2_with (go_at_call 191;refine(HPE.o _ HR.o.ht).mono ?_;rintro e w3 ⟨rfl,hu⟩;have HU3:=mK hu;clear hu;apply As.o)
     refine⟨?_⟩
     have heb3:=(HU3.o.block w1.heap.size (lB HR.o.eb) (fun h=>h)).trans HR.o.eb
     have hrb3:=(HU3.o.block w.heap.size (lB HR.o.rb) (fun h=>h)).trans HR.o.rb
     obtain⟨⟨e0,e1,e2⟩,⟨ef0,ef1,ef2⟩,hel⟩:=x11 heb3
     obtain⟨⟨r0,r1,r2⟩,⟨rf0,rf1,rf2⟩,hrl⟩:=x11 hrb3
     clear heb3 hrb3
     go_wp2
     exact bodyPost_ret (v:=.agg #[.int .i64 kk,.string ⟨#[]⟩,.slice (some ⟨nb,0,none⟩) 1 1]) (by simp[results,Tryz.results219,go_sem,r0,r1,r2,rf0,rf1,rf2]) rfl ⟨nb,rfl,by
      have hnb:=lB HR.o.nm
      exact(((set3U w3 w.heap.size _ _ _).block nb (Nat.lt_of_lt_of_le hnb HU3.o.size) (by have:=HR.o.le;omega)).trans ((HU3.o.block nb hnb (fun h=>h)).trans HR.o.nm)),by have:=HR.o.le;omega,by
      have hT:=HR.o.ht.pure HU3.o
      exact((set3U w3 w.heap.size _ _ _).block tb hT.cells.2.2 (by omega)).trans hT,(HR.o.up.trans HU3.o (fun _ _ h=>h.elim)).trans (set3U w3 w.heap.size _ _ _) (fun q hq h=>absurd h (by omega))⟩
theorem join_one {lb:Nat} {k:Int} {x1:ByteArray} {x00:Int} {A2:Option Addr} {n2 c2:Nat} (h:w.heap[lb]?=some (.cells #[.int .i64 x00,.string x1,.slice A2 n2 c2] 92 (0,0))) :
 Calls Tryz.prog 214 #[.int .i64 k,.slice (some ⟨lb,0,none⟩) 1 c] w fun r w'=>r=.returned (.agg #[.int .i64 x00,.string x1,.slice A2 n2 c2])/\Pure w w':=by
 have hT1:Pure w (w.alloc (.cells #[.int .i64 0,.string ⟨#[]⟩,.slice none 0 0] 92)):=Upd.alloc1 _ _ _
 have hl:=lB h
 have h1:=(hT1.block lb hl (fun h=>h)).trans h
 obtain⟨⟨e0,e1,e2⟩,_,_⟩:=x11 h
 have hrb:=heap_alloc_new w (.cells #[.int .i64 0,.string ⟨#[]⟩,.slice none 0 0] 92)
 have HRB:=mK hrb
 have hne:¬ lb=w.heap.size:=by omega
 clear h h1 hrb hT1
 go_enter Tryz.func214,Tryz.ntmps214
 go_wp2
 obtain⟨⟨r0,r1,r2⟩,⟨rf0,rf1,rf2⟩,hrl⟩:=x11 HRB.o
 exact bodyPost_ret (v:=.agg #[.int .i64 x00,.string x1,.slice A2 n2 c2]) (by simp[results,Tryz.results214,go_sem,r0,r1,r2,rf0,rf1,rf2]) rfl ⟨rfl,Upd.alloc1 _ _ _⟩
abbrev PartPost6 (w:World) (tb:Nat) (s:ByteArray) (m:Nat) (kk:Int) (r:Ending) (w':World):Prop:=∃ nb,r=.returned (.agg #[.int .i64 kk,.string ⟨#[]⟩,.slice (some ⟨nb,0,none⟩) 1 1])/\NameB w' nb (s.extract 0 m)/\w.heap.size<=nb/\PB w' tb s s.size/\Upd (fun q=>q=tb) w w'
/-- What the reference parses a text to. -/
def x50 (s:ByteArray) (e:Ex):Prop:=∀ w:World,Calls Tryz.prog 164 #[.string s] w fun r w'=>∃ A c,r=.returned (.tuple #[e.val A c,.int .i64 s.size,.int .i64 0])/\e.l.length<=c/\exR.row w' (fun k=>w.heap.size<=k) A e.l/\Pure w w'
theorem parse6_empty:x50 ⟨#[]⟩ (.mk 0 ⟨#[]⟩ []):=by
 intro w
 have hT1:Pure w ((w.alloc (.cells #[.int .i64 0,.string ⟨#[]⟩,.slice none 0 0] 92)).alloc (.cells #[.string ⟨#[]⟩,.int .i64 0,.bool false] 262)):=aU.alloc _
 have hTB:PB ((w.alloc (.cells #[.int .i64 0,.string ⟨#[]⟩,.slice none 0 0] 92)).alloc (.cells #[.string ⟨#[]⟩,.int .i64 0,.bool false] 262)) (w.heap.size+1) ⟨#[]⟩ 0:=by
  have:=heap_alloc_new (w.alloc (.cells #[.int .i64 0,.string ⟨#[]⟩,.slice none 0 0] 92)) (.cells #[.string ⟨#[]⟩,.int .i64 0,.bool false] 262)
  rw[show (w.alloc (.cells #[.int .i64 0,.string ⟨#[]⟩,.slice none 0 0] 92)).heap.size=w.heap.size+1 by simp] at this
  exact this
 have HPE:=mK (peek_end (s:=⟨#[]⟩) hTB (by decide))
 have HT1:=mK hT1
 have HRB:=mK ((Below.heap_alloc (w.alloc (.cells #[.int .i64 0,.string ⟨#[]⟩,.slice none 0 0] 92)) (.cells #[.string ⟨#[]⟩,.int .i64 0,.bool false] 262) w.heap.size (by simp)).trans (heap_alloc_new w _))
 clear hT1 hTB
 go_enter Tryz.func164,Tryz.ntmps164
 go_wp2_with (go_at_call 191;refine HPE.o.mono ?_;rintro e w1 ⟨rfl,hu⟩;have HU1:=mK hu;clear hu;apply As.o)
 refine⟨?_⟩
 have hz1:=HU1.o.size
 simp at hz1
 have hrb1:=(HU1.o.block w.heap.size (by simp;omega) (fun h=>h)).trans HRB.o
 obtain⟨⟨r0,r1,r2⟩,⟨rf0,rf1,rf2⟩,hrl⟩:=x11 hrb1
 clear hrb1
 go_wp2
 exact bodyPost_ret (v:=.tuple #[.agg #[.int .i64 0,.string ⟨#[]⟩,.slice none 0 0],.int .i64 0,.int .i64 0]) (by simp[results,Tryz.results164,go_sem,r0,r1,r2,rf0,rf1,rf2]) rfl ⟨none,0,rfl,Nat.le_refl _,.inl rfl,(HT1.o.tt HU1.o).trans (set3U w1 w.heap.size _ _ _) (fun q hq h=>by omega)⟩
theorem seq6_name {tb m:Nat} {s:ByteArray} {kk:Int} (h:PB w tb s 0) (hn:x2r s m kk):Calls Tryz.prog 213 #[.pointer (some ⟨tb,0,none⟩)] w (PartPost6 w tb s m kk):=by
 have hsm:=hn.nm.small
 have htb:=h.cells.2.2
 have hT1:Pure w (w.alloc (.cells #[.int .i64 0,.string ⟨#[]⟩,.slice none 0 0] 92)):=Upd.alloc1 _ _ _
 have HPN:=mK (part6_name (h.pure hT1) hn)
 have HPE:=mK (fun (W:World) (hT:PB W tb s s.size)=>peek_end hT hsm)
 have HT1:=mK hT1
 have HRB:=mK (heap_alloc_new w (.cells #[.int .i64 0,.string ⟨#[]⟩,.slice none 0 0] 92))
 clear h hn hT1
 go_enter Tryz.func213,Tryz.ntmps213
 go_wp2_with (go_at_call 219;refine HPN.o.mono ?_;rintro e w1 ⟨nb,rfl,hnm,hnb,hT,hu⟩;have HNM:=mK hnm;have HNB:=mK hnb;have HTB:=mK hT;have HU1:=mK hu;clear hnm hnb hT hu;apply As.o)
 refine⟨?_⟩
 have hz1:=HU1.o.size
 simp at hz1
 have hnb0:=HNB.o
 simp at hnb0
 have hnbl:=lB HNM.o
 have hrb1:=(HU1.o.block w.heap.size (by simp) (by omega)).trans HRB.o
 generalize hW:w1.alloc (.cells #[.int .i64 kk,.string ⟨#[]⟩,.slice (some ⟨nb,0,none⟩) 1 1] 92)=W
 have hPW:Pure w1 W:=hW ▸ Upd.alloc1 _ _ _
 have hWs:W.heap.size=w1.heap.size+1:=by rw[<- hW];simp
 have HLB:=mK (show W.heap[w1.heap.size]?=some (.cells #[.int .i64 kk,.string ⟨#[]⟩,.slice (some ⟨nb,0,none⟩) 1 1] 92 (0,0)) from hW ▸ heap_alloc_new _ _)
 have HTW:=mK (HTB.o.pure hPW)
 have HRBW:=mK ((hPW.block w.heap.size (lB hrb1) (fun h=>h)).trans hrb1)
 have HNW:=mK (show NameB W nb (s.extract 0 m) from(hPW.block nb hnbl (fun h=>h)).trans HNM.o)
 have HUW:=mK (show Upd (fun q=>q=tb) w W from(HT1.o.mono (fun _ _ h=>h.elim)).trans (HU1.o.trans hPW (fun _ _ h=>h.elim)) (fun _ _ h=>h))
 clear hrb1 hPW
 go_wp2
 go_loopg [3] 0 (fun g lv wr=>lv=.slice (some ⟨w1.heap.size,0,none⟩) 1 1/\As (wr=W))
 case atStart=>exact⟨rfl,⟨rfl⟩⟩
 case round=>
  obtain⟨rfl,HWR⟩:=hrel
  obtain rfl:=HWR.o
  obtain⟨⟨c0,c1,c2⟩,f1,htb2⟩:=HTW.o.cells
  go_wp2_with (first | (go_at_call 191;refine(HPE.o _ HTW.o).mono ?_;rintro e w2 ⟨rfl,hu⟩;have HU2:=mK hu;clear hu) | (go_at_call 214;refine(join_one ((HU2.o.block _ (lB HLB.o) (fun h=>h)).trans HLB.o)).mono ?_;rintro e w3 ⟨rfl,hu⟩;have HU3:=mK (HU2.o.tt hu);clear hu;apply As.o))
  refine⟨?_⟩
  have hrb3:=(HU3.o.block w.heap.size (lB HRBW.o) (fun h=>h)).trans HRBW.o
  obtain⟨⟨r0,r1,r2⟩,⟨rf0,rf1,rf2⟩,hrl⟩:=x11 hrb3
  clear hrb3
  go_wp2
  exact bodyPost_ret (v:=.agg #[.int .i64 kk,.string ⟨#[]⟩,.slice (some ⟨nb,0,none⟩) 1 1]) (by simp[results,Tryz.results213,go_sem,r0,r1,r2,rf0,rf1,rf2]) rfl ⟨nb,rfl,by
   have hnm3:=(HU3.o.block nb (lB HNW.o) (fun h=>h)).trans HNW.o
   exact((set3U w3 w.heap.size _ _ _).block nb (lB hnm3) (by omega)).trans hnm3,by omega,by
   have hT:=HTW.o.pure HU3.o
   exact((set3U w3 w.heap.size _ _ _).block tb hT.cells.2.2 (by omega)).trans hT,(HUW.o.trans HU3.o (fun _ _ h=>h.elim)).trans (set3U w3 w.heap.size _ _ _) (fun q hq h=>absurd h (by omega))⟩
theorem alt6_name {tb m:Nat} {s:ByteArray} {kk:Int} (h:PB w tb s 0) (hn:x2r s m kk):Calls Tryz.prog 192 #[.pointer (some ⟨tb,0,none⟩)] w (PartPost6 w tb s m kk):=by
 have hsm:=hn.nm.small
 have htb:=h.cells.2.2
 have hT1:Pure w (w.alloc (.cells #[.int .i64 0,.string ⟨#[]⟩,.slice none 0 0] 92)):=Upd.alloc1 _ _ _
 have HPN:=mK (seq6_name (h.pure hT1) hn)
 have HPE:=mK (fun (W:World) (hT:PB W tb s s.size)=>peek_end hT hsm)
 have HT1:=mK hT1
 have HRB:=mK (heap_alloc_new w (.cells #[.int .i64 0,.string ⟨#[]⟩,.slice none 0 0] 92))
 clear h hn hT1
 go_enter Tryz.func192,Tryz.ntmps192
 go_wp2_with (go_at_call 213;refine HPN.o.mono ?_;rintro e w1 ⟨nb,rfl,hnm,hnb,hT,hu⟩;have HNM:=mK hnm;have HNB:=mK hnb;have HTB:=mK hT;have HU1:=mK hu;clear hnm hnb hT hu;apply As.o)
 refine⟨?_⟩
 have hz1:=HU1.o.size
 simp at hz1
 have hnb0:=HNB.o
 simp at hnb0
 have hnbl:=lB HNM.o
 have hrb1:=(HU1.o.block w.heap.size (by simp) (by omega)).trans HRB.o
 generalize hW:w1.alloc (.cells #[.int .i64 kk,.string ⟨#[]⟩,.slice (some ⟨nb,0,none⟩) 1 1] 92)=W
 have hPW:Pure w1 W:=hW ▸ Upd.alloc1 _ _ _
 have hWs:W.heap.size=w1.heap.size+1:=by rw[<- hW];simp
 have HLB:=mK (show W.heap[w1.heap.size]?=some (.cells #[.int .i64 kk,.string ⟨#[]⟩,.slice (some ⟨nb,0,none⟩) 1 1] 92 (0,0)) from hW ▸ heap_alloc_new _ _)
 have HTW:=mK (HTB.o.pure hPW)
 have HRBW:=mK ((hPW.block w.heap.size (lB hrb1) (fun h=>h)).trans hrb1)
 have HNW:=mK (show NameB W nb (s.extract 0 m) from(hPW.block nb hnbl (fun h=>h)).trans HNM.o)
 have HUW:=mK (show Upd (fun q=>q=tb) w W from(HT1.o.mono (fun _ _ h=>h.elim)).trans (HU1.o.trans hPW (fun _ _ h=>h.elim)) (fun _ _ h=>h))
 clear hrb1 hPW
 go_wp2
 go_loopg [3] 0 (fun g lv wr=>lv=.slice (some ⟨w1.heap.size,0,none⟩) 1 1/\As (wr=W))
 case atStart=>exact⟨rfl,⟨rfl⟩⟩
 case round=>
  obtain⟨rfl,HWR⟩:=hrel
  obtain rfl:=HWR.o
  obtain⟨⟨c0,c1,c2⟩,f1,htb2⟩:=HTW.o.cells
  go_wp2_with (first | (go_at_call 191;refine(HPE.o _ HTW.o).mono ?_;rintro e w2 ⟨rfl,hu⟩;have HU2:=mK hu;clear hu) | (go_at_call 214;refine(join_one ((HU2.o.block _ (lB HLB.o) (fun h=>h)).trans HLB.o)).mono ?_;rintro e w3 ⟨rfl,hu⟩;have HU3:=mK (HU2.o.tt hu);clear hu;apply As.o))
  refine⟨?_⟩
  have hrb3:=(HU3.o.block w.heap.size (lB HRBW.o) (fun h=>h)).trans HRBW.o
  obtain⟨⟨r0,r1,r2⟩,⟨rf0,rf1,rf2⟩,hrl⟩:=x11 hrb3
  clear hrb3
  go_wp2
  exact bodyPost_ret (v:=.agg #[.int .i64 kk,.string ⟨#[]⟩,.slice (some ⟨nb,0,none⟩) 1 1]) (by simp[results,Tryz.results192,go_sem,r0,r1,r2,rf0,rf1,rf2]) rfl ⟨nb,rfl,by
   have hnm3:=(HU3.o.block nb (lB HNW.o) (fun h=>h)).trans HNW.o
   exact((set3U w3 w.heap.size _ _ _).block nb (lB hnm3) (by omega)).trans hnm3,by omega,by
   have hT:=HTW.o.pure HU3.o
   exact((set3U w3 w.heap.size _ _ _).block tb hT.cells.2.2 (by omega)).trans hT,(HUW.o.trans HU3.o (fun _ _ h=>h.elim)).trans (set3U w3 w.heap.size _ _ _) (fun q hq h=>absurd h (by omega))⟩
end Go.Proofs.YtofjodppljnlaaaGreatDoor
