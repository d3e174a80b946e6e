/- My own texts, packed: EdAw. -/
import Derived.Test.YtofjodppljnlaaaGreatDoorP19
set_option maxRecDepth 100000
set_option maxHeartbeats 4000000
set_option linter.unusedVariables false
set_option linter.unusedSimpArgs false
variable {w w1 W:Go.World} {F G:Nat → Prop} {A B:Option Go.Addr} {cb c:Nat}
namespace Go.Proofs.YtofjodppljnlaaaGreatDoor
open Go.RowKit
theorem doc_repl {l sl:List Tok} {f t:Int} (hne:l ≠ []) (hr:tokR.row w F A l) (hlc:l.length<=c) (hs:tokR.row w G B sl) (hsc:sl.length<=cb)
 (h0:(x0a l).2=0) (h1:x0q (repl f t sl)=0) (h2:t<=l.length):DoC w A c l B cb (repl f t sl):=by
 obtain⟨b,o,rfl⟩:=x35 hr hne
 obtain⟨h3,h4,h5,h6,_⟩:=x27.1 h1
 have hl:=x4c h0
 have h4':0<=f:=h4
 have h5':f<=t:=h5
 have h3':sl.length<=2048:=h3
 intro W hW
 obtain⟨p,rfl⟩:=Int.eq_ofNat_of_zero_le h4'
 obtain⟨q,rfl⟩:=Int.eq_ofNat_of_zero_le (Int.le_trans h4' h5')
 have:=do_repl_some (A:=none) (p:=p) (q:=q) (Rp.x01 hr hW) hlc (Rp.x01 hs hW) hsc (by omega) (by omega) (by omega)
 rw[<- List.append_assoc] at this
 exact this
theorem Apply_repl {l sl:List Tok} {f t:Int} (hne:l ≠ []) (hr:tokR.row w F A l) (hlc:l.length<=c) (hb:l.length<=1048576 * 4) (hs:tokR.row w G B sl) (hsc:sl.length<=cb) (hsb:sl.length<=1048576 * 4) :
 Calls Tryz.prog 57 #[.slice A l.length c,(repl f t sl).val B cb] w (DocR w (x0t l (repl f t sl)) (x15 l (repl f t sl))):=
 Apply_calls (s:=repl f t sl) hr hs hb hsb (fun h0 h1 h2=>doc_repl hne hr hlc hs hsc h0 h1 h2)
end Go.Proofs.YtofjodppljnlaaaGreatDoor
