/- Several texts as one. -/
import Derived.Test.YtdgbckchckaagaaGreatDoorC5wR0
import Derived.Test.YtdgbckchckaagaaGreatDoorC5wR1
import Derived.Test.YtdgbckchckaagaaGreatDoorC5wR2
set_option linter.unusedSectionVars false
set_option linter.unusedVariables false
set_option linter.unusedSimpArgs false
namespace Go.Rv.C52
open Go.RowKit Go.Sg
theorem eG:Go.Proofs.Tryz.prog.follows .mixedOrders=true:=by kernel_rfl
theorem aAu {T:List Ent} (hT: ∀e∈T,sU Go.Proofs.Tryz.prog e):eO Go.Proofs.Tryz.prog (kR Go.Proofs.Tryz.prog (fun _=>false) 20000 (o8 T aAr) 200):=by
 exact uM eG _ 20000 (bGi hT aXi) 200
theorem all_nil {p:Ent→Prop}: ∀e∈([]:List Ent),p e:=fun e h=>by cases h
theorem v6 {p:Ent→Prop} {T:List Ent} {x:Ent} (h: ∀e∈T,p e) (hx:p x): ∀e∈T++[x],p e:=fun e he=>by
 rcases cEh.1 he with he|he
 ·exact h e he
 rw[cBq.1 he];exact hx
theorem bJw: ∀e∈([]:List Ent),sU Go.Proofs.Tryz.prog e:=all_nil
theorem bKd: ∀e∈[e0],sU Go.Proofs.Tryz.prog e:=v6 bJw (wB (aAu bJw) bLb)
theorem bJy: ∀e∈[e0,e1],sU Go.Proofs.Tryz.prog e:=v6 bKd (wB (aAu bKd) bNk)
theorem bKr: ∀e∈[e0,e1,e2],sU Go.Proofs.Tryz.prog e:=v6 bJy (wB (aAu bJy) bNr)
theorem bTy: ∀e∈[e0,e1,e2,e3],sU Go.Proofs.Tryz.prog e:=v6 bKr (wB (aAu bKr) bOh)
theorem bIc:(match kR Go.Proofs.Tryz.prog (fun _=>false) 20000 (o8 [e0,e1,e2,e3] aAr) 200 NG (.inl 6) [] (iW [0,1]) NG with|some (.bool b,_,_)=>b|_=>false)=true:=by kernel_rfl
theorem bAs:aO Go.Proofs.Tryz.prog 6=true:=by kernel_rfl
theorem bDn:xK [0,1]=true:=by kernel_rfl
theorem alive_ok (O:aV):bB Go.Proofs.Tryz.prog O 6 [] (.v (.bool true)):=by
 have h:=bIc;split at h
 ·next b h' n' he=>
  subst h;exact aOe _ bDn bAs (aAu bTy _ _ _ _ _ _ _ _ he (cCq _)) rfl rfl rfl O
 cases h
end Go.Rv.C52
