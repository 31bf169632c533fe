/- Several texts as one. -/
import Derived.Test.YtdgbckchckaagaaGreatDoorP7
set_option linter.unusedSectionVars false
set_option linter.unusedVariables false
set_option linter.unusedSimpArgs false
set_option maxRecDepth 20000
set_option maxHeartbeats 16000000
namespace Go.Sg
open Go.Proofs
theorem aOq (l:aE) (i:Int) (q:List bF):nmT l i (gC l (q.getD (q.length-1) default))=gZ l i q:=by
 show nmT l i (exQ l q)=(l.fSignals.getD i.toNat default).fName++⟨#[45]⟩++nmQ l (exQ l q);unfold nmT nmQ;by_cases h:exQ l q<0
 ·rw[if_pos h,if_neg aN,ByteArray.append_assoc];rfl
 rw[if_neg h,if_pos aN]
theorem aS (n:Nat):((n:Int)-1).toNat=n-1:=by omega
theorem bXj:(default:List bF)=[]:=rfl
theorem aRp {m:Nat} (hm:m≤2001):m+(⟨#[46]⟩:ByteArray).size≤maxLen:=by unfold maxLen;show m+1≤_;omega
theorem aQg {n m:Nat} (h:n≤21) (hm:m≤2001):m+(⟨#[46]⟩:ByteArray).size+n≤maxLen:=by unfold maxLen;show m+1+n≤_;omega
theorem aJ (a b c:ByteArray):a++b++c=a++(b++c):=ByteArray.append_assoc
def bVh (l:aE) (i:Int) (q:List bF) (nm:ByteArray):bI:=⟨nm,i,gC l (q.getD (q.length-1) default),q,pV l q,dC l q,cJ l (l.fSignals.getD i.toNat default).fAt.fEl,fQ l q,[],[],[],[],[],[]⟩
theorem bMx {l:aE} {i:Nat} {P:List (List bF)} {k:Nat} (h: ¬1<kI (gZ l i) (P.take (k+1)) (gZ l i (P.getD k []))):nbR l i P k=bVh l i (P.getD k []) (gZ l i (P.getD k [])):=by unfold nbR nR;rw[if_neg h];rfl
theorem bQq {l:aE} {i:Nat} {P:List (List bF)} {k:Nat} (h:1<kI (gZ l i) (P.take (k+1)) (gZ l i (P.getD k []))):nbR l i P k=bVh l i (P.getD k []) (gZ l i (P.getD k [])++(⟨#[46]⟩++fmt (kI (gZ l i) (P.take (k+1)) (gZ l i (P.getD k [])):Nat))):=by unfold nbR nR;rw[if_pos h];rfl
section
attribute [local go_sem] cBv bYf bYg bYj bYb bYz bZa bYt bYn bZc bYq bYi bYd bYe bYc bYo bYv bYp bYr bZb bYu bYy bYw bYs bYx bYl bYm bYk bYh bBs cAr or_self
set_option maxRecDepth 20000 in
theorem aFh (O:aV) (l:aE) (i:Nat) (hi:i<l.fSignals.length) (hl:hM l) (hes:kQ l=true) (hs: ∀i,i<l.fSignals.length→(l.fSignals.getD i default).fName.size≤1000):bB Tryz.prog O 105 [.agg (aQ l),vi (i:Nat)] (jL (eZ gP l (i:Nat))):=by
 have hl4:=hl.sg;have hgl:=aWt l (l.fSignals.getD i default).fAt (aK l (l.fSignals.getD i default).fAt).1;have hrg:srP l (aK l (l.fSignals.getD i default).fAt).1 13 (aK l (l.fSignals.getD i default).fAt).1 []=(gP l (l.fSignals.getD i default).fAt (aK l (l.fSignals.getD i default).fAt).1):=(aSe 13 (.inl ⟨rfl,rfl⟩) b7).symm;refine i7 Tryz.func105 rfl aZ fun w0 I0 A0=>?_;have hF:=wM w0 I0 (dZ A0) (GOf []);refine bD fun _ Z0=>bH hF ?_;refine aU [0,1] aZ ?_;((try simp only[go_sem,seval,bXj,aS,aF,aJ]);try simp (disch:=omega) only[go_sem,seval,bXj,aS,aF,aJ])
 repeat refine bZh bM ?_
 refine Z0 _ _ (bD fun _ Z1=>bD fun _ Z2=>bH hF ?_);refine aU [1,2] aZ ?_;((try simp only[go_sem,seval,bXj,aS,aF,aJ]);try simp (disch:=omega) only[go_sem,seval,bXj,aS,aF,aJ])
 repeat refine bZh bM ?_
 refine Z2 _ _ (fK (fun c0=>?_) fun c0=>?_)
 ·omega
 refine dN (Z1 _ _ (bD fun _ Z3=>bH hF ?_));refine dY (Le.keepC [1,2] _) ?_;refine oO [1,2,28,29,30,31,32,33,34,35,27,36,37,6,5] [] [] [[],[],[1],[],[1,2,3],[1,2,3,4],[1,2,3,4,5],[0,1,2,3,4,5,6],[0,1,2,3,4,5,6,7],[0,1,2,3,4,5,6,7,8],[0,1,2,3,4,5,6,7,8],[],[0,1,2,3,4,5,6,7,8,9,11],[0,1,2,3,4,5,6,7,8,9,10,11,12]] [[12],[12],[12],[12],[12],[12],[12],[12],[12],[12],[],[12],[],[]] (fun bQ=>cO O [(1,vi (i:Nat)),(2,.bx (aQ l)),(28,aX (bQ 0) (.agg (aQ l))),(29,aX (bQ 1) (.bp 2 4)),(30,aX (bQ 2) (mW l.fSignals)),(31,aX (bQ 3) (vi (i:Nat))),(32,aX (bQ 4) (.dp (fC (l.fSignals.getD i default)))),(33,aX (bQ 5) (.dp ((fC (l.fSignals.getD i default)).drop 1))),(34,aX (bQ 6) (.agg (cN (l.fSignals.getD i default).fAt))),(35,aX (bQ 7) (.tup [.agg (cN (aK l (l.fSignals.getD i default).fAt).1),vb (aK l (l.fSignals.getD i default).fAt).2])),(27,aX (bQ 8) (.tup [.agg (cN (aK l (l.fSignals.getD i default).fAt).1),vb (aK l (l.fSignals.getD i default).fAt).2])),(36,aX (bQ 9) (.agg (cN (aK l (l.fSignals.getD i default).fAt).1))),(37,aX (bQ 10) (vb (aK l (l.fSignals.getD i default).fAt).2)),(6,aX (bQ 13) (vb (aK l (l.fSignals.getD i default).fAt).2)),(5,jB (bQ 12) (bQ 11) (.bx (cN (aK l (l.fSignals.getD i default).fAt).1)) (.bx [vi 0,vi 0]))]) eG aZ aZ ?_ (fun iQ oQ hoQ bQ hbQ KQ hKQ=>?_) ?_
 ·((try simp only[go_sem,seval,bXj,aS,aF,aJ]);try simp (disch:=omega) only[go_sem,seval,bXj,aS,aF,aJ])<;>first|rfl|simp
 ·have hiQ:iQ<14:=(cBz.1 hoQ).1
  match iQ,hiQ with
  |0,_|1,_|2,_|3,_|4,_|5,_|6,_|8,_|9,_|10,_|11,_|12,_|13,_=>
   obtain rfl:=bZr hoQ;simp only[mK,fL,fM,cBe,cFm,cBm,bZk,cFt] at hbQ;show oJ _ _ _ false _ _;((try simp only[go_sem,seval,bXj,aS,aF,aJ,hbQ]);try simp (disch:=omega) only[go_sem,seval,bXj,aS,aF,aJ,hbQ])
   repeat refine bZh bM ?_
   refine hKQ _ ?_;((try simp only[go_sem,seval,bXj,aS,aF,aJ,hbQ]);try simp (disch:=omega) only[go_sem,seval,bXj,aS,aF,aJ,hbQ])<;>first|rfl|simp
  |7,_=>
   obtain rfl:=bZr hoQ;simp only[mK,fL,fM,cBe,cFm,cBm,bZk,cFt] at hbQ;show oJ _ _ _ false _ _;((try simp only[go_sem,seval,bXj,aS,aF,aJ,hbQ]);try simp (disch:=omega) only[go_sem,seval,bXj,aS,aF,aJ,hbQ])
   repeat refine bZh bM ?_
   refine dQ (gF _ l (l.fSignals.getD i default).fAt) ?_ ?_
   ·rfl
   try ((try simp only[go_sem,seval,bXj,aS,aF,aJ,hbQ]);try simp (disch:=omega) only[go_sem,seval,bXj,aS,aF,aJ,hbQ])
   repeat refine bZh bM ?_
   refine hKQ _ ?_;((try simp only[go_sem,seval,bXj,aS,aF,aJ,hbQ]);try simp (disch:=omega) only[go_sem,seval,bXj,aS,aF,aJ,hbQ])<;>first|rfl|simp
 ((try simp only[go_sem,seval,bXj,aS,aF,aJ]);try simp (disch:=omega) only[go_sem,seval,bXj,aS,aF,aJ])
 repeat refine bZh bM ?_
 refine Z3 _ _ (bD fun _ Z4=>bD fun _ Z5=>bH hF ?_);refine aU [1,2,5,6] aZ ?_;((try simp only[go_sem,seval,bXj,aS,aF,aJ]);try simp (disch:=omega) only[go_sem,seval,bXj,aS,aF,aJ])
 repeat refine bZh bM ?_
 refine Z5 _ _ (fK (fun c1=>?_) fun c1=>?_)
 ·have hjo:(aK l (l.fSignals.getD i default).fAt).2=false:=(by simpa using c1);refine bD fun _ Z6=>bH hF ?_;refine aU [] aZ ?_;((try simp only[go_sem,seval,bXj,aS,aF,aJ]);try simp (disch:=omega) only[go_sem,seval,bXj,aS,aF,aJ])
  repeat refine bZh bM ?_
  refine Z6 _ _ (lH ?_);have hw:cF (.v (.slice none 0 0)) (jL (eZ gP l (i:Nat))):=by rw[bQv hi hjo];exact cF.nilL _
  (try simp only[oD,lV]);refine d5 4 rfl (by ((try simp only[go_sem,seval,aF]);try simp (disch:=omega) only[go_sem,seval,aF])) ?_;exact cG.pure _ (by ((try simp only[go_sem,seval,aF]);try simp (disch:=omega) only[go_sem,seval,aF])<;>rfl) (by first|exact hw|(((try simp only[go_sem,seval,aF]);try simp (disch:=omega) only[go_sem,seval,aF]);exact hw)) rfl
 have hjo:(aK l (l.fSignals.getD i default).fAt).2=true:=(by simpa using c1);refine dN (Z4 _ _ (bD fun _ Z7=>bH hF ?_));refine aU [1,2,5] aZ ?_;((try simp only[go_sem,seval,bXj,aS,aF,aJ]);try simp (disch:=omega) only[go_sem,seval,bXj,aS,aF,aJ])
 repeat refine bZh bM ?_
 refine Z7 _ _ (bD fun _ Z8=>kM [] [] 67 1 rfl ?_);refine cQ (Le.keepC [1,2,5,7] _) ?_;refine fY ?_;show iU _ _ _ _ _ _ _ _;refine cH hF ?_;refine cC rfl aZ aZ ?_;((try simp only[go_sem,seval,bXj,aS,aF,aJ]);try simp (disch:=omega) only[go_sem,seval,bXj,aS,aF,aJ])
 repeat refine bZh bM ?_
 show iU _ _ _ _ _ _ _ _;refine cH hF ?_;refine cC rfl aZ aZ ?_;((try simp only[go_sem,seval,bXj,aS,aF,aJ]);try simp (disch:=omega) only[go_sem,seval,bXj,aS,aF,aJ])
 repeat refine bZh bM ?_
 show iU _ _ _ _ _ _ _ _;refine cH hF ?_;refine cC rfl aZ aZ ?_;((try simp only[go_sem,seval,bXj,aS,aF,aJ]);try simp (disch:=omega) only[go_sem,seval,bXj,aS,aF,aJ])
 repeat refine bZh bM ?_
 show iU _ _ _ _ _ _ _ _;refine cH hF ?_;refine cC rfl aZ aZ ?_;((try simp only[go_sem,seval,bXj,aS,aF,aJ]);try simp (disch:=omega) only[go_sem,seval,bXj,aS,aF,aJ])
 repeat refine bZh bM ?_
 show iU _ _ _ _ _ _ _ _;refine aFm (cur:=_) (rs:=[rgP iY []]) (s2:=[]) rfl rfl rfl gS aZ (by ((try simp only[go_sem,seval,bXj,aS,aF,aJ]);try simp (disch:=omega) only[go_sem,seval,bXj,aS,aF,aJ])) (by ((try simp only[go_sem,seval,bXj,aS,aF,aJ]);try simp (disch:=omega) only[go_sem,seval,bXj,aS,aF,aJ])) (by ((try simp only[go_sem,seval,bXj,aS,aF,aJ]);try simp (disch:=omega) only[go_sem,seval,bXj,aS,aF,aJ])<;>rfl) aZ (by ((try simp only[go_sem,seval,bXj,aS,aF,aJ]);try simp (disch:=omega) only[go_sem,seval,bXj,aS,aF,aJ])<;>exact List.Perm.refl _) (aQd [.bp 7 0,.agg (aQ l),.agg (cN (aK l (l.fSignals.getD i default).fAt).1),.agg (cN (aK l (l.fSignals.getD i default).fAt).1),cA []] (.cons (cF.refl _) (.cons (cF.refl _) (.cons (cF.refl _) (.cons (cF.refl _) (.cons (cF.nilL _) .nil))))) (vQ (f:=(aK l (l.fSignals.getD i default).fAt).1) hl 13 _ 7 iY [] (aK l (l.fSignals.getD i default).fAt).1 [] (by ((try simp only[go_sem,seval,bXj,aS,aF,aJ]);try simp (disch:=omega) only[go_sem,seval,bXj,aS,aF,aJ])<;>rfl) b7 b7 b7)) ?_;rintro rs3 O3 r3 ⟨h3,rfl,rfl,rfl⟩;rw[cEz,hrg]
 try ((try simp only[go_sem,seval,bXj,aS,aF,aJ]);try simp (disch:=omega) only[go_sem,seval,bXj,aS,aF,aJ])
 repeat refine bZh bM ?_
 refine Z8 _ _ (bD fun _ Z9=>?_);refine fE (s1:=[]) (s2:=[]) 7 0 (by first|rfl|(((try simp only[go_sem,seval]);try simp (disch:=omega) only[go_sem,seval]);done)|(((try simp only[go_sem,seval]);try simp (disch:=omega) only[go_sem,seval]);rfl)) (by rw[cAr];rfl) rfl (cF.frzL ePt (gP l (l.fSignals.getD i default).fAt (aK l (l.fSignals.getD i default).fAt).1)) rfl ?_;refine kM [] [] 121 14 rfl ?_;refine bH hF ?_;refine aU [1,2,7] aZ ?_;((try simp only[go_sem,seval,bXj,aS,aF,aJ]);try simp (disch:=omega) only[go_sem,seval,bXj,aS,aF,aJ])
 repeat refine bZh bM ?_
 refine Z9 _ _ (bD fun _ Z10=>bD fun _ Z11=>bH hF ?_);refine aU [1,2,7,8] aZ ?_;((try simp only[go_sem,seval,bXj,aS,aF,aJ]);try simp (disch:=omega) only[go_sem,seval,bXj,aS,aF,aJ])
 repeat refine bZh bM ?_
 refine Z11 _ _ (dL (gU [1,2,8,9,7] (fun n sF ρ=> ∃k,∃hx,n=(gP l (l.fSignals.getD i default).fAt (aK l (l.fSignals.getD i default).fAt).1).length-k∧sF=[.row hx 121 14 ((sS l i (gP l (l.fSignals.getD i default).fAt (aK l (l.fSignals.getD i default).fAt).1) k).map bR)]∧(k≤(gP l (l.fSignals.getD i default).fAt (aK l (l.fSignals.getD i default).fAt).1).length)∧ρ=cO O [(1,vi (i:Nat)),(2,.bx (aQ l)),(8,hx.sl k),(9,vi (k:Nat)),(7,.bx [encL 1 ePt (gP l (l.fSignals.getD i default).fAt (aK l (l.fSignals.getD i default).fAt).1)])]) _ ⟨0,iY,rfl,rfl,?_,?_⟩ ?_))
 ·exact bE
 ·((try simp only[go_sem,seval,bXj,aS,aF,aJ]);try simp (disch:=omega) only[go_sem,seval,bXj,aS,aF,aJ])<;>first|rfl|omega|simp|simp_all
 rintro n sF ρ ⟨k,hx,rfl,rfl,l0_0,rfl⟩ _ Z12;have hgm:=fun (j:Nat) (h:j<(gP l (l.fSignals.getD i default).fAt (aK l (l.fSignals.getD i default).fAt).1).length)=>aJc (l:=l) (n:=13) (a:=(aK l (l.fSignals.getD i default).fAt).1) (q:=[]) (p:=((gP l (l.fSignals.getD i default).fAt (aK l (l.fSignals.getD i default).fAt).1).getD j [])) b7 List.Pairwise.nil (gD h);have htl:=cBr k (gP l (l.fSignals.getD i default).fAt (aK l (l.fSignals.getD i default).fAt).1);have hfl:=aF l i (gP l (l.fSignals.getD i default).fAt (aK l (l.fSignals.getD i default).fAt).1) k;refine bD fun _ Z13=>bD fun _ Z14=>bH hF ?_;refine aU [1,2,7,8,9] aZ ?_;((try simp only[go_sem,seval,bXj,aS,aF,aJ]);try simp (disch:=omega) only[go_sem,seval,bXj,aS,aF,aJ])
 repeat refine bZh bM ?_
 refine Z14 _ _ (fK (fun c2=>?_) fun c2=>?_)
 ·refine dN (Z13 _ _ (bD fun _ Z15=>dL (bD fun _ Z16=>bH hF ?_)));refine aU [1,2,7,8,9] aZ ?_;((try simp only[go_sem,seval,bXj,aS,aF,aJ]);try simp (disch:=omega) only[go_sem,seval,bXj,aS,aF,aJ])
  repeat refine bZh bM ?_
  refine Z16 _ _ (bD fun _ Z17=>?_);have hpk:=hgm k aN;have hpk1:=hpk.1;have hpk2:=hpk.2.1;refine bH hF ?_;refine eC [1,2,7,8,9,10,56,57,58,59,60,61] [] eG aZ ?_;((try simp only[go_sem,seval,bXj,aS,aF,aJ]);try simp (disch:=omega) only[go_sem,seval,bXj,aS,aF,aJ])
  repeat refine bZh bM ?_
  refine dQ (nD _ l (((gP l (l.fSignals.getD i default).fAt (aK l (l.fSignals.getD i default).fAt).1).getD k []).getD (((gP l (l.fSignals.getD i default).fAt (aK l (l.fSignals.getD i default).fAt).1).getD k []).length-1) default)) ?_ ?_
  ·rfl
  try ((try simp only[go_sem,seval,bXj,aS,aF,aJ]);try simp (disch:=omega) only[go_sem,seval,bXj,aS,aF,aJ])
  repeat refine bZh bM ?_
  refine Z17 _ _ (bD fun _ Z18=>bH hF ?_);refine dY (Le.keepC [1,2,7,8,9,10,11,56,57,58,59,60,61] _) ?_;refine oO [1,8,9,7,2,10,11,74,75,76,77,78,79,80,81,82,83,84,85,86,87,88,89,90,13] [] [] [[],[],[],[0,1,2],[],[],[],[],[],[0,1,2,3,7,8],[],[],[0,1,2,3,7,8,9,10,11],[],[],[0,1,2,3,7,8,9,10,11,12,13,14],[0,1,2,3,4,5,6,7,8,9,10,11,12,13,14,15],[],[0,1,2,3,4,5,6,7,8,9,10,11,12,13,14,15,16,17]] [[18],[18],[18],[18],[18],[18],[18],[18],[18],[18],[18],[18],[18],[18],[18],[18],[18],[18],[]] (fun bQ=>cO O [(1,vi (i:Nat)),(8,hx.sl k),(9,vi (k:Nat)),(7,.bx [encL 1 ePt (gP l (l.fSignals.getD i default).fAt (aK l (l.fSignals.getD i default).fAt).1)]),(2,.bx (aQ l)),(10,cA ((gP l (l.fSignals.getD i default).fAt (aK l (l.fSignals.getD i default).fAt).1).getD k [])),(11,vi (gC l (((gP l (l.fSignals.getD i default).fAt (aK l (l.fSignals.getD i default).fAt).1).getD k []).getD (((gP l (l.fSignals.getD i default).fAt (aK l (l.fSignals.getD i default).fAt).1).getD k []).length-1) default))),(74,aX (bQ 0) (.agg (aQ l))),(75,aX (bQ 1) (vi (i:Nat))),(76,aX (bQ 2) (vi (gC l (((gP l (l.fSignals.getD i default).fAt (aK l (l.fSignals.getD i default).fAt).1).getD k []).getD (((gP l (l.fSignals.getD i default).fAt (aK l (l.fSignals.getD i default).fAt).1).getD k []).length-1) default)))),(77,aX (bQ 3) (vs (gZ l (i:Nat) ((gP l (l.fSignals.getD i default).fAt (aK l (l.fSignals.getD i default).fAt).1).getD k [])))),(78,aX (bQ 4) (vi (i:Nat))),(79,aX (bQ 5) (vi (gC l (((gP l (l.fSignals.getD i default).fAt (aK l (l.fSignals.getD i default).fAt).1).getD k []).getD (((gP l (l.fSignals.getD i default).fAt (aK l (l.fSignals.getD i default).fAt).1).getD k []).length-1) default)))),(80,aX (bQ 6) (cA ((gP l (l.fSignals.getD i default).fAt (aK l (l.fSignals.getD i default).fAt).1).getD k []))),(81,aX (bQ 7) (.agg (aQ l))),(82,aX (bQ 8) (cA ((gP l (l.fSignals.getD i default).fAt (aK l (l.fSignals.getD i default).fAt).1).getD k []))),(83,aX (bQ 9) (dJ (pV l ((gP l (l.fSignals.getD i default).fAt (aK l (l.fSignals.getD i default).fAt).1).getD k [])))),(84,aX (bQ 10) (.agg (aQ l))),(85,aX (bQ 11) (cA ((gP l (l.fSignals.getD i default).fAt (aK l (l.fSignals.getD i default).fAt).1).getD k []))),(86,aX (bQ 12) (bT (dC l ((gP l (l.fSignals.getD i default).fAt (aK l (l.fSignals.getD i default).fAt).1).getD k [])))),(87,aX (bQ 13) (.agg (aQ l))),(88,aX (bQ 14) (cA ((gP l (l.fSignals.getD i default).fAt (aK l (l.fSignals.getD i default).fAt).1).getD k []))),(89,aX (bQ 15) (vi (fQ l ((gP l (l.fSignals.getD i default).fAt (aK l (l.fSignals.getD i default).fAt).1).getD k [])))),(90,aX (bQ 16) (.agg [vs (gZ l (i:Nat) ((gP l (l.fSignals.getD i default).fAt (aK l (l.fSignals.getD i default).fAt).1).getD k [])),vi (i:Nat),vi (gC l (((gP l (l.fSignals.getD i default).fAt (aK l (l.fSignals.getD i default).fAt).1).getD k []).getD (((gP l (l.fSignals.getD i default).fAt (aK l (l.fSignals.getD i default).fAt).1).getD k []).length-1) default)),cA ((gP l (l.fSignals.getD i default).fAt (aK l (l.fSignals.getD i default).fAt).1).getD k []),dJ (pV l ((gP l (l.fSignals.getD i default).fAt (aK l (l.fSignals.getD i default).fAt).1).getD k [])),bT (dC l ((gP l (l.fSignals.getD i default).fAt (aK l (l.fSignals.getD i default).fAt).1).getD k [])),vi 0,vi (fQ l ((gP l (l.fSignals.getD i default).fAt (aK l (l.fSignals.getD i default).fAt).1).getD k [])),.v (.slice none 0 0),.v (.slice none 0 0),.v (.slice none 0 0),.v (.slice none 0 0),.v (.slice none 0 0),.v (.slice none 0 0)])),(13,jB (bQ 18) (bQ 17) (.bx [vs (gZ l (i:Nat) ((gP l (l.fSignals.getD i default).fAt (aK l (l.fSignals.getD i default).fAt).1).getD k [])),vi (i:Nat),vi (gC l (((gP l (l.fSignals.getD i default).fAt (aK l (l.fSignals.getD i default).fAt).1).getD k []).getD (((gP l (l.fSignals.getD i default).fAt (aK l (l.fSignals.getD i default).fAt).1).getD k []).length-1) default)),cA ((gP l (l.fSignals.getD i default).fAt (aK l (l.fSignals.getD i default).fAt).1).getD k []),dJ (pV l ((gP l (l.fSignals.getD i default).fAt (aK l (l.fSignals.getD i default).fAt).1).getD k [])),bT (dC l ((gP l (l.fSignals.getD i default).fAt (aK l (l.fSignals.getD i default).fAt).1).getD k [])),vi 0,vi (fQ l ((gP l (l.fSignals.getD i default).fAt (aK l (l.fSignals.getD i default).fAt).1).getD k [])),.v (.slice none 0 0),.v (.slice none 0 0),.v (.slice none 0 0),.v (.slice none 0 0),.v (.slice none 0 0),.v (.slice none 0 0)]) (.bx [vs ⟨#[]⟩,vi 0,vi 0,.v (.slice none 0 0),.v (.slice none 0 0),.v (.slice none 0 0),vi 0,vi 0,.v (.slice none 0 0),.v (.slice none 0 0),.v (.slice none 0 0),.v (.slice none 0 0),.v (.slice none 0 0),.v (.slice none 0 0)]))]) eG aZ aZ ?_ (fun iQ oQ hoQ bQ hbQ KQ hKQ=>?_) ?_
  ·((try simp only[go_sem,seval,bXj,aS,aF,aJ]);try simp (disch:=omega) only[go_sem,seval,bXj,aS,aF,aJ])<;>first|rfl|simp
  ·have hiQ:iQ<19:=(cBz.1 hoQ).1
   match iQ,hiQ with
   |0,_|1,_|2,_|4,_|5,_|6,_|7,_|8,_|10,_|11,_|13,_|14,_|16,_|17,_|18,_=>
    obtain rfl:=bZr hoQ;simp only[mK,fL,fM,cBe,cFm,cBm,bZk,cFt] at hbQ;show oJ _ _ _ false _ _;((try simp only[go_sem,seval,bXj,aS,aF,aJ,hbQ]);try simp (disch:=omega) only[go_sem,seval,bXj,aS,aF,aJ,hbQ])
    repeat refine bZh bM ?_
    refine hKQ _ ?_;((try simp only[go_sem,seval,bXj,aS,aF,aJ,hbQ]);try simp (disch:=omega) only[go_sem,seval,bXj,aS,aF,aJ,hbQ])<;>first|rfl|simp
   |3,_=>
    obtain rfl:=bZr hoQ;simp only[mK,fL,fM,cBe,cFm,cBm,bZk,cFt] at hbQ;show oJ _ _ _ false _ _;((try simp only[go_sem,seval,bXj,aS,aF,aJ,hbQ]);try simp (disch:=omega) only[go_sem,seval,bXj,aS,aF,aJ,hbQ])
    repeat refine bZh bM ?_
    refine dQ ((aOq l i ((gP l (l.fSignals.getD i default).fAt (aK l (l.fSignals.getD i default).fAt).1).getD k []))▸m7 _ l (i:Nat) (gC l (((gP l (l.fSignals.getD i default).fAt (aK l (l.fSignals.getD i default).fAt).1).getD k []).getD (((gP l (l.fSignals.getD i default).fAt (aK l (l.fSignals.getD i default).fAt).1).getD k []).length-1) default)) ⟨by omega,by omega⟩ (aRb l ((gP l (l.fSignals.getD i default).fAt (aK l (l.fSignals.getD i default).fAt).1).getD k [])).1 hs) ?_ ?_
    ·rfl
    try ((try simp only[go_sem,seval,bXj,aS,aF,aJ,hbQ]);try simp (disch:=omega) only[go_sem,seval,bXj,aS,aF,aJ,hbQ])
    repeat refine bZh bM ?_
    refine hKQ _ ?_;((try simp only[go_sem,seval,bXj,aS,aF,aJ,hbQ]);try simp (disch:=omega) only[go_sem,seval,bXj,aS,aF,aJ,hbQ])<;>first|rfl|simp
   |9,_=>
    obtain rfl:=bZr hoQ;simp only[mK,fL,fM,cBe,cFm,cBm,bZk,cFt] at hbQ;show oJ _ _ _ false _ _;((try simp only[go_sem,seval,bXj,aS,aF,aJ,hbQ]);try simp (disch:=omega) only[go_sem,seval,bXj,aS,aF,aJ,hbQ])
    repeat refine bZh bM ?_
    refine dQ (jE _ l ((gP l (l.fSignals.getD i default).fAt (aK l (l.fSignals.getD i default).fAt).1).getD k []) hl aN) ?_ ?_
    ·rfl
    try ((try simp only[go_sem,seval,bXj,aS,aF,aJ,hbQ]);try simp (disch:=omega) only[go_sem,seval,bXj,aS,aF,aJ,hbQ])
    repeat refine bZh bM ?_
    refine hKQ _ ?_;((try simp only[go_sem,seval,bXj,aS,aF,aJ,hbQ]);try simp (disch:=omega) only[go_sem,seval,bXj,aS,aF,aJ,hbQ])<;>first|rfl|simp
   |12,_=>
    obtain rfl:=bZr hoQ;simp only[mK,fL,fM,cBe,cFm,cBm,bZk,cFt] at hbQ;show oJ _ _ _ false _ _;((try simp only[go_sem,seval,bXj,aS,aF,aJ,hbQ]);try simp (disch:=omega) only[go_sem,seval,bXj,aS,aF,aJ,hbQ])
    repeat refine bZh bM ?_
    refine dQ (gM _ l ((gP l (l.fSignals.getD i default).fAt (aK l (l.fSignals.getD i default).fAt).1).getD k []) hl aN) ?_ ?_
    ·rfl
    try ((try simp only[go_sem,seval,bXj,aS,aF,aJ,hbQ]);try simp (disch:=omega) only[go_sem,seval,bXj,aS,aF,aJ,hbQ])
    repeat refine bZh bM ?_
    refine hKQ _ ?_;((try simp only[go_sem,seval,bXj,aS,aF,aJ,hbQ]);try simp (disch:=omega) only[go_sem,seval,bXj,aS,aF,aJ,hbQ])<;>first|rfl|simp
   |15,_=>
    obtain rfl:=bZr hoQ;simp only[mK,fL,fM,cBe,cFm,cBm,bZk,cFt] at hbQ;show oJ _ _ _ false _ _;((try simp only[go_sem,seval,bXj,aS,aF,aJ,hbQ]);try simp (disch:=omega) only[go_sem,seval,bXj,aS,aF,aJ,hbQ])
    repeat refine bZh bM ?_
    refine dQ (pS _ l ((gP l (l.fSignals.getD i default).fAt (aK l (l.fSignals.getD i default).fAt).1).getD k []) hl hes aN) ?_ ?_
    ·rfl
    try ((try simp only[go_sem,seval,bXj,aS,aF,aJ,hbQ]);try simp (disch:=omega) only[go_sem,seval,bXj,aS,aF,aJ,hbQ])
    repeat refine bZh bM ?_
    refine hKQ _ ?_;((try simp only[go_sem,seval,bXj,aS,aF,aJ,hbQ]);try simp (disch:=omega) only[go_sem,seval,bXj,aS,aF,aJ,hbQ])<;>first|rfl|simp
  ((try simp only[go_sem,seval,bXj,aS,aF,aJ]);try simp (disch:=omega) only[go_sem,seval,bXj,aS,aF,aJ])
  repeat refine bZh bM ?_
  refine Z18 _ _ (bD fun _ Z19=>bH hF ?_);refine dY (Le.keepC [1,2,7,8,9,11,13] _) ?_;refine oO [1,8,9,7,2,11,91,92,93,94,95,96,97,98,99,100,13] [] [] [[],[],[1],[],[1,2,3],[1,2,3,4],[1,2,3,4,5],[1,2,3,4,5,6],[0,1,2,3,4,5,6,7],[0,1,2,3,4,5,6,7,8],[0,1,2,3,4,5,6,7,8,9]] [[10],[10],[10],[10],[10],[10],[10],[10],[10],[10],[]] (fun bQ=>cO O [(1,vi (i:Nat)),(8,hx.sl k),(9,vi (k:Nat)),(7,.bx [encL 1 ePt (gP l (l.fSignals.getD i default).fAt (aK l (l.fSignals.getD i default).fAt).1)]),(2,.bx (aQ l)),(11,vi (gC l (((gP l (l.fSignals.getD i default).fAt (aK l (l.fSignals.getD i default).fAt).1).getD k []).getD (((gP l (l.fSignals.getD i default).fAt (aK l (l.fSignals.getD i default).fAt).1).getD k []).length-1) default))),(91,aX (bQ 0) (.agg (aQ l))),(92,aX (bQ 1) (.bp 2 4)),(93,aX (bQ 2) (mW l.fSignals)),(94,aX (bQ 3) (vi (i:Nat))),(95,aX (bQ 4) (.dp (fC (l.fSignals.getD i default)))),(96,aX (bQ 5) (.dp ((fC (l.fSignals.getD i default)).drop 1))),(97,aX (bQ 6) (.dp ((fC (l.fSignals.getD i default)).drop 1))),(98,aX (bQ 7) (vi (l.fSignals.getD i default).fAt.fEl)),(99,aX (bQ 8) (vi (cJ l (l.fSignals.getD i default).fAt.fEl))),(100,aX (bQ 9) (.bp 13 6)),(13,jB (bQ 10) true (.bx [vs (gZ l (i:Nat) ((gP l (l.fSignals.getD i default).fAt (aK l (l.fSignals.getD i default).fAt).1).getD k [])),vi (i:Nat),vi (gC l (((gP l (l.fSignals.getD i default).fAt (aK l (l.fSignals.getD i default).fAt).1).getD k []).getD (((gP l (l.fSignals.getD i default).fAt (aK l (l.fSignals.getD i default).fAt).1).getD k []).length-1) default)),cA ((gP l (l.fSignals.getD i default).fAt (aK l (l.fSignals.getD i default).fAt).1).getD k []),dJ (pV l ((gP l (l.fSignals.getD i default).fAt (aK l (l.fSignals.getD i default).fAt).1).getD k [])),bT (dC l ((gP l (l.fSignals.getD i default).fAt (aK l (l.fSignals.getD i default).fAt).1).getD k [])),vi (cJ l (l.fSignals.getD i default).fAt.fEl),vi (fQ l ((gP l (l.fSignals.getD i default).fAt (aK l (l.fSignals.getD i default).fAt).1).getD k [])),.v (.slice none 0 0),.v (.slice none 0 0),.v (.slice none 0 0),.v (.slice none 0 0),.v (.slice none 0 0),.v (.slice none 0 0)]) (.bx [vs (gZ l (i:Nat) ((gP l (l.fSignals.getD i default).fAt (aK l (l.fSignals.getD i default).fAt).1).getD k [])),vi (i:Nat),vi (gC l (((gP l (l.fSignals.getD i default).fAt (aK l (l.fSignals.getD i default).fAt).1).getD k []).getD (((gP l (l.fSignals.getD i default).fAt (aK l (l.fSignals.getD i default).fAt).1).getD k []).length-1) default)),cA ((gP l (l.fSignals.getD i default).fAt (aK l (l.fSignals.getD i default).fAt).1).getD k []),dJ (pV l ((gP l (l.fSignals.getD i default).fAt (aK l (l.fSignals.getD i default).fAt).1).getD k [])),bT (dC l ((gP l (l.fSignals.getD i default).fAt (aK l (l.fSignals.getD i default).fAt).1).getD k [])),vi 0,vi (fQ l ((gP l (l.fSignals.getD i default).fAt (aK l (l.fSignals.getD i default).fAt).1).getD k [])),.v (.slice none 0 0),.v (.slice none 0 0),.v (.slice none 0 0),.v (.slice none 0 0),.v (.slice none 0 0),.v (.slice none 0 0)]))]) eG aZ aZ ?_ (fun iQ oQ hoQ bQ hbQ KQ hKQ=>?_) ?_
  ·((try simp only[go_sem,seval,bXj,aS,aF,aJ]);try simp (disch:=omega) only[go_sem,seval,bXj,aS,aF,aJ])<;>first|rfl|simp
  ·have hiQ:iQ<11:=(cBz.1 hoQ).1
   match iQ,hiQ with
   |0,_|1,_|2,_|3,_|4,_|5,_|6,_|7,_|9,_|10,_=>
    obtain rfl:=bZr hoQ;simp only[mK,fL,fM,cBe,cFm,cBm,bZk,cFt] at hbQ;show oJ _ _ _ false _ _;((try simp only[go_sem,seval,bXj,aS,aF,aJ,hbQ]);try simp (disch:=omega) only[go_sem,seval,bXj,aS,aF,aJ,hbQ])
    repeat refine bZh bM ?_
    refine hKQ _ ?_;((try simp only[go_sem,seval,bXj,aS,aF,aJ,hbQ]);try simp (disch:=omega) only[go_sem,seval,bXj,aS,aF,aJ,hbQ])<;>first|rfl|simp
   |8,_=>
    obtain rfl:=bZr hoQ;simp only[mK,fL,fM,cBe,cFm,cBm,bZk,cFt] at hbQ;show oJ _ _ _ false _ _;((try simp only[go_sem,seval,bXj,aS,aF,aJ,hbQ]);try simp (disch:=omega) only[go_sem,seval,bXj,aS,aF,aJ,hbQ])
    repeat refine bZh bM ?_
    refine dQ (eT _ l (l.fSignals.getD i default).fAt.fEl) ?_ ?_
    ·rfl
    try ((try simp only[go_sem,seval,bXj,aS,aF,aJ,hbQ]);try simp (disch:=omega) only[go_sem,seval,bXj,aS,aF,aJ,hbQ])
    repeat refine bZh bM ?_
    refine hKQ _ ?_;((try simp only[go_sem,seval,bXj,aS,aF,aJ,hbQ]);try simp (disch:=omega) only[go_sem,seval,bXj,aS,aF,aJ,hbQ])<;>first|rfl|simp
  ((try simp only[go_sem,seval,bXj,aS,aF,aJ]);try simp (disch:=omega) only[go_sem,seval,bXj,aS,aF,aJ])
  repeat refine bZh bM ?_
  refine Z19 _ _ (bD fun _ Z20=>bH hF ?_);refine aU [1,2,7,8,9,11,13] aZ ?_;((try simp only[go_sem,seval,bXj,aS,aF,aJ]);try simp (disch:=omega) only[go_sem,seval,bXj,aS,aF,aJ])
  repeat refine bZh bM ?_
  refine Z20 _ _ (bD fun _ Z21=>bD fun _ Z22=>bH hF ?_);refine aU [1,2,7,8,9,11,13,14] aZ ?_;((try simp only[go_sem,seval,bXj,aS,aF,aJ]);try simp (disch:=omega) only[go_sem,seval,bXj,aS,aF,aJ])
  repeat refine bZh bM ?_
  refine Z22 _ _ (dL (gU [1,2,8,9,11,13,14,15,7] (fun n sF ρ=> ∃j,n=k-j∧sF=[.row hx 121 14 ((sS l i (gP l (l.fSignals.getD i default).fAt (aK l (l.fSignals.getD i default).fAt).1) k).map bR)]∧(j≤k)∧ρ=cO O [(1,vi (i:Nat)),(2,.bx (aQ l)),(8,hx.sl k),(9,vi (k:Nat)),(11,vi (gC l (((gP l (l.fSignals.getD i default).fAt (aK l (l.fSignals.getD i default).fAt).1).getD k []).getD (((gP l (l.fSignals.getD i default).fAt (aK l (l.fSignals.getD i default).fAt).1).getD k []).length-1) default))),(13,.bx [vs (gZ l (i:Nat) ((gP l (l.fSignals.getD i default).fAt (aK l (l.fSignals.getD i default).fAt).1).getD k [])),vi (i:Nat),vi (gC l (((gP l (l.fSignals.getD i default).fAt (aK l (l.fSignals.getD i default).fAt).1).getD k []).getD (((gP l (l.fSignals.getD i default).fAt (aK l (l.fSignals.getD i default).fAt).1).getD k []).length-1) default)),cA ((gP l (l.fSignals.getD i default).fAt (aK l (l.fSignals.getD i default).fAt).1).getD k []),dJ (pV l ((gP l (l.fSignals.getD i default).fAt (aK l (l.fSignals.getD i default).fAt).1).getD k [])),bT (dC l ((gP l (l.fSignals.getD i default).fAt (aK l (l.fSignals.getD i default).fAt).1).getD k [])),vi (cJ l (l.fSignals.getD i default).fAt.fEl),vi (fQ l ((gP l (l.fSignals.getD i default).fAt (aK l (l.fSignals.getD i default).fAt).1).getD k [])),.v (.slice none 0 0),.v (.slice none 0 0),.v (.slice none 0 0),.v (.slice none 0 0),.v (.slice none 0 0),.v (.slice none 0 0)]),(14,vi ((kI (gZ l i) ((gP l (l.fSignals.getD i default).fAt (aK l (l.fSignals.getD i default).fAt).1).take j) (gZ l (i:Nat) ((gP l (l.fSignals.getD i default).fAt (aK l (l.fSignals.getD i default).fAt).1).getD k [])):Nat)+1)),(15,vi (j:Nat)),(7,.bx [encL 1 ePt (gP l (l.fSignals.getD i default).fAt (aK l (l.fSignals.getD i default).fAt).1)])]) _ ⟨0,rfl,rfl,?_,?_⟩ ?_))
  ·exact bE
  ·((try simp only[go_sem,seval,bXj,aS,aF,aJ]);try simp (disch:=omega) only[go_sem,seval,bXj,aS,aF,aJ])<;>first|rfl|omega|simp|simp_all
  rintro n sF ρ ⟨j,rfl,rfl,l1_0,rfl⟩ _ Z23;have hcl:=aQv (gZ l i) ((gP l (l.fSignals.getD i default).fAt (aK l (l.fSignals.getD i default).fAt).1).take j) (gZ l (i:Nat) ((gP l (l.fSignals.getD i default).fAt (aK l (l.fSignals.getD i default).fAt).1).getD k []));have hjl:=cBr j (gP l (l.fSignals.getD i default).fAt (aK l (l.fSignals.getD i default).fAt).1);refine bD fun _ Z24=>bD fun _ Z25=>bH hF ?_;refine aU [1,2,7,8,9,11,13,14,15] aZ ?_;((try simp only[go_sem,seval,bXj,aS,aF,aJ]);try simp (disch:=omega) only[go_sem,seval,bXj,aS,aF,aJ])
  repeat refine bZh bM ?_
  refine Z25 _ _ (fK (fun c3=>?_) fun c3=>?_)
  ·refine dN (Z24 _ _ (bD fun _ Z26=>dL (bD fun _ Z27=>?_)));have hpj:=hgm j aN;have hpj1:=hpj.1;have hpj2:=hpj.2.1;refine bH hF ?_;refine dY (Le.keepC [1,2,7,8,9,11,13,14,15] _) ?_;refine oO [1,8,9,7,11,13,14,15,2,107,108,109,110,111,112,113,114,115,116,117,118,119,120,121,122,123,124,125,126,106,127,128,16,17] [] [] [[],[],[1],[1,2],[1,2,3],[],[1,2,3,4,5],[1,2,3,4,5,6],[],[8],[8,9],[8,9,10],[],[8,9,10,11,12],[8,9,10,11,12,13],[8,9,10,11,12,13,14],[8,9,10,11,12,13,14,15],[1,2,3,4,5,6,7,8,9,10,11,12,13,14,15,16],[1,2,3,4,5,6,7,8,9,10,11,12,13,14,15,16,17],[0,1,2,3,4,5,6,7,8,9,10,11,12,13,14,15,16,17,18],[0,1,2,3,4,5,6,7,8,9,10,11,12,13,14,15,16,17,18,19],[0,1,2,3,4,5,6,7,8,9,10,11,12,13,14,15,16,17,18,19,20],[0,1,2,3,4,5,6,7,8,9,10,11,12,13,14,15,16,17,18,19,20],[0,1,2,3,4,5,6,7,8,9,10,11,12,13,14,15,16,17,18,19,20,21],[0,1,2,3,4,5,6,7,8,9,10,11,12,13,14,15,16,17,18,19,20,21,22,23]] [[],[],[],[],[],[],[],[],[],[],[],[],[],[],[],[],[],[],[],[],[],[],[],[],[]] (fun bQ=>cO O [(1,vi (i:Nat)),(8,hx.sl k),(9,vi (k:Nat)),(7,.bx [encL 1 ePt (gP l (l.fSignals.getD i default).fAt (aK l (l.fSignals.getD i default).fAt).1)]),(11,vi (gC l (((gP l (l.fSignals.getD i default).fAt (aK l (l.fSignals.getD i default).fAt).1).getD k []).getD (((gP l (l.fSignals.getD i default).fAt (aK l (l.fSignals.getD i default).fAt).1).getD k []).length-1) default))),(13,.bx [vs (gZ l (i:Nat) ((gP l (l.fSignals.getD i default).fAt (aK l (l.fSignals.getD i default).fAt).1).getD k [])),vi (i:Nat),vi (gC l (((gP l (l.fSignals.getD i default).fAt (aK l (l.fSignals.getD i default).fAt).1).getD k []).getD (((gP l (l.fSignals.getD i default).fAt (aK l (l.fSignals.getD i default).fAt).1).getD k []).length-1) default)),cA ((gP l (l.fSignals.getD i default).fAt (aK l (l.fSignals.getD i default).fAt).1).getD k []),dJ (pV l ((gP l (l.fSignals.getD i default).fAt (aK l (l.fSignals.getD i default).fAt).1).getD k [])),bT (dC l ((gP l (l.fSignals.getD i default).fAt (aK l (l.fSignals.getD i default).fAt).1).getD k [])),vi (cJ l (l.fSignals.getD i default).fAt.fEl),vi (fQ l ((gP l (l.fSignals.getD i default).fAt (aK l (l.fSignals.getD i default).fAt).1).getD k [])),.v (.slice none 0 0),.v (.slice none 0 0),.v (.slice none 0 0),.v (.slice none 0 0),.v (.slice none 0 0),.v (.slice none 0 0)]),(14,vi ((kI (gZ l i) ((gP l (l.fSignals.getD i default).fAt (aK l (l.fSignals.getD i default).fAt).1).take j) (gZ l (i:Nat) ((gP l (l.fSignals.getD i default).fAt (aK l (l.fSignals.getD i default).fAt).1).getD k [])):Nat)+1)),(15,vi (j:Nat)),(2,.bx (aQ l)),(107,aX (bQ 0) (.agg (aQ l))),(108,aX (bQ 1) (.bp 7 0)),(109,aX (bQ 2) (.bp 7 0)),(110,aX (bQ 3) (.bp 7 0)),(111,aX (bQ 4) (encL 1 ePt (gP l (l.fSignals.getD i default).fAt (aK l (l.fSignals.getD i default).fAt).1))),(112,aX (bQ 5) (vi (j:Nat))),(113,aX (bQ 6) (.dp (ePt ((gP l (l.fSignals.getD i default).fAt (aK l (l.fSignals.getD i default).fAt).1).getD j [])))),(114,aX (bQ 7) (cA ((gP l (l.fSignals.getD i default).fAt (aK l (l.fSignals.getD i default).fAt).1).getD j []))),(115,aX (bQ 8) (.bp 7 0)),(116,aX (bQ 9) (.bp 7 0)),(117,aX (bQ 10) (.bp 7 0)),(118,aX (bQ 11) (encL 1 ePt (gP l (l.fSignals.getD i default).fAt (aK l (l.fSignals.getD i default).fAt).1))),(119,aX (bQ 12) (vi (j:Nat))),(120,aX (bQ 13) (.dp (ePt ((gP l (l.fSignals.getD i default).fAt (aK l (l.fSignals.getD i default).fAt).1).getD j [])))),(121,aX (bQ 14) (cA ((gP l (l.fSignals.getD i default).fAt (aK l (l.fSignals.getD i default).fAt).1).getD j []))),(122,aX (bQ 15) (vi (((gP l (l.fSignals.getD i default).fAt (aK l (l.fSignals.getD i default).fAt).1).getD j []).length:Nat))),(123,aX (bQ 16) (vi ((((gP l (l.fSignals.getD i default).fAt (aK l (l.fSignals.getD i default).fAt).1).getD j []).length:Int)-1))),(124,aX (bQ 17) (.dp (cM (((gP l (l.fSignals.getD i default).fAt (aK l (l.fSignals.getD i default).fAt).1).getD j []).getD (((gP l (l.fSignals.getD i default).fAt (aK l (l.fSignals.getD i default).fAt).1).getD j []).length-1) default)))),(125,aX (bQ 18) (.agg (cM (((gP l (l.fSignals.getD i default).fAt (aK l (l.fSignals.getD i default).fAt).1).getD j []).getD (((gP l (l.fSignals.getD i default).fAt (aK l (l.fSignals.getD i default).fAt).1).getD j []).length-1) default)))),(126,aX (bQ 19) (.tup [vi (gC l (((gP l (l.fSignals.getD i default).fAt (aK l (l.fSignals.getD i default).fAt).1).getD j []).getD (((gP l (l.fSignals.getD i default).fAt (aK l (l.fSignals.getD i default).fAt).1).getD j []).length-1) default)),vb (sT l (((gP l (l.fSignals.getD i default).fAt (aK l (l.fSignals.getD i default).fAt).1).getD j []).getD (((gP l (l.fSignals.getD i default).fAt (aK l (l.fSignals.getD i default).fAt).1).getD j []).length-1) default))])),(106,aX (bQ 20) (.tup [vi (gC l (((gP l (l.fSignals.getD i default).fAt (aK l (l.fSignals.getD i default).fAt).1).getD j []).getD (((gP l (l.fSignals.getD i default).fAt (aK l (l.fSignals.getD i default).fAt).1).getD j []).length-1) default)),vb (sT l (((gP l (l.fSignals.getD i default).fAt (aK l (l.fSignals.getD i default).fAt).1).getD j []).getD (((gP l (l.fSignals.getD i default).fAt (aK l (l.fSignals.getD i default).fAt).1).getD j []).length-1) default))])),(127,aX (bQ 21) (vi (gC l (((gP l (l.fSignals.getD i default).fAt (aK l (l.fSignals.getD i default).fAt).1).getD j []).getD (((gP l (l.fSignals.getD i default).fAt (aK l (l.fSignals.getD i default).fAt).1).getD j []).length-1) default)))),(128,aX (bQ 22) (vb (sT l (((gP l (l.fSignals.getD i default).fAt (aK l (l.fSignals.getD i default).fAt).1).getD j []).getD (((gP l (l.fSignals.getD i default).fAt (aK l (l.fSignals.getD i default).fAt).1).getD j []).length-1) default)))),(16,aX (bQ 23) (vi (gC l (((gP l (l.fSignals.getD i default).fAt (aK l (l.fSignals.getD i default).fAt).1).getD j []).getD (((gP l (l.fSignals.getD i default).fAt (aK l (l.fSignals.getD i default).fAt).1).getD j []).length-1) default)))),(17,aX (bQ 24) (vb (sT l (((gP l (l.fSignals.getD i default).fAt (aK l (l.fSignals.getD i default).fAt).1).getD j []).getD (((gP l (l.fSignals.getD i default).fAt (aK l (l.fSignals.getD i default).fAt).1).getD j []).length-1) default))))]) eG aZ aZ ?_ (fun iQ oQ hoQ bQ hbQ KQ hKQ=>?_) ?_
   ·((try simp only[go_sem,seval,bXj,aS,aF,aJ]);try simp (disch:=omega) only[go_sem,seval,bXj,aS,aF,aJ])<;>first|rfl|simp
   ·have hiQ:iQ<25:=(cBz.1 hoQ).1
    match iQ,hiQ with
    |0,_|1,_|2,_|3,_|4,_|5,_|6,_|7,_|8,_|9,_|10,_|11,_|12,_|13,_|14,_|15,_|16,_|17,_|18,_|20,_|21,_|22,_|23,_|24,_=>
     obtain rfl:=bZr hoQ;simp only[mK,fL,fM,cBe,cFm,cBm,bZk,cFt] at hbQ;show oJ _ _ _ false _ _;((try simp only[go_sem,seval,bXj,aS,aF,aJ,hbQ]);try simp (disch:=omega) only[go_sem,seval,bXj,aS,aF,aJ,hbQ])
     repeat refine bZh bM ?_
     refine hKQ _ ?_;((try simp only[go_sem,seval,bXj,aS,aF,aJ,hbQ]);try simp (disch:=omega) only[go_sem,seval,bXj,aS,aF,aJ,hbQ])<;>first|rfl|simp
    |19,_=>
     obtain rfl:=bZr hoQ;simp only[mK,fL,fM,cBe,cFm,cBm,bZk,cFt] at hbQ;show oJ _ _ _ false _ _;((try simp only[go_sem,seval,bXj,aS,aF,aJ,hbQ]);try simp (disch:=omega) only[go_sem,seval,bXj,aS,aF,aJ,hbQ])
     repeat refine bZh bM ?_
     refine dQ (nD _ l (((gP l (l.fSignals.getD i default).fAt (aK l (l.fSignals.getD i default).fAt).1).getD j []).getD (((gP l (l.fSignals.getD i default).fAt (aK l (l.fSignals.getD i default).fAt).1).getD j []).length-1) default)) ?_ ?_
     ·rfl
     try ((try simp only[go_sem,seval,bXj,aS,aF,aJ,hbQ]);try simp (disch:=omega) only[go_sem,seval,bXj,aS,aF,aJ,hbQ])
     repeat refine bZh bM ?_
     refine hKQ _ ?_;((try simp only[go_sem,seval,bXj,aS,aF,aJ,hbQ]);try simp (disch:=omega) only[go_sem,seval,bXj,aS,aF,aJ,hbQ])<;>first|rfl|simp
   ((try simp only[go_sem,seval,bXj,aS,aF,aJ]);try simp (disch:=omega) only[go_sem,seval,bXj,aS,aF,aJ])
   repeat refine bZh bM ?_
   refine Z27 _ _ (bD fun _ Z28=>bH hF ?_);refine eC [1,2,7,8,9,11,13,14,15,16] [] eG aZ ?_;((try simp only[go_sem,seval,bXj,aS,aF,aJ]);try simp (disch:=omega) only[go_sem,seval,bXj,aS,aF,aJ])
   repeat refine bZh bM ?_
   refine dQ ((aOq l i ((gP l (l.fSignals.getD i default).fAt (aK l (l.fSignals.getD i default).fAt).1).getD j []))▸m7 _ l (i:Nat) (gC l (((gP l (l.fSignals.getD i default).fAt (aK l (l.fSignals.getD i default).fAt).1).getD j []).getD (((gP l (l.fSignals.getD i default).fAt (aK l (l.fSignals.getD i default).fAt).1).getD j []).length-1) default)) ⟨by omega,by omega⟩ (aRb l ((gP l (l.fSignals.getD i default).fAt (aK l (l.fSignals.getD i default).fAt).1).getD j [])).1 hs) ?_ ?_
   ·rfl
   try ((try simp only[go_sem,seval,bXj,aS,aF,aJ]);try simp (disch:=omega) only[go_sem,seval,bXj,aS,aF,aJ])
   repeat refine bZh bM ?_
   refine dQ ((aOq l i ((gP l (l.fSignals.getD i default).fAt (aK l (l.fSignals.getD i default).fAt).1).getD k []))▸m7 _ l (i:Nat) (gC l (((gP l (l.fSignals.getD i default).fAt (aK l (l.fSignals.getD i default).fAt).1).getD k []).getD (((gP l (l.fSignals.getD i default).fAt (aK l (l.fSignals.getD i default).fAt).1).getD k []).length-1) default)) ⟨by omega,by omega⟩ (aRb l ((gP l (l.fSignals.getD i default).fAt (aK l (l.fSignals.getD i default).fAt).1).getD k [])).1 hs) ?_ ?_
   ·rfl
   try ((try simp only[go_sem,seval,bXj,aS,aF,aJ]);try simp (disch:=omega) only[go_sem,seval,bXj,aS,aF,aJ])
   repeat refine bZh bM ?_
   refine Z28 _ _ (fK (fun c4=>?_) fun c4=>?_)
   ·have hq:gZ l (i:Nat) ((gP l (l.fSignals.getD i default).fAt (aK l (l.fSignals.getD i default).fAt).1).getD j [])=(gZ l (i:Nat) ((gP l (l.fSignals.getD i default).fAt (aK l (l.fSignals.getD i default).fAt).1).getD k [])):=(aQb.1 c4);have hct:kI (gZ l i) ((gP l (l.fSignals.getD i default).fAt (aK l (l.fSignals.getD i default).fAt).1).take (j+1)) (gZ l (i:Nat) ((gP l (l.fSignals.getD i default).fAt (aK l (l.fSignals.getD i default).fAt).1).getD k []))=kI (gZ l i) ((gP l (l.fSignals.getD i default).fAt (aK l (l.fSignals.getD i default).fAt).1).take j) (gZ l (i:Nat) ((gP l (l.fSignals.getD i default).fAt (aK l (l.fSignals.getD i default).fAt).1).getD k []))+1:=by rw[d9 [] aN,x9,if_pos hq]
    refine bH hF ?_;refine aU [1,2,7,8,9,11,13,14,15] aZ ?_;((try simp only[go_sem,seval,bXj,aS,aF,aJ]);try simp (disch:=omega) only[go_sem,seval,bXj,aS,aF,aJ])
    repeat refine bZh bM ?_
    refine Z26 _ _ (bH hF ?_);refine aU [1,2,7,8,9,11,13,14,15] aZ ?_;((try simp only[go_sem,seval,bXj,aS,aF,aJ]);try simp (disch:=omega) only[go_sem,seval,bXj,aS,aF,aJ])
    repeat refine bZh bM ?_
    refine Z23 _ _ _ bE ⟨j+1,rfl,rfl,bE,?_⟩;((try simp only[go_sem,seval,bXj,aS,aF,aJ]);try simp (disch:=omega) only[go_sem,seval,bXj,aS,aF,aJ])<;>(rw[hct];first|rfl|(simp;done)|(push_cast;rfl))
   have hq: ¬gZ l (i:Nat) ((gP l (l.fSignals.getD i default).fAt (aK l (l.fSignals.getD i default).fAt).1).getD j [])=(gZ l (i:Nat) ((gP l (l.fSignals.getD i default).fAt (aK l (l.fSignals.getD i default).fAt).1).getD k [])):=(fun h=>c4 (aQb.2 h));have hct:kI (gZ l i) ((gP l (l.fSignals.getD i default).fAt (aK l (l.fSignals.getD i default).fAt).1).take (j+1)) (gZ l (i:Nat) ((gP l (l.fSignals.getD i default).fAt (aK l (l.fSignals.getD i default).fAt).1).getD k []))=kI (gZ l i) ((gP l (l.fSignals.getD i default).fAt (aK l (l.fSignals.getD i default).fAt).1).take j) (gZ l (i:Nat) ((gP l (l.fSignals.getD i default).fAt (aK l (l.fSignals.getD i default).fAt).1).getD k [])):=by rw[d9 [] aN,x9,if_neg hq,cAh]
   refine dN (Z26 _ _ (bH hF ?_));refine aU [1,2,7,8,9,11,13,14,15] aZ ?_;((try simp only[go_sem,seval,bXj,aS,aF,aJ]);try simp (disch:=omega) only[go_sem,seval,bXj,aS,aF,aJ])
   repeat refine bZh bM ?_
   refine Z23 _ _ _ bE ⟨j+1,rfl,rfl,bE,?_⟩;((try simp only[go_sem,seval,bXj,aS,aF,aJ]);try simp (disch:=omega) only[go_sem,seval,bXj,aS,aF,aJ])<;>(rw[hct];first|rfl|(simp;done)|(push_cast;rfl))
  refine gB (Z21 _ _ (bD fun _ Z29=>bD fun _ Z30=>?_));have hjk:j=k:=aN;have hcN:((kI (gZ l i) ((gP l (l.fSignals.getD i default).fAt (aK l (l.fSignals.getD i default).fAt).1).take k) (gZ l (i:Nat) ((gP l (l.fSignals.getD i default).fAt (aK l (l.fSignals.getD i default).fAt).1).getD k [])):Nat):Int)+1=(((kI (gZ l i) ((gP l (l.fSignals.getD i default).fAt (aK l (l.fSignals.getD i default).fAt).1).take (k+1)) (gZ l (i:Nat) ((gP l (l.fSignals.getD i default).fAt (aK l (l.fSignals.getD i default).fAt).1).getD k []))):Nat):Int):=(by rw[d9 [] aN,x9,if_pos rfl];push_cast;rfl);rw[hjk,hcN];have hcl1:=aQv (gZ l i) ((gP l (l.fSignals.getD i default).fAt (aK l (l.fSignals.getD i default).fAt).1).take (k+1)) (gZ l (i:Nat) ((gP l (l.fSignals.getD i default).fAt (aK l (l.fSignals.getD i default).fAt).1).getD k []));have htl1:=cBr (k+1) (gP l (l.fSignals.getD i default).fAt (aK l (l.fSignals.getD i default).fAt).1);have hfs:=bCn ((kI (gZ l i) ((gP l (l.fSignals.getD i default).fAt (aK l (l.fSignals.getD i default).fAt).1).take (k+1)) (gZ l (i:Nat) ((gP l (l.fSignals.getD i default).fAt (aK l (l.fSignals.getD i default).fAt).1).getD k []))):Nat) aN aN;have hns:=bPy hs hi ((gP l (l.fSignals.getD i default).fAt (aK l (l.fSignals.getD i default).fAt).1).getD k []);refine bH hF ?_;refine aU [1,2,7,8,9,13,14] aZ ?_;((try simp only[go_sem,seval,bXj,aS,aF,aJ]);try simp (disch:=omega) only[go_sem,seval,bXj,aS,aF,aJ])
  repeat refine bZh bM ?_
  refine Z30 _ _ (fK (fun c5=>?_) fun c5=>?_)
  ·have hc1:1<(kI (gZ l i) ((gP l (l.fSignals.getD i default).fAt (aK l (l.fSignals.getD i default).fAt).1).take (k+1)) (gZ l (i:Nat) ((gP l (l.fSignals.getD i default).fAt (aK l (l.fSignals.getD i default).fAt).1).getD k []))):=aN;have hnb:=bQq hc1;refine bH hF ?_;refine dY (Le.keepC [1,2,7,8,9,13,14] _) ?_;refine oO [1,8,9,7,2,14,142,143,144,145,146,147,148,13] [] [] [[],[0],[0,1],[],[3],[0,1,2,3,4],[0,1,2,3,4,5],[0,1,2,3,4,5,6]] [[7],[7],[7],[7],[7],[7],[7],[]] (fun bQ=>cO O [(1,vi (i:Nat)),(8,hx.sl k),(9,vi (k:Nat)),(7,.bx [encL 1 ePt (gP l (l.fSignals.getD i default).fAt (aK l (l.fSignals.getD i default).fAt).1)]),(2,.bx (aQ l)),(14,vi ((kI (gZ l i) ((gP l (l.fSignals.getD i default).fAt (aK l (l.fSignals.getD i default).fAt).1).take (k+1)) (gZ l (i:Nat) ((gP l (l.fSignals.getD i default).fAt (aK l (l.fSignals.getD i default).fAt).1).getD k []))):Nat)),(142,aX (bQ 0) (.bp 13 0)),(143,aX (bQ 1) (vs (gZ l (i:Nat) ((gP l (l.fSignals.getD i default).fAt (aK l (l.fSignals.getD i default).fAt).1).getD k [])))),(144,aX (bQ 2) (vs ((gZ l (i:Nat) ((gP l (l.fSignals.getD i default).fAt (aK l (l.fSignals.getD i default).fAt).1).getD k []))++⟨#[46]⟩))),(145,aX (bQ 3) (vi ((kI (gZ l i) ((gP l (l.fSignals.getD i default).fAt (aK l (l.fSignals.getD i default).fAt).1).take (k+1)) (gZ l (i:Nat) ((gP l (l.fSignals.getD i default).fAt (aK l (l.fSignals.getD i default).fAt).1).getD k []))):Nat))),(146,aX (bQ 4) (vs (fmt ((kI (gZ l i) ((gP l (l.fSignals.getD i default).fAt (aK l (l.fSignals.getD i default).fAt).1).take (k+1)) (gZ l (i:Nat) ((gP l (l.fSignals.getD i default).fAt (aK l (l.fSignals.getD i default).fAt).1).getD k []))):Nat)))),(147,aX (bQ 5) (vs ((gZ l (i:Nat) ((gP l (l.fSignals.getD i default).fAt (aK l (l.fSignals.getD i default).fAt).1).getD k []))++(⟨#[46]⟩++fmt ((kI (gZ l i) ((gP l (l.fSignals.getD i default).fAt (aK l (l.fSignals.getD i default).fAt).1).take (k+1)) (gZ l (i:Nat) ((gP l (l.fSignals.getD i default).fAt (aK l (l.fSignals.getD i default).fAt).1).getD k []))):Nat))))),(148,aX (bQ 6) (.bp 13 0)),(13,jB (bQ 7) true (.bx [vs ((gZ l (i:Nat) ((gP l (l.fSignals.getD i default).fAt (aK l (l.fSignals.getD i default).fAt).1).getD k []))++(⟨#[46]⟩++fmt ((kI (gZ l i) ((gP l (l.fSignals.getD i default).fAt (aK l (l.fSignals.getD i default).fAt).1).take (k+1)) (gZ l (i:Nat) ((gP l (l.fSignals.getD i default).fAt (aK l (l.fSignals.getD i default).fAt).1).getD k []))):Nat))),vi (i:Nat),vi (gC l (((gP l (l.fSignals.getD i default).fAt (aK l (l.fSignals.getD i default).fAt).1).getD k []).getD (((gP l (l.fSignals.getD i default).fAt (aK l (l.fSignals.getD i default).fAt).1).getD k []).length-1) default)),cA ((gP l (l.fSignals.getD i default).fAt (aK l (l.fSignals.getD i default).fAt).1).getD k []),dJ (pV l ((gP l (l.fSignals.getD i default).fAt (aK l (l.fSignals.getD i default).fAt).1).getD k [])),bT (dC l ((gP l (l.fSignals.getD i default).fAt (aK l (l.fSignals.getD i default).fAt).1).getD k [])),vi (cJ l (l.fSignals.getD i default).fAt.fEl),vi (fQ l ((gP l (l.fSignals.getD i default).fAt (aK l (l.fSignals.getD i default).fAt).1).getD k [])),.v (.slice none 0 0),.v (.slice none 0 0),.v (.slice none 0 0),.v (.slice none 0 0),.v (.slice none 0 0),.v (.slice none 0 0)]) (.bx [vs (gZ l (i:Nat) ((gP l (l.fSignals.getD i default).fAt (aK l (l.fSignals.getD i default).fAt).1).getD k [])),vi (i:Nat),vi (gC l (((gP l (l.fSignals.getD i default).fAt (aK l (l.fSignals.getD i default).fAt).1).getD k []).getD (((gP l (l.fSignals.getD i default).fAt (aK l (l.fSignals.getD i default).fAt).1).getD k []).length-1) default)),cA ((gP l (l.fSignals.getD i default).fAt (aK l (l.fSignals.getD i default).fAt).1).getD k []),dJ (pV l ((gP l (l.fSignals.getD i default).fAt (aK l (l.fSignals.getD i default).fAt).1).getD k [])),bT (dC l ((gP l (l.fSignals.getD i default).fAt (aK l (l.fSignals.getD i default).fAt).1).getD k [])),vi (cJ l (l.fSignals.getD i default).fAt.fEl),vi (fQ l ((gP l (l.fSignals.getD i default).fAt (aK l (l.fSignals.getD i default).fAt).1).getD k [])),.v (.slice none 0 0),.v (.slice none 0 0),.v (.slice none 0 0),.v (.slice none 0 0),.v (.slice none 0 0),.v (.slice none 0 0)]))]) eG aZ aZ ?_ (fun iQ oQ hoQ bQ hbQ KQ hKQ=>?_) ?_
   ·((try simp only[go_sem,seval,bXj,aS,aF,aJ]);try simp (disch:=omega) only[go_sem,seval,bXj,aS,aF,aJ])<;>first|rfl|simp
   ·have hiQ:iQ<8:=(cBz.1 hoQ).1
    match iQ,hiQ with
    |0,_|1,_|2,_|3,_|5,_|6,_|7,_=>
     obtain rfl:=bZr hoQ;simp only[mK,fL,fM,cBe,cFm,cBm,bZk,cFt] at hbQ;show oJ _ _ _ false _ _;((try simp only[go_sem,seval,bXj,aS,aF,aJ,hbQ]);try simp (disch:=omega) only[go_sem,seval,bXj,aS,aF,aJ,hbQ])
     repeat refine bZh (by first|exact aRp hns|exact aQg hfs hns|exact bM) ?_
     refine hKQ _ ?_;((try simp only[go_sem,seval,bXj,aS,aF,aJ,hbQ]);try simp (disch:=omega) only[go_sem,seval,bXj,aS,aF,aJ,hbQ])<;>first|rfl|simp
    |4,_=>
     obtain rfl:=bZr hoQ;simp only[mK,fL,fM,cBe,cFm,cBm,bZk,cFt] at hbQ;show oJ _ _ _ false _ _;((try simp only[go_sem,seval,bXj,aS,aF,aJ,hbQ]);try simp (disch:=omega) only[go_sem,seval,bXj,aS,aF,aJ,hbQ])
     repeat refine bZh (by first|exact aRp hns|exact aQg hfs hns|exact bM) ?_
     refine dQ (xN _ ((kI (gZ l i) ((gP l (l.fSignals.getD i default).fAt (aK l (l.fSignals.getD i default).fAt).1).take (k+1)) (gZ l (i:Nat) ((gP l (l.fSignals.getD i default).fAt (aK l (l.fSignals.getD i default).fAt).1).getD k []))):Nat) aN aN) ?_ ?_
     ·rfl
     try ((try simp only[go_sem,seval,bXj,aS,aF,aJ,hbQ]);try simp (disch:=omega) only[go_sem,seval,bXj,aS,aF,aJ,hbQ])
     repeat refine bZh (by first|exact aRp hns|exact aQg hfs hns|exact bM) ?_
     refine hKQ _ ?_;((try simp only[go_sem,seval,bXj,aS,aF,aJ,hbQ]);try simp (disch:=omega) only[go_sem,seval,bXj,aS,aF,aJ,hbQ])<;>first|rfl|simp
   ((try simp only[go_sem,seval,bXj,aS,aF,aJ]);try simp (disch:=omega) only[go_sem,seval,bXj,aS,aF,aJ])
   repeat refine bZh (by first|exact aRp hns|exact aQg hfs hns|exact bM) ?_
   refine Z29 _ _ ?_;refine qE 13 (ds:=bR (nbR l i (gP l (l.fSignals.getD i default).fAt (aK l (l.fSignals.getD i default).fAt).1) k)) rfl (by first|rfl|(((try simp only[go_sem,seval]);try simp (disch:=omega) only[go_sem,seval]);done)|(((try simp only[go_sem,seval]);try simp (disch:=omega) only[go_sem,seval]);rfl)) (by rw[hnb];exact (.cons (cF.refl _) (.cons (cF.refl _) (.cons (cF.refl _) (.cons (cF.refl _) (.cons (cF.refl _) (.cons (cF.refl _) (.cons (cF.refl _) (.cons (cF.refl _) (.cons (cF.nilL _) (.cons (cF.nilL _) (.cons (cF.nilL _) (.cons (cF.nilL _) (.cons (cF.nilL _) (.cons (cF.nilL _) .nil))))))))))))))) ?_;refine cQ (Le.keepC [1,2,7,8,9,13] _) ?_;refine fY ?_;show iU _ _ _ _ _ _ _ _;refine cH hF ?_;refine cC rfl aZ aZ ?_;((try simp only[go_sem,seval,bXj,aS,aF,aJ]);try simp (disch:=omega) only[go_sem,seval,bXj,aS,aF,aJ])
   repeat refine bZh bM ?_
   show iU _ _ _ _ _ _ _ _;refine cH hF ?_;refine cC rfl aZ aZ ?_;((try simp only[go_sem,seval,bXj,aS,aF,aJ]);try simp (disch:=omega) only[go_sem,seval,bXj,aS,aF,aJ])
   repeat refine bZh bM ?_
   show iU _ _ _ _ _ _ _ _;refine cH hF ?_;refine cC rfl aZ aZ ?_;((try simp only[go_sem,seval,bXj,aS,aF,aJ]);try simp (disch:=omega) only[go_sem,seval,bXj,aS,aF,aJ])
   repeat refine bZh bM ?_
   show iU _ _ _ _ _ _ _ _;refine gT (s1:=[]) (s2:=[]) 149 gS (by ((try simp only[go_sem,seval,bXj,aS,aF,aJ]);try simp (disch:=omega) only[go_sem,seval,bXj,aS,aF,aJ])<;>rfl) rfl ?_;show iU _ _ _ _ _ _ _ _;refine cH hF ?_;refine cC rfl aZ aZ ?_;((try simp only[go_sem,seval,bXj,aS,aF,aJ]);try simp (disch:=omega) only[go_sem,seval,bXj,aS,aF,aJ])
   repeat refine bZh bM ?_
   show iU _ _ _ _ _ _ _ _;refine lS (s1:=[]) (s2:=[]) (l:=(sS l i (gP l (l.fSignals.getD i default).fAt (aK l (l.fSignals.getD i default).fAt).1) (k+1)).map bR) 152 gS (by ((try simp only[go_sem,seval,bXj,aS,aF,aJ]);try simp (disch:=omega) only[go_sem,seval,bXj,aS,aF,aJ])<;>(first|rfl|(rw[aIm,cAl];done)|(rw[aIm,cAl];rfl))) rfl (fun h2=>?_);show iU _ _ _ _ _ _ _ _;refine cH hF ?_;refine cC rfl aZ aZ ?_;((try simp only[go_sem,seval,bXj,aS,aF,aJ]);try simp (disch:=omega) only[go_sem,seval,bXj,aS,aF,aJ])
   repeat refine bZh bM ?_
   repeat refine bZh bM ?_
   refine Z15 _ _ (bH hF ?_);refine aU [1,2,7,8,9] aZ ?_;((try simp only[go_sem,seval,bXj,aS,aF,aJ]);try simp (disch:=omega) only[go_sem,seval,bXj,aS,aF,aJ])
   repeat refine bZh bM ?_
   refine Z12 _ _ _ bE ⟨k+1,h2,rfl,rfl,bE,?_⟩;((try simp only[go_sem,seval,bXj,aS,aF,aJ]);try simp (disch:=omega) only[go_sem,seval,bXj,aS,aF,aJ])<;>first|rfl|omega|simp|simp_all
  have hc1: ¬1<(kI (gZ l i) ((gP l (l.fSignals.getD i default).fAt (aK l (l.fSignals.getD i default).fAt).1).take (k+1)) (gZ l (i:Nat) ((gP l (l.fSignals.getD i default).fAt (aK l (l.fSignals.getD i default).fAt).1).getD k []))):=aN;have hnb:=bMx hc1;refine dN (Z29 _ _ ?_);refine qE 13 (ds:=bR (nbR l i (gP l (l.fSignals.getD i default).fAt (aK l (l.fSignals.getD i default).fAt).1) k)) rfl (by first|rfl|(((try simp only[go_sem,seval]);try simp (disch:=omega) only[go_sem,seval]);done)|(((try simp only[go_sem,seval]);try simp (disch:=omega) only[go_sem,seval]);rfl)) (by rw[hnb];exact (.cons (cF.refl _) (.cons (cF.refl _) (.cons (cF.refl _) (.cons (cF.refl _) (.cons (cF.refl _) (.cons (cF.refl _) (.cons (cF.refl _) (.cons (cF.refl _) (.cons (cF.nilL _) (.cons (cF.nilL _) (.cons (cF.nilL _) (.cons (cF.nilL _) (.cons (cF.nilL _) (.cons (cF.nilL _) .nil))))))))))))))) ?_;refine cQ (Le.keepC [1,2,7,8,9,13] _) ?_;refine fY ?_;show iU _ _ _ _ _ _ _ _;refine cH hF ?_;refine cC rfl aZ aZ ?_;((try simp only[go_sem,seval,bXj,aS,aF,aJ]);try simp (disch:=omega) only[go_sem,seval,bXj,aS,aF,aJ])
  repeat refine bZh bM ?_
  show iU _ _ _ _ _ _ _ _;refine cH hF ?_;refine cC rfl aZ aZ ?_;((try simp only[go_sem,seval,bXj,aS,aF,aJ]);try simp (disch:=omega) only[go_sem,seval,bXj,aS,aF,aJ])
  repeat refine bZh bM ?_
  show iU _ _ _ _ _ _ _ _;refine cH hF ?_;refine cC rfl aZ aZ ?_;((try simp only[go_sem,seval,bXj,aS,aF,aJ]);try simp (disch:=omega) only[go_sem,seval,bXj,aS,aF,aJ])
  repeat refine bZh bM ?_
  show iU _ _ _ _ _ _ _ _;refine gT (s1:=[]) (s2:=[]) 149 gS (by ((try simp only[go_sem,seval,bXj,aS,aF,aJ]);try simp (disch:=omega) only[go_sem,seval,bXj,aS,aF,aJ])<;>rfl) rfl ?_;show iU _ _ _ _ _ _ _ _;refine cH hF ?_;refine cC rfl aZ aZ ?_;((try simp only[go_sem,seval,bXj,aS,aF,aJ]);try simp (disch:=omega) only[go_sem,seval,bXj,aS,aF,aJ])
  repeat refine bZh bM ?_
  show iU _ _ _ _ _ _ _ _;refine lS (s1:=[]) (s2:=[]) (l:=(sS l i (gP l (l.fSignals.getD i default).fAt (aK l (l.fSignals.getD i default).fAt).1) (k+1)).map bR) 152 gS (by ((try simp only[go_sem,seval,bXj,aS,aF,aJ]);try simp (disch:=omega) only[go_sem,seval,bXj,aS,aF,aJ])<;>(first|rfl|(rw[aIm,cAl];done)|(rw[aIm,cAl];rfl))) rfl (fun h2=>?_);show iU _ _ _ _ _ _ _ _;refine cH hF ?_;refine cC rfl aZ aZ ?_;((try simp only[go_sem,seval,bXj,aS,aF,aJ]);try simp (disch:=omega) only[go_sem,seval,bXj,aS,aF,aJ])
  repeat refine bZh bM ?_
  repeat refine bZh bM ?_
  refine Z15 _ _ (bH hF ?_);refine aU [1,2,7,8,9] aZ ?_;((try simp only[go_sem,seval,bXj,aS,aF,aJ]);try simp (disch:=omega) only[go_sem,seval,bXj,aS,aF,aJ])
  repeat refine bZh bM ?_
  refine Z12 _ _ _ bE ⟨k+1,h2,rfl,rfl,bE,?_⟩;((try simp only[go_sem,seval,bXj,aS,aF,aJ]);try simp (disch:=omega) only[go_sem,seval,bXj,aS,aF,aJ])<;>first|rfl|omega|simp|simp_all
 refine gB (Z10 _ _ (bD fun _ Z31=>?_));obtain rfl:k=(gP l (l.fSignals.getD i default).fAt (aK l (l.fSignals.getD i default).fAt).1).length:=aN;refine yL (s1:=[]) (s2:=[]) 8 gS (by ((try simp only[go_sem,seval,aF]);try simp (disch:=omega) only[go_sem,seval,aF])<;>first|rfl|(simp only[cAr])) rfl (cF.frzL bR (sS l i (gP l (l.fSignals.getD i default).fAt (aK l (l.fSignals.getD i default).fAt).1) (gP l (l.fSignals.getD i default).fAt (aK l (l.fSignals.getD i default).fAt).1).length)) rfl ?_;refine bH hF ?_;refine aU [8] aZ ?_;((try simp only[go_sem,seval,bXj,aS,aF,aJ]);try simp (disch:=omega) only[go_sem,seval,bXj,aS,aF,aJ])
 repeat refine bZh bM ?_
 refine Z31 _ _ (lH ?_)
 (try simp only[oD,lV]);refine d5 4 rfl (by ((try simp only[go_sem,seval,aF]);try simp (disch:=omega) only[go_sem,seval,aF])) ?_;exact cG.encL (l':=sS l i (gP l (l.fSignals.getD i default).fAt (aK l (l.fSignals.getD i default).fAt).1) (gP l (l.fSignals.getD i default).fAt (aK l (l.fSignals.getD i default).fAt).1).length) (by ((try simp only[go_sem,seval,aF]);try simp (disch:=omega) only[go_sem,seval,aF])<;>rfl) (bOq hi hjo).symm
end
def ovX (r:bI) (h:Hd) (n:Nat):List DV:=[vs r.fName,vi r.fEntry,vi r.fExit,cA r.fPath,dJ r.fPoints,bT r.fSections,vi r.fApproach,vi r.fLength,h.sl n,.v (.slice none 0 0),.v (.slice none 0 0),dJ r.fFlank,bT r.fGuards,lF r.fGaps]
section
variable (r:bI) (h h':Hd) (n m:Nat)
theorem bXr:(((bR r).set 8 (.v (.slice none 0 0))).set 9 (.v (.slice none 0 0))).set 10 (.v (.slice none 0 0))=ovX r iY 0:=rfl
theorem bXn:nM (fun x=>x+100000) (ovX r h n)=ovX r h n:=rfl
theorem bXk:(ovX r h n).length=14:=rfl
theorem bXm:(ovX r h n).getD 8 .any=h.sl n:=rfl
theorem bXo:(ovX r h n).set 8 (h'.sl m)=ovX r h' m:=rfl
theorem bXq (z k:Nat) (f:Nat→List DV):(ovX r h n).set 8 (.sl z k f)=[vs r.fName,vi r.fEntry,vi r.fExit,cA r.fPath,dJ r.fPoints,bT r.fSections,vi r.fApproach,vi r.fLength,.sl z k f,.v (.slice none 0 0),.v (.slice none 0 0),dJ r.fFlank,bT r.fGuards,lF r.fGaps]:=rfl
theorem bXi:(ovX r h n).take 14=ovX r h n:=rfl
theorem bXl (p:Nat→Bool):eQ p (ovX r h n)=true:=rfl
end
abbrev rgO (h:Hd) (o:List bF):Rg:=.row h 144 3 (o.map cM)
theorem bRy (b:Bool):PlV (vb b):=.v _
theorem bSm (z:Int):PlV (vi z):=.v _
theorem bLd {l:aE} {r:bI} (h:(m8 l r).2=false):ovF l r=⟨r.fName,r.fEntry,r.fExit,r.fPath,r.fPoints,r.fSections,r.fApproach,r.fLength,[],[],[],r.fFlank,r.fGuards,r.fGaps⟩:=by
 have:ovS l r=[]:=by unfold ovS;rw[if_neg (by rw[h];simp)]
 unfold ovF;rw[this,show pV l []=[] from aMw l,show dC l []=[] from rfl]
theorem Lnd.nil0 {α:Type} [Inhabited α] {rs:List Rg} {z:Nat} (e:α→List DV):Lnd rs (.v (.slice none 0 0)) (encL z e []):=fun _ _ _ x _ hx=>by cases hx;exact .sl0 _ z _ _ _
theorem bNa {rs:List Rg} {h:Hd} {o:List bF} (r:bI) (hm:rgO h o∈rs):Lnd rs (.agg (ovX r h o.length)) (.agg (bR ⟨r.fName,r.fEntry,r.fExit,r.fPath,r.fPoints,r.fSections,r.fApproach,r.fLength,o,[],[],r.fFlank,r.fGuards,r.fGaps⟩)):=
 vX.toAgg (.cons (.pure _ rfl) (.cons (.pure _ rfl) (.cons (.pure _ rfl) (.cons (.pure _ rfl) (.cons (.pure _ rfl) (.cons (.pure _ rfl) (.cons (.pure _ rfl) (.cons (.pure _ rfl) (.cons (.row hm b7 (cF.frzL cM o)) (.cons (.nil0 _) (.cons (.nil0 _) (.cons (.pure _ rfl) (.cons (.pure _ rfl) (.cons (.pure _ rfl) .nil))))))))))))))
abbrev rt0 (r:bI):bI:=⟨r.fName,r.fEntry,r.fExit,r.fPath,r.fPoints,r.fSections,r.fApproach,r.fLength,[],[],[],r.fFlank,r.fGuards,r.fGaps⟩
theorem bBu (r:bI):tF (ovX r iY 0) (bR (rt0 r)):=.cons (cF.refl _) (.cons (cF.refl _) (.cons (cF.refl _) (.cons (cF.refl _) (.cons (cF.refl _) (.cons (cF.refl _) (.cons (cF.refl _) (.cons (cF.refl _) (.cons (cF.nilL _) (.cons (cF.nilL _) (.cons (cF.nilL _) (.cons (cF.refl _) (.cons (cF.refl _) (.cons (cF.refl _) .nil)))))))))))))
theorem bKk {rs:List Rg} {h:Hd} {o:List bF} (hm:rgO h o∈rs):Lnd rs (h.sl o.length) (cA o):=.row hm b7 (cF.frzL cM o)
theorem xR (O:aV) (l:aE) (r:bI) (q:List bF) (e:Int) (hq:q.length≤1000) (hbs:r.fSections.length≤1000):bB Tryz.prog O 112 [.agg (aQ l),.agg (bR r),cA q,vi e] (vb (xF l r.fSections q e)):=by
 refine dD Tryz.func112 ?_;refine aB [0,1,2,3] ?_;refine aA fun _ Z1=>aB [2,3,4,5] ?_;refine aD (aT [3,4,5,13,14,15] (fun n ρ=> ∃i,n=q.length-i∧(i≤q.length)∧(fP q e=fP (q.drop i) e)∧ρ=cO O [(3,vi e),(4,.bx (aQ l)),(5,.bx (bR r)),(13,cA q),(14,vi (q.length:Nat)),(15,vi (i:Nat))]) _ ⟨0,rfl,?_,?_,?_⟩ ?_)
 ·exact bE
 ·rfl
 ·exact b9
 rintro n ρ ⟨i,rfl,l0_0,l0_1,rfl⟩ _ Z3;refine aB [2,3,4,5,13,14,15] ?_;refine aA fun _ Z5=>aL (fun c0=>?_) fun c0=>?_
 ·refine aC (Z5 _ (aA fun _ Z6=>aD (aB [2,3,4,5,13,14,15] ?_)));refine aB [2,3,4,5,10,13,14,15] ?_;refine aL (fun c1=>?_) fun c1=>?_
  ·refine aB [] ?_;refine aG (bU 8 (xb ?_))
   ((unfold xF;rw[l0_1,bK default c0,o7,cFr c1];rfl))
  refine aC (Z6 _ (bA [2,3,4,5,13,14,15] ?_));refine Z3 _ _ bE ⟨i+1,rfl,bE,?_,b9⟩
  ·rw[l0_1,bK default c0,o7,cFs c1];rfl
 refine aY (Z1 _ (aA fun _ Z10=>aB [3,4,5] ?_));refine aD ?_;have hne:fP q e=false:=(by rw[l0_1,cT aN];rfl);refine aT [3,4,25,26,27] (fun n ρ=> ∃j,n=r.fSections.length-j∧(j≤r.fSections.length)∧(r.fSections.contains (cJ l e)=(r.fSections.drop j).contains (cJ l e))∧ρ=cO O [(3,vi e),(4,.bx (aQ l)),(25,bT r.fSections),(26,vi (r.fSections.length:Nat)),(27,vi (j:Nat))]) _ ⟨0,rfl,?_,?_,?_⟩ ?_
 ·exact bE
 ·rfl
 ·exact b9
 rintro n ρ ⟨j,rfl,l1_0,l1_1,rfl⟩ _ Z12;refine aB [3,4,5,24,25,26,27] ?_;refine aA fun _ Z14=>aL (fun c2=>?_) fun c2=>?_
 ·refine aC (Z14 _ (aA fun _ Z15=>aD (aB [3,4,5,24,25,26,27] ?_)));refine aA fun _ Z17=>bL [3,4,5,12,24,25,26,27] ?_;refine fF (eT _ l e) ?_;refine Z17 _ (aL (fun c3=>?_) fun c3=>?_)
  ·refine aB [] ?_;refine aG (bU 8 (xb ?_))
   ((unfold xF;rw[hne,l1_1,bK default c2,aKm,cFr c3];rfl))
  refine aC (Z15 _ (bA [3,4,5,24,25,26,27] ?_));refine Z12 _ _ bE ⟨j+1,rfl,bE,?_,b9⟩
  ·rw[l1_1,bK default c2,aKm,cFs c3];rfl
 refine aY (Z10 _ (aB [] ?_));refine aG (bU 8 (xb ?_))
 ((unfold xF;rw[hne,l1_1,cT c2];rfl))
section
attribute [local go_sem] or_self cAr cBv
set_option maxRecDepth 20000 in
theorem aFe (O:aV) (l:aE) (r:bI) (hl:hM l) (hes:kQ l=true) (hr:Rtk r):bB Tryz.prog O 55 [.agg (aQ l),.agg (bR r)] (.agg (bR (ovF l r))):=by
 have hr3:=hr.se;have hr3b:r.fSections.length≤1000:=by omega
 refine i7 Tryz.func55 rfl aZ fun w0 I0 A0=>?_;have hF:=wM w0 I0 (dZ A0) (GOf []);refine bD fun _ Z0=>bH hF ?_;refine aU [0,1] aZ ?_;((try simp only[go_sem,seval,bXq,bXr,bXn,bXk,bXm,bXo,bXi,bXl]);try simp (disch:=omega) only[go_sem,seval,bXq,bXr,bXn,bXk,bXm,bXo,bXi,bXl])
 repeat refine bZh bM ?_
 refine Z0 _ _ (bD fun _ Z1=>bH hF ?_);refine aU [2,3,4] aZ ?_;((try simp only[go_sem,seval,bXq,bXr,bXn,bXk,bXm,bXo,bXi,bXl]);try simp (disch:=omega) only[go_sem,seval,bXq,bXr,bXn,bXk,bXm,bXo,bXi,bXl])
 repeat refine bZh bM ?_
 refine Z1 _ _ (bD fun _ Z2=>bH hF ?_);refine aU [2,3,4] aZ ?_;((try simp only[go_sem,seval,bXq,bXr,bXn,bXk,bXm,bXo,bXi,bXl]);try simp (disch:=omega) only[go_sem,seval,bXq,bXr,bXn,bXk,bXm,bXo,bXi,bXl])
 repeat refine bZh bM ?_
 refine Z2 _ _ (bD fun _ Z3=>bH hF ?_);refine aU [2,3,4] aZ ?_;((try simp only[go_sem,seval,bXq,bXr,bXn,bXk,bXm,bXo,bXi,bXl]);try simp (disch:=omega) only[go_sem,seval,bXq,bXr,bXn,bXk,bXm,bXo,bXi,bXl])
 repeat refine bZh bM ?_
 refine Z3 _ _ (bD fun _ Z4=>bH hF ?_);refine aU [2,3,4] aZ ?_;((try simp only[go_sem,seval,bXq,bXr,bXn,bXk,bXm,bXo,bXi,bXl]);try simp (disch:=omega) only[go_sem,seval,bXq,bXr,bXn,bXk,bXm,bXo,bXi,bXl])
 repeat refine bZh bM ?_
 refine eF _ (oY [.agg (aQ l),.agg (bR (rt0 r))] (.cons (cF.refl _) (.cons (cF.aggL (bBu r)) .nil)) (show bB Tryz.prog _ 110 _ (.tup [.agg (fC (m8 l r).1),vb (m8 l r).2]) from aEz _ l (rt0 r))) ?_
 try ((try simp only[go_sem,seval,bXq,bXr,bXn,bXk,bXm,bXo,bXi,bXl]);try simp (disch:=omega) only[go_sem,seval,bXq,bXr,bXn,bXk,bXm,bXo,bXi,bXl])
 repeat refine bZh bM ?_
 refine Z4 _ _ (bD fun _ Z5=>bD fun _ Z6=>bH hF ?_);refine aU [2,3,4,5,6] aZ ?_;((try simp only[go_sem,seval,bXq,bXr,bXn,bXk,bXm,bXo,bXi,bXl]);try simp (disch:=omega) only[go_sem,seval,bXq,bXr,bXn,bXk,bXm,bXo,bXi,bXl])
 repeat refine bZh bM ?_
 refine Z6 _ _ (fK (fun c0=>?_) fun c0=>?_)
 ·have hex:(m8 l r).2=false:=(by simpa using c0);refine bD fun _ Z7=>?_;refine qE 3 (ds:=bR (ovF l r)) rfl (by first|rfl|(((try simp only[go_sem,seval,bXq,bXr,bXn,bXk,bXm,bXo,bXi,bXl]);try simp (disch:=omega) only[go_sem,seval,bXq,bXr,bXn,bXk,bXm,bXo,bXi,bXl]);done)|(((try simp only[go_sem,seval,bXq,bXr,bXn,bXk,bXm,bXo,bXi,bXl]);try simp (disch:=omega) only[go_sem,seval,bXq,bXr,bXn,bXk,bXm,bXo,bXi,bXl]);rfl)) (by rw[bLd hex];exact bBu r) ?_;refine bH hF ?_;refine aU [3,4] aZ ?_;((try simp only[go_sem,seval,bXq,bXr,bXn,bXk,bXm,bXo,bXi,bXl]);try simp (disch:=omega) only[go_sem,seval,bXq,bXr,bXn,bXk,bXm,bXo,bXi,bXl])
  repeat refine bZh bM ?_
  refine Z7 _ _ (lH ?_)
  (try simp only[oD,lV]);refine lZ 4 121 rfl (by ((try simp only[go_sem,seval,bXq,bXr,bXn,bXk,bXm,bXo,bXi,bXl]);try simp (disch:=omega) only[go_sem,seval,bXq,bXr,bXn,bXk,bXm,bXo,bXi,bXl])) (by ((try simp only[go_sem,seval,bXq,bXr,bXn,bXk,bXm,bXo,bXi,bXl]);try simp (disch:=omega) only[go_sem,seval,bXq,bXr,bXn,bXk,bXm,bXo,bXi,bXl])<;>rfl) aZ (by rfl)
 have hex:(m8 l r).2=true:=(by simpa using c0);refine dN (Z5 _ _ (bD fun _ Z8=>bH hF ?_));refine aU [2,3,4,5] aZ ?_;((try simp only[go_sem,seval,bXq,bXr,bXn,bXk,bXm,bXo,bXi,bXl]);try simp (disch:=omega) only[go_sem,seval,bXq,bXr,bXn,bXk,bXm,bXo,bXi,bXl])
 repeat refine bZh bM ?_
 refine eF _ (gF _ l (m8 l r).1.fAt) ?_
 try ((try simp only[go_sem,seval,bXq,bXr,bXn,bXk,bXm,bXo,bXi,bXl]);try simp (disch:=omega) only[go_sem,seval,bXq,bXr,bXn,bXk,bXm,bXo,bXi,bXl])
 repeat refine bZh bM ?_
 refine Z8 _ _ (bD fun _ Z9=>dL (kM [] [] 144 3 rfl ?_));refine gU [4,2,3,5,7,8] (fun n sF ρ=> ∃o,∃a,∃h1,n=12-o.length∧sF=[rgO h1 o]∧(o.length≤12)∧(ovS l r=ovG l (m8 l r).1.fOverlap r.fSections (12-o.length) o a)∧ρ=cO O [(4,.bx [vs ⟨#[]⟩,vi 0,vi 0,.v (.slice none 0 0),.v (.slice none 0 0),.v (.slice none 0 0),vi 0,vi 0,.v (.slice none 0 0),.v (.slice none 0 0),.v (.slice none 0 0),.v (.slice none 0 0),.v (.slice none 0 0),.v (.slice none 0 0)]),(2,.bx (aQ l)),(3,.bx (ovX r h1 o.length)),(5,.bx (fC (m8 l r).1)),(7,.bx (cN a.1)),(8,vb a.2)]) _ ⟨[],aK l (m8 l r).1.fAt,iY,rfl,rfl,?_,?_,?_⟩ ?_
 ·simp
 ·(unfold ovS;rw[if_pos hex];rfl)
 ·((try simp only[go_sem,seval,bXq,bXr,bXn,bXk,bXm,bXo,bXi,bXl]);try simp (disch:=omega) only[go_sem,seval,bXq,bXr,bXn,bXk,bXm,bXo,bXi,bXl])<;>first|rfl|omega|simp|simp_all
 rintro n sF ρ ⟨o,a,h1,rfl,rfl,l0_0,l0_1,rfl⟩ _ Z10;refine bD fun _ Z11=>bD fun _ Z12=>cQ (Le.keepC [2,3,4,5,7,8] _) ?_;refine oH [4,2,3,5,7,8,29,30,31,32,33,34,35,36,37,38,39,40,41,42,43,44,45,46,47,48,49,50,51,52,53,54] [[],[0],[0,1],[0,1],[0,1,3],[0,1,2,3,4],[0,1],[0,1,6],[0,1,2,3,4,5,6,7],[0,1,2,3,4,5,6,7,8],[0,1,2,3,4,5,6,7,8,9],[0,1,2,3,4,5,6,7,8,9,10],[0,1,2,3,4,5,6,7,8,9,10,11],[0,1,2,3,4,5,6,7,8,9,10,11,12],[0,1,2,3,4,5,6,7,8,9,10,11,12,13],[0,1,2,3,4,5,6,7,8,9,10,11,12,13,14],[0,1,2,3,4,5,6,7,8,9,10,11,12,13,14,15],[0,1,2,3,4,5,6,7,8,9,10,11,12,13,14,15,16],[0,1,2,3,4,5,6,7,8,9,10,11,12,13,14,15,16],[0,1,2,3,4,5,6,7,8,9,10,11,12,13,14,15,16],[0,1,2,3,4,5,6,7,8,9,10,11,12,13,14,15,16,19],[0,1,2,3,4,5,6,7,8,9,10,11,12,13,14,15,16],[0,1,2,3,4,5,6,7,8,9,10,11,12,13,14,15,16,21],[0,1,2,3,4,5,6,7,8,9,10,11,12,13,14,15,16,17,18,19,20,21,22],[0,1,2,3,4,5,6,7,8,9,10,11,12,13,14,15,16,17,18,19,20,21,22,23],[0,1,2,3,4,5,6,7,8,9,10,11,12,13,14,15,16,17,18,19,20,21,22,23,24]] [[],[],[],[],[],[],[],[],[],[],[],[],[],[],[],[],[],[],[],[],[],[],[],[],[],[]] (fun (_:_root_.Unit) bQ=>cO O [(4,.bx [vs ⟨#[]⟩,vi 0,vi 0,.v (.slice none 0 0),.v (.slice none 0 0),.v (.slice none 0 0),vi 0,vi 0,.v (.slice none 0 0),.v (.slice none 0 0),.v (.slice none 0 0),.v (.slice none 0 0),.v (.slice none 0 0),.v (.slice none 0 0)]),(2,.bx (aQ l)),(3,.bx (ovX r h1 o.length)),(5,.bx (fC (m8 l r).1)),(7,.bx (cN a.1)),(8,vb a.2),(29,aX (bQ 0) (vb a.2)),(30,aX (bQ 1) (vb a.2)),(31,aX (bQ 2) (.cond a.2 (.agg (aQ l)))),(32,aX (bQ 3) (.cond a.2 (.bp 3 8))),(33,aX (bQ 4) (.cond a.2 (h1.sl o.length))),(34,aX (bQ 5) (.cond a.2 (vi (fQ l o)))),(35,aX (bQ 6) (.cond a.2 (.bp 5 3))),(36,aX (bQ 7) (.cond a.2 (vi (m8 l r).1.fOverlap))),(37,aX (bQ 8) (.cond a.2 (vb (decide (fQ l o<(m8 l r).1.fOverlap))))),(38,aX (bQ 9) (vb (a.2&&decide (fQ l o<(m8 l r).1.fOverlap)))),(39,aX (bQ 10) (vb (a.2&&decide (fQ l o<(m8 l r).1.fOverlap)))),(40,aX (bQ 11) (.cond (a.2&&decide (fQ l o<(m8 l r).1.fOverlap)) (.bp 3 8))),(41,aX (bQ 12) (.cond (a.2&&decide (fQ l o<(m8 l r).1.fOverlap)) (h1.sl o.length))),(42,aX (bQ 13) (.cond (a.2&&decide (fQ l o<(m8 l r).1.fOverlap)) (vi (o.length:Nat)))),(43,aX (bQ 14) (.cond (a.2&&decide (fQ l o<(m8 l r).1.fOverlap)) (vb (decide ((o.length:Int)<12))))),(44,aX (bQ 15) (vb ((a.2&&decide (fQ l o<(m8 l r).1.fOverlap))&&decide ((o.length:Int)<12)))),(45,aX (bQ 16) (vb ((a.2&&decide (fQ l o<(m8 l r).1.fOverlap))&&decide ((o.length:Int)<12)))),(46,aX (bQ 17) (.cond ((a.2&&decide (fQ l o<(m8 l r).1.fOverlap))&&decide ((o.length:Int)<12)) (.agg (aQ l)))),(47,aX (bQ 18) (.cond ((a.2&&decide (fQ l o<(m8 l r).1.fOverlap))&&decide ((o.length:Int)<12)) (.agg (ovX r h1 o.length)))),(48,aX (bQ 19) (.cond ((a.2&&decide (fQ l o<(m8 l r).1.fOverlap))&&decide ((o.length:Int)<12)) (.bp 3 8))),(49,aX (bQ 20) (.cond ((a.2&&decide (fQ l o<(m8 l r).1.fOverlap))&&decide ((o.length:Int)<12)) (h1.sl o.length))),(50,aX (bQ 21) (.cond ((a.2&&decide (fQ l o<(m8 l r).1.fOverlap))&&decide ((o.length:Int)<12)) (.bp 7 0))),(51,aX (bQ 22) (.cond ((a.2&&decide (fQ l o<(m8 l r).1.fOverlap))&&decide ((o.length:Int)<12)) (vi a.1.fEl))),(52,aX (bQ 23) (.cond ((a.2&&decide (fQ l o<(m8 l r).1.fOverlap))&&decide ((o.length:Int)<12)) (vb (xF l r.fSections o a.1.fEl)))),(53,aX (bQ 24) (.cond ((a.2&&decide (fQ l o<(m8 l r).1.fOverlap))&&decide ((o.length:Int)<12)) (vb (!xF l r.fSections o a.1.fEl)))),(54,aX (bQ 25) (vb (((a.2&&decide (fQ l o<(m8 l r).1.fOverlap))&&decide ((o.length:Int)<12))&& !xF l r.fSections o a.1.fEl)))]) (fun (_:_root_.Unit) bQ=>[rgO h1 o]) () hF eG aZ ?_ ?_ (fun iQ oQ hoQ gg bQ hbQ KQ hKQ=>?_) (fun gg=>?_)
 ·first|rfl|(((try simp only[go_sem,seval,bXq,bXr,bXn,bXk,bXm,bXo,bXi,bXl]);try simp (disch:=omega) only[go_sem,seval,bXq,bXr,bXn,bXk,bXm,bXo,bXi,bXl]);done)|(((try simp only[go_sem,seval,bXq,bXr,bXn,bXk,bXm,bXo,bXi,bXl]);try simp (disch:=omega) only[go_sem,seval,bXq,bXr,bXn,bXk,bXm,bXo,bXi,bXl])<;>rfl)
 ·((try simp only[go_sem,seval,bXq,bXr,bXn,bXk,bXm,bXo,bXi,bXl]);try simp (disch:=omega) only[go_sem,seval,bXq,bXr,bXn,bXk,bXm,bXo,bXi,bXl])<;>first|rfl|simp
 ·have hiQ:iQ<26:=(cBz.1 hoQ).1
  match iQ,hiQ with
  |0,_|1,_|9,_|10,_|15,_|16,_|25,_=>
   obtain rfl:=bZr hoQ;simp only[mK,fL,fM,cBe,cFm,cBm,bZk,cFt] at hbQ;show iU _ _ _ _ _ _ _ _;refine cH hF ?_;refine cC rfl aZ aZ ?_;((try simp only[go_sem,seval,bXq,bXr,bXn,bXk,bXm,bXo,bXi,bXl,hbQ]);try simp (disch:=omega) only[go_sem,seval,bXq,bXr,bXn,bXk,bXm,bXo,bXi,bXl,hbQ])
   repeat refine bZh bM ?_
   refine hKQ () _ _ ?_ ?_
   ·first|rfl|(((try simp only[go_sem,seval,bXq,bXr,bXn,bXk,bXm,bXo,bXi,bXl,hbQ]);try simp (disch:=omega) only[go_sem,seval,bXq,bXr,bXn,bXk,bXm,bXo,bXi,bXl,hbQ]);done)|(((try simp only[go_sem,seval,bXq,bXr,bXn,bXk,bXm,bXo,bXi,bXl,hbQ]);try simp (disch:=omega) only[go_sem,seval,bXq,bXr,bXn,bXk,bXm,bXo,bXi,bXl,hbQ])<;>rfl)
   ((try simp only[go_sem,seval,bXq,bXr,bXn,bXk,bXm,bXo,bXi,bXl,hbQ]);try simp (disch:=omega) only[go_sem,seval,bXq,bXr,bXn,bXk,bXm,bXo,bXi,bXl,hbQ])<;>first|rfl|simp
  |2,_|3,_|4,_|6,_|7,_|8,_|11,_|12,_|13,_|14,_|17,_|18,_|19,_|20,_|21,_|22,_|24,_=>
   obtain rfl:=bZr hoQ;simp only[mK,fL,fM,cBe,cFm,cBm,bZk,cFt] at hbQ;show iU _ _ _ _ _ _ _ _;refine cH hF ?_;refine bMn rfl aZ aZ aZ aZ ?_;((try simp only[go_sem,seval,bXq,bXr,bXn,bXk,bXm,bXo,bXi,bXl,hbQ]);try simp (disch:=omega) only[go_sem,seval,bXq,bXr,bXn,bXk,bXm,bXo,bXi,bXl,hbQ])
   repeat refine bZh bM ?_
   refine hKQ () _ _ ?_ ?_
   ·first|rfl|(((try simp only[go_sem,seval,bXq,bXr,bXn,bXk,bXm,bXo,bXi,bXl,hbQ]);try simp (disch:=omega) only[go_sem,seval,bXq,bXr,bXn,bXk,bXm,bXo,bXi,bXl,hbQ]);done)|(((try simp only[go_sem,seval,bXq,bXr,bXn,bXk,bXm,bXo,bXi,bXl,hbQ]);try simp (disch:=omega) only[go_sem,seval,bXq,bXr,bXn,bXk,bXm,bXo,bXi,bXl,hbQ])<;>rfl)
   ((try simp only[go_sem,seval,bXq,bXr,bXn,bXk,bXm,bXo,bXi,bXl,hbQ]);try simp (disch:=omega) only[go_sem,seval,bXq,bXr,bXn,bXk,bXm,bXo,bXi,bXl,hbQ])<;>first|rfl|simp
  |5,_=>
   obtain rfl:=bZr hoQ;simp only[mK,fL,fM,cBe,cFm,cBm,bZk,cFt] at hbQ;show iU _ _ _ _ _ _ _ _;refine aBk (dd:=34) (g:=_) (al:=[.agg (aQ l),cA o]) rfl rfl rfl gS aZ aZ (by ((try simp only[go_sem,seval,bXq,bXr,bXn,bXk,bXm,bXo,bXi,bXl,hbQ]);try simp (disch:=omega) only[go_sem,seval,bXq,bXr,bXn,bXk,bXm,bXo,bXi,bXl,hbQ])<;>rfl) rfl (bSm _) (fun hg=>⟨by ((try simp only[go_sem,seval,bXq,bXr,bXn,bXk,bXm,bXo,bXi,bXl,hbQ]);try simp (disch:=omega) only[go_sem,seval,bXq,bXr,bXn,bXk,bXm,bXo,bXi,bXl,hbQ])<;>first|exact hg|(simpa using hg),by ((try simp only[go_sem,seval,bXq,bXr,bXn,bXk,bXm,bXo,bXi,bXl,hbQ]);try simp (disch:=omega) only[go_sem,seval,bXq,bXr,bXn,bXk,bXm,bXo,bXi,bXl,hbQ])<;>first|exact hg|(simpa using hg),by ((try simp only[go_sem,seval,bXq,bXr,bXn,bXk,bXm,bXo,bXi,bXl,hbQ]);try simp (disch:=omega) only[go_sem,seval,bXq,bXr,bXn,bXk,bXm,bXo,bXi,bXl,hbQ])<;>rfl,by kernel_rfl,.cons (.pure _ rfl) (.cons (bKk b7) .nil),pS _ l o hl hes aN⟩) ?_
   try ((try simp only[go_sem,seval,bXq,bXr,bXn,bXk,bXm,bXo,bXi,bXl,hbQ]);try simp (disch:=omega) only[go_sem,seval,bXq,bXr,bXn,bXk,bXm,bXo,bXi,bXl,hbQ])
   refine hKQ () _ _ ?_ ?_
   ·first|rfl|(((try simp only[go_sem,seval,bXq,bXr,bXn,bXk,bXm,bXo,bXi,bXl,hbQ]);try simp (disch:=omega) only[go_sem,seval,bXq,bXr,bXn,bXk,bXm,bXo,bXi,bXl,hbQ]);done)|(((try simp only[go_sem,seval,bXq,bXr,bXn,bXk,bXm,bXo,bXi,bXl,hbQ]);try simp (disch:=omega) only[go_sem,seval,bXq,bXr,bXn,bXk,bXm,bXo,bXi,bXl,hbQ])<;>rfl)
   ((try simp only[go_sem,seval,bXq,bXr,bXn,bXk,bXm,bXo,bXi,bXl,hbQ]);try simp (disch:=omega) only[go_sem,seval,bXq,bXr,bXn,bXk,bXm,bXo,bXi,bXl,hbQ])<;>first|rfl|simp
  |23,_=>
   obtain rfl:=bZr hoQ;simp only[mK,fL,fM,cBe,cFm,cBm,bZk,cFt] at hbQ;show iU _ _ _ _ _ _ _ _;refine aBk (dd:=52) (g:=_) (al:=[.agg (aQ l),.agg (bR (⟨r.fName,r.fEntry,r.fExit,r.fPath,r.fPoints,r.fSections,r.fApproach,r.fLength,o,[],[],r.fFlank,r.fGuards,r.fGaps⟩:bI)),cA o,vi a.1.fEl]) rfl rfl rfl gS aZ aZ (by ((try simp only[go_sem,seval,bXq,bXr,bXn,bXk,bXm,bXo,bXi,bXl,hbQ]);try simp (disch:=omega) only[go_sem,seval,bXq,bXr,bXn,bXk,bXm,bXo,bXi,bXl,hbQ])<;>rfl) rfl (bRy _) (fun hg=>⟨by ((try simp only[go_sem,seval,bXq,bXr,bXn,bXk,bXm,bXo,bXi,bXl,hbQ]);try simp (disch:=omega) only[go_sem,seval,bXq,bXr,bXn,bXk,bXm,bXo,bXi,bXl,hbQ])<;>first|exact hg|(simpa using hg),by ((try simp only[go_sem,seval,bXq,bXr,bXn,bXk,bXm,bXo,bXi,bXl,hbQ]);try simp (disch:=omega) only[go_sem,seval,bXq,bXr,bXn,bXk,bXm,bXo,bXi,bXl,hbQ])<;>first|exact hg|(simpa using hg),by ((try simp only[go_sem,seval,bXq,bXr,bXn,bXk,bXm,bXo,bXi,bXl,hbQ]);try simp (disch:=omega) only[go_sem,seval,bXq,bXr,bXn,bXk,bXm,bXo,bXi,bXl,hbQ])<;>rfl,by kernel_rfl,.cons (.pure _ rfl) (.cons (bNa r b7) (.cons (bKk b7) (.cons (.pure _ rfl) .nil))),xR _ l (⟨r.fName,r.fEntry,r.fExit,r.fPath,r.fPoints,r.fSections,r.fApproach,r.fLength,o,[],[],r.fFlank,r.fGuards,r.fGaps⟩:bI) o a.1.fEl aN hr3b⟩) ?_
   try ((try simp only[go_sem,seval,bXq,bXr,bXn,bXk,bXm,bXo,bXi,bXl,hbQ]);try simp (disch:=omega) only[go_sem,seval,bXq,bXr,bXn,bXk,bXm,bXo,bXi,bXl,hbQ])
   refine hKQ () _ _ ?_ ?_
   ·first|rfl|(((try simp only[go_sem,seval,bXq,bXr,bXn,bXk,bXm,bXo,bXi,bXl,hbQ]);try simp (disch:=omega) only[go_sem,seval,bXq,bXr,bXn,bXk,bXm,bXo,bXi,bXl,hbQ]);done)|(((try simp only[go_sem,seval,bXq,bXr,bXn,bXk,bXm,bXo,bXi,bXl,hbQ]);try simp (disch:=omega) only[go_sem,seval,bXq,bXr,bXn,bXk,bXm,bXo,bXi,bXl,hbQ])<;>rfl)
   ((try simp only[go_sem,seval,bXq,bXr,bXn,bXk,bXm,bXo,bXi,bXl,hbQ]);try simp (disch:=omega) only[go_sem,seval,bXq,bXr,bXn,bXk,bXm,bXo,bXi,bXl,hbQ])<;>first|rfl|simp
 ((try simp only[go_sem,seval,bXq,bXr,bXn,bXk,bXm,bXo,bXi,bXl]);try simp (disch:=omega) only[go_sem,seval,bXq,bXr,bXn,bXk,bXm,bXo,bXi,bXl])
 repeat refine bZh bM ?_
 refine Z12 _ _ (fK (fun c1=>?_) fun c1=>?_)
 ·have hcc:((a.2=true∧fQ l o<(m8 l r).1.fOverlap)∧o.length<12)∧xF l r.fSections o a.1.fEl=false:=(by simpa using c1);have hc1:=hcc.1;have hc2:=hcc.2;obtain ⟨m,hm⟩: ∃m,12-o.length=m+1:=⟨11-o.length,by omega⟩;refine dN (Z11 _ _ (dL (bD fun _ Z13=>bH hF ?_)));refine aU [2,3,4,5,7] aZ ?_;((try simp only[go_sem,seval,bXq,bXr,bXn,bXk,bXm,bXo,bXi,bXl]);try simp (disch:=omega) only[go_sem,seval,bXq,bXr,bXn,bXk,bXm,bXo,bXi,bXl])
  repeat refine bZh bM ?_
  refine eF _ (mP _ l a.1 hl) ?_
  try ((try simp only[go_sem,seval,bXq,bXr,bXn,bXk,bXm,bXo,bXi,bXl]);try simp (disch:=omega) only[go_sem,seval,bXq,bXr,bXn,bXk,bXm,bXo,bXi,bXl])
  repeat refine bZh bM ?_
  refine Z13 _ _ (bD fun _ Z14=>bD fun _ Z15=>bH hF ?_);refine aU [2,3,4,5,7,9] aZ ?_;((try simp only[go_sem,seval,bXq,bXr,bXn,bXk,bXm,bXo,bXi,bXl]);try simp (disch:=omega) only[go_sem,seval,bXq,bXr,bXn,bXk,bXm,bXo,bXi,bXl])
  repeat refine bZh bM ?_
  refine Z15 _ _ (fK (fun c2=>?_) fun c2=>?_)
  ·have hovE:ovS l r=o:=(by rw[l0_1,bKe (by rintro ⟨h1,h2,h3⟩;omega)]);refine gB (Z9 _ _ (bD fun _ Z16=>?_));refine fE (s1:=[]) (s2:=[]) 3 8 (by first|rfl|(((try simp only[go_sem,seval]);try simp (disch:=omega) only[go_sem,seval]);done)|(((try simp only[go_sem,seval]);try simp (disch:=omega) only[go_sem,seval]);rfl)) (by first|rfl|(rw[cAr];rfl)) rfl (cF.frzL cM o) rfl ?_;refine bH hF ?_;refine aU [2,3,4] aZ ?_;((try simp only[go_sem,seval,bXq,bXr,bXn,bXk,bXm,bXo,bXi,bXl]);try simp (disch:=omega) only[go_sem,seval,bXq,bXr,bXn,bXk,bXm,bXo,bXi,bXl])
   repeat refine bZh bM ?_
   refine eF _ (jE _ l o hl aN) ?_
   try ((try simp only[go_sem,seval,bXq,bXr,bXn,bXk,bXm,bXo,bXi,bXl]);try simp (disch:=omega) only[go_sem,seval,bXq,bXr,bXn,bXk,bXm,bXo,bXi,bXl])
   repeat refine bZh bM ?_
   refine Z16 _ _ (bD fun _ Z17=>bH hF ?_);refine aU [2,3,4] aZ ?_;((try simp only[go_sem,seval,bXq,bXr,bXn,bXk,bXm,bXo,bXi,bXl]);try simp (disch:=omega) only[go_sem,seval,bXq,bXr,bXn,bXk,bXm,bXo,bXi,bXl])
   repeat refine bZh bM ?_
   refine eF _ (gM _ l o hl aN) ?_
   try ((try simp only[go_sem,seval,bXq,bXr,bXn,bXk,bXm,bXo,bXi,bXl]);try simp (disch:=omega) only[go_sem,seval,bXq,bXr,bXn,bXk,bXm,bXo,bXi,bXl])
   repeat refine bZh bM ?_
   refine Z17 _ _ (bD fun _ Z18=>bH hF ?_);refine aU [3,4] aZ ?_;((try simp only[go_sem,seval,bXq,bXr,bXn,bXk,bXm,bXo,bXi,bXl]);try simp (disch:=omega) only[go_sem,seval,bXq,bXr,bXn,bXk,bXm,bXo,bXi,bXl])
   repeat refine bZh bM ?_
   refine Z18 _ _ (lH ?_)
   (try simp only[oD,lV]);refine lZ 4 121 rfl (by ((try simp only[go_sem,seval,bXq,bXr,bXn,bXk,bXm,bXo,bXi,bXl]);try simp (disch:=omega) only[go_sem,seval,bXq,bXr,bXn,bXk,bXm,bXo,bXi,bXl])) (by ((try simp only[go_sem,seval,bXq,bXr,bXn,bXk,bXm,bXo,bXi,bXl]);try simp (disch:=omega) only[go_sem,seval,bXq,bXr,bXn,bXk,bXm,bXo,bXi,bXl])<;>first|rfl|(simp only[ovF,hovE];done)|(simp only[ovF,hovE];rfl)) aZ (by rfl)
  have hc3:(e7 l a.1).length≠0:=aN;refine dN (Z14 _ _ (bD fun _ Z19=>cQ (Le.keepC [2,3,4,5,7,9] _) ?_));refine oH [4,2,5,7,9,61,63,64,65,66,67,68,3,62] [[],[0],[],[2],[2,3],[2,3,4],[0,1,2,3,4,5],[0,1,2,3,4,5,6],[0,1,2,3,4,5,6,7]] [[1,6,8],[6,8],[6,8],[6,8],[6,8],[6,8],[8],[8],[]] (fun (hx:Hd) bQ=>cO O [(4,.bx [vs ⟨#[]⟩,vi 0,vi 0,.v (.slice none 0 0),.v (.slice none 0 0),.v (.slice none 0 0),vi 0,vi 0,.v (.slice none 0 0),.v (.slice none 0 0),.v (.slice none 0 0),.v (.slice none 0 0),.v (.slice none 0 0),.v (.slice none 0 0)]),(2,.bx (aQ l)),(5,.bx (fC (m8 l r).1)),(7,.bx (cN a.1)),(9,cA (e7 l a.1)),(61,aX (bQ 0) (.bp 3 8)),(63,aX (bQ 2) (cA (e7 l a.1))),(64,aX (bQ 3) (.dp (cM ((e7 l a.1).getD 0 default)))),(65,aX (bQ 4) (.agg (cM ((e7 l a.1).getD 0 default)))),(66,aX (bQ 5) (.sl 3 1 (fun i_=>[cM ((e7 l a.1).getD 0 default)].getD i_ []))),(67,aX (bQ 6) (hx.sl (o++[((e7 l a.1).getD 0 default)]).length)),(68,aX (bQ 7) (.bp 3 8)),(3,jB (bQ 8) true (.bx (ovX r hx (o++[((e7 l a.1).getD 0 default)]).length)) (.bx (ovX r h1 o.length))),(62,(cond (bQ 6) (.any) (cond (bQ 1) (h1.sl o.length) (.any))))]) (fun (hx:Hd) bQ=>(cond (bQ 6) [rgO hx (o++[((e7 l a.1).getD 0 default)])] [rgO h1 o])) ⟨none,none,0⟩ hF eG aZ ?_ ?_ (fun iQ oQ hoQ hx bQ hbQ KQ hKQ=>?_) (fun hx=>?_)
  ·first|rfl|(((try simp only[go_sem,seval,bXq,bXr,bXn,bXk,bXm,bXo,bXi,bXl]);try simp (disch:=omega) only[go_sem,seval,bXq,bXr,bXn,bXk,bXm,bXo,bXi,bXl]);done)|(((try simp only[go_sem,seval,bXq,bXr,bXn,bXk,bXm,bXo,bXi,bXl]);try simp (disch:=omega) only[go_sem,seval,bXq,bXr,bXn,bXk,bXm,bXo,bXi,bXl])<;>rfl)
  ·((try simp only[go_sem,seval,bXq,bXr,bXn,bXk,bXm,bXo,bXi,bXl]);try simp (disch:=omega) only[go_sem,seval,bXq,bXr,bXn,bXk,bXm,bXo,bXi,bXl])<;>first|rfl|simp
  ·have hiQ:iQ<9:=(cBz.1 hoQ).1
   match iQ,hiQ with
   |0,_|1,_|2,_|3,_|4,_|5,_|7,_|8,_=>
    obtain rfl:=bZr hoQ;simp only[mK,fL,fM,cBe,cFm,cBm,bZk,cFt] at hbQ;show iU _ _ _ _ _ _ _ _;refine cH hF ?_;refine cC rfl aZ aZ ?_;((try simp only[go_sem,seval,bXq,bXr,bXn,bXk,bXm,bXo,bXi,bXl,hbQ]);try simp (disch:=omega) only[go_sem,seval,bXq,bXr,bXn,bXk,bXm,bXo,bXi,bXl,hbQ])
    repeat refine bZh bM ?_
    refine hKQ hx _ _ ?_ ?_
    ·first|rfl|(((try simp only[go_sem,seval,bXq,bXr,bXn,bXk,bXm,bXo,bXi,bXl,hbQ]);try simp (disch:=omega) only[go_sem,seval,bXq,bXr,bXn,bXk,bXm,bXo,bXi,bXl,hbQ]);done)|(((try simp only[go_sem,seval,bXq,bXr,bXn,bXk,bXm,bXo,bXi,bXl,hbQ]);try simp (disch:=omega) only[go_sem,seval,bXq,bXr,bXn,bXk,bXm,bXo,bXi,bXl,hbQ])<;>rfl)
    ((try simp only[go_sem,seval,bXq,bXr,bXn,bXk,bXm,bXo,bXi,bXl,hbQ]);try simp (disch:=omega) only[go_sem,seval,bXq,bXr,bXn,bXk,bXm,bXo,bXi,bXl,hbQ])<;>first|rfl|simp
   |6,_=>
    obtain rfl:=bZr hoQ;simp only[mK,fL,fM,cBe,cFm,cBm,bZk,cFt] at hbQ;rw[hbQ.1];simp only[cDq];show iU _ _ _ _ _ _ _ _;refine gT (s1:=[]) (s2:=[]) 62 gS (by ((try simp only[go_sem,seval,bXq,bXr,bXn,bXk,bXm,bXo,bXi,bXl,hbQ]);try simp (disch:=omega) only[go_sem,seval,bXq,bXr,bXn,bXk,bXm,bXo,bXi,bXl,hbQ])<;>rfl) rfl ?_;refine lK [] [] 144 3 ((o++[((e7 l a.1).getD 0 default)]).map cM) 67 gS ?_;show iU _ _ _ _ _ _ _ _;refine cH hF ?_;refine cC rfl aZ aZ ?_;((try simp only[go_sem,seval,bXq,bXr,bXn,bXk,bXm,bXo,bXi,bXl,hbQ]);try simp (disch:=omega) only[go_sem,seval,bXq,bXr,bXn,bXk,bXm,bXo,bXi,bXl,hbQ])
    repeat refine bZh bM ?_
    refine ⟨rfl,by ((try simp only[go_sem,seval,bXq,bXr,bXn,bXk,bXm,bXo,bXi,bXl,hbQ]);try simp (disch:=omega) only[go_sem,seval,bXq,bXr,bXn,bXk,bXm,bXo,bXi,bXl,hbQ])<;>(first|rfl|(simp;done)|(simp;rfl)),fun hx=>?_⟩
    try ((try simp only[go_sem,seval,bXq,bXr,bXn,bXk,bXm,bXo,bXi,bXl,hbQ]);try simp (disch:=omega) only[go_sem,seval,bXq,bXr,bXn,bXk,bXm,bXo,bXi,bXl,hbQ])
    refine hKQ hx _ _ ?_ ?_
    ·first|rfl|(((try simp only[go_sem,seval,bXq,bXr,bXn,bXk,bXm,bXo,bXi,bXl,hbQ]);try simp (disch:=omega) only[go_sem,seval,bXq,bXr,bXn,bXk,bXm,bXo,bXi,bXl,hbQ]);done)|(((try simp only[go_sem,seval,bXq,bXr,bXn,bXk,bXm,bXo,bXi,bXl,hbQ]);try simp (disch:=omega) only[go_sem,seval,bXq,bXr,bXn,bXk,bXm,bXo,bXi,bXl,hbQ])<;>rfl)
    ((try simp only[go_sem,seval,bXq,bXr,bXn,bXk,bXm,bXo,bXi,bXl,hbQ]);try simp (disch:=omega) only[go_sem,seval,bXq,bXr,bXn,bXk,bXm,bXo,bXi,bXl,hbQ])<;>first|rfl|simp
  ((try simp only[go_sem,seval,bXq,bXr,bXn,bXk,bXm,bXo,bXi,bXl]);try simp (disch:=omega) only[go_sem,seval,bXq,bXr,bXn,bXk,bXm,bXo,bXi,bXl])
  repeat refine bZh bM ?_
  refine Z19 _ _ (cQ (Le.keepC [2,3,4,5,7,9] _) ?_);refine oH [4,2,3,5,9,70,71,72,73,74,69,75,76,8,7] [[],[],[1],[1,2],[0,1,2,3],[0,1,2,3,4],[0,1,2,3,4,5],[0,1,2,3,4,5],[0,1,2,3,4,5,6],[0,1,2,3,4,5,6,7,8]] [[8],[8],[8],[8],[8],[8],[8],[],[],[]] (fun (_:_root_.Unit) bQ=>cO O [(4,.bx [vs ⟨#[]⟩,vi 0,vi 0,.v (.slice none 0 0),.v (.slice none 0 0),.v (.slice none 0 0),vi 0,vi 0,.v (.slice none 0 0),.v (.slice none 0 0),.v (.slice none 0 0),.v (.slice none 0 0),.v (.slice none 0 0),.v (.slice none 0 0)]),(2,.bx (aQ l)),(3,.bx (ovX r hx (o++[((e7 l a.1).getD 0 default)]).length)),(5,.bx (fC (m8 l r).1)),(9,cA (e7 l a.1)),(70,aX (bQ 0) (.agg (aQ l))),(71,aX (bQ 1) (cA (e7 l a.1))),(72,aX (bQ 2) (.dp (cM ((e7 l a.1).getD 0 default)))),(73,aX (bQ 3) (.agg (cM ((e7 l a.1).getD 0 default)))),(74,aX (bQ 4) (.tup [.agg (cN (cR l ((e7 l a.1).getD 0 default)).1),vb (cR l ((e7 l a.1).getD 0 default)).2])),(69,aX (bQ 5) (.tup [.agg (cN (cR l ((e7 l a.1).getD 0 default)).1),vb (cR l ((e7 l a.1).getD 0 default)).2])),(75,aX (bQ 6) (.agg (cN (cR l ((e7 l a.1).getD 0 default)).1))),(76,aX (bQ 7) (vb (cR l ((e7 l a.1).getD 0 default)).2)),(8,aX (bQ 9) (vb (cR l ((e7 l a.1).getD 0 default)).2)),(7,jB (bQ 8) true (.bx (cN (cR l ((e7 l a.1).getD 0 default)).1)) (.bx (cN a.1)))]) (fun (_:_root_.Unit) bQ=>[rgO hx (o++[((e7 l a.1).getD 0 default)])]) () hF eG aZ ?_ ?_ (fun iQ oQ hoQ gg bQ hbQ KQ hKQ=>?_) (fun gg=>?_)
  ·first|rfl|(((try simp only[go_sem,seval,bXq,bXr,bXn,bXk,bXm,bXo,bXi,bXl]);try simp (disch:=omega) only[go_sem,seval,bXq,bXr,bXn,bXk,bXm,bXo,bXi,bXl]);done)|(((try simp only[go_sem,seval,bXq,bXr,bXn,bXk,bXm,bXo,bXi,bXl]);try simp (disch:=omega) only[go_sem,seval,bXq,bXr,bXn,bXk,bXm,bXo,bXi,bXl])<;>rfl)
  ·((try simp only[go_sem,seval,bXq,bXr,bXn,bXk,bXm,bXo,bXi,bXl]);try simp (disch:=omega) only[go_sem,seval,bXq,bXr,bXn,bXk,bXm,bXo,bXi,bXl])<;>first|rfl|simp
  ·have hiQ:iQ<10:=(cBz.1 hoQ).1
   match iQ,hiQ with
   |0,_|1,_|2,_|3,_|5,_|6,_|7,_|8,_|9,_=>
    obtain rfl:=bZr hoQ;simp only[mK,fL,fM,cBe,cFm,cBm,bZk,cFt] at hbQ;show iU _ _ _ _ _ _ _ _;refine cH hF ?_;refine cC rfl aZ aZ ?_;((try simp only[go_sem,seval,bXq,bXr,bXn,bXk,bXm,bXo,bXi,bXl,hbQ]);try simp (disch:=omega) only[go_sem,seval,bXq,bXr,bXn,bXk,bXm,bXo,bXi,bXl,hbQ])
    repeat refine bZh bM ?_
    refine hKQ () _ _ ?_ ?_
    ·first|rfl|(((try simp only[go_sem,seval,bXq,bXr,bXn,bXk,bXm,bXo,bXi,bXl,hbQ]);try simp (disch:=omega) only[go_sem,seval,bXq,bXr,bXn,bXk,bXm,bXo,bXi,bXl,hbQ]);done)|(((try simp only[go_sem,seval,bXq,bXr,bXn,bXk,bXm,bXo,bXi,bXl,hbQ]);try simp (disch:=omega) only[go_sem,seval,bXq,bXr,bXn,bXk,bXm,bXo,bXi,bXl,hbQ])<;>rfl)
    ((try simp only[go_sem,seval,bXq,bXr,bXn,bXk,bXm,bXo,bXi,bXl,hbQ]);try simp (disch:=omega) only[go_sem,seval,bXq,bXr,bXn,bXk,bXm,bXo,bXi,bXl,hbQ])<;>first|rfl|simp
   |4,_=>
    obtain rfl:=bZr hoQ;simp only[mK,fL,fM,cBe,cFm,cBm,bZk,cFt] at hbQ;show iU _ _ _ _ _ _ _ _;refine cH hF ?_;refine cC rfl aZ aZ ?_;((try simp only[go_sem,seval,bXq,bXr,bXn,bXk,bXm,bXo,bXi,bXl,hbQ]);try simp (disch:=omega) only[go_sem,seval,bXq,bXr,bXn,bXk,bXm,bXo,bXi,bXl,hbQ])
    repeat refine bZh bM ?_
    refine eF _ (kB _ l ((e7 l a.1).getD 0 default)) ?_;((try simp only[go_sem,seval,bXq,bXr,bXn,bXk,bXm,bXo,bXi,bXl,hbQ]);try simp (disch:=omega) only[go_sem,seval,bXq,bXr,bXn,bXk,bXm,bXo,bXi,bXl,hbQ])
    repeat refine bZh bM ?_
    refine hKQ () _ _ ?_ ?_
    ·first|rfl|(((try simp only[go_sem,seval,bXq,bXr,bXn,bXk,bXm,bXo,bXi,bXl,hbQ]);try simp (disch:=omega) only[go_sem,seval,bXq,bXr,bXn,bXk,bXm,bXo,bXi,bXl,hbQ]);done)|(((try simp only[go_sem,seval,bXq,bXr,bXn,bXk,bXm,bXo,bXi,bXl,hbQ]);try simp (disch:=omega) only[go_sem,seval,bXq,bXr,bXn,bXk,bXm,bXo,bXi,bXl,hbQ])<;>rfl)
    ((try simp only[go_sem,seval,bXq,bXr,bXn,bXk,bXm,bXo,bXi,bXl,hbQ]);try simp (disch:=omega) only[go_sem,seval,bXq,bXr,bXn,bXk,bXm,bXo,bXi,bXl,hbQ])<;>first|rfl|simp
  ((try simp only[go_sem,seval,bXq,bXr,bXn,bXk,bXm,bXo,bXi,bXl]);try simp (disch:=omega) only[go_sem,seval,bXq,bXr,bXn,bXk,bXm,bXo,bXi,bXl])
  repeat refine bZh bM ?_
  refine Z10 _ _ _ ?_ ⟨o++[((e7 l a.1).getD 0 default)],cR l ((e7 l a.1).getD 0 default),hx,rfl,rfl,?_,?_,?_⟩
  ·simp;omega
  ·simp;omega
  ·rw[l0_1,hm,bQx ⟨hc1,hc2,hc3⟩];congr 1;simp;omega
  ((try simp only[go_sem,seval,bXq,bXr,bXn,bXk,bXm,bXo,bXi,bXl]);try simp (disch:=omega) only[go_sem,seval,bXq,bXr,bXn,bXk,bXm,bXo,bXi,bXl])<;>first|rfl|omega|simp|simp_all
 have hovE:ovS l r=o:=(by rw[l0_1,bKe (by rintro ⟨⟨⟨h1,h2⟩,h3⟩,h4,h5⟩;have h2b:=cFr h2;have h3b:=cFr (show ((o.length:Int)<12) by omega);simp[h1,h4,h2,h3] at c1;omega)]);refine gB (Z9 _ _ (bD fun _ Z20=>?_));refine fE (s1:=[]) (s2:=[]) 3 8 (by first|rfl|(((try simp only[go_sem,seval]);try simp (disch:=omega) only[go_sem,seval]);done)|(((try simp only[go_sem,seval]);try simp (disch:=omega) only[go_sem,seval]);rfl)) (by first|rfl|(rw[cAr];rfl)) rfl (cF.frzL cM o) rfl ?_;refine bH hF ?_;refine aU [2,3,4] aZ ?_;((try simp only[go_sem,seval,bXq,bXr,bXn,bXk,bXm,bXo,bXi,bXl]);try simp (disch:=omega) only[go_sem,seval,bXq,bXr,bXn,bXk,bXm,bXo,bXi,bXl])
 repeat refine bZh bM ?_
 refine eF _ (jE _ l o hl aN) ?_
 try ((try simp only[go_sem,seval,bXq,bXr,bXn,bXk,bXm,bXo,bXi,bXl]);try simp (disch:=omega) only[go_sem,seval,bXq,bXr,bXn,bXk,bXm,bXo,bXi,bXl])
 repeat refine bZh bM ?_
 refine Z20 _ _ (bD fun _ Z21=>bH hF ?_);refine aU [2,3,4] aZ ?_;((try simp only[go_sem,seval,bXq,bXr,bXn,bXk,bXm,bXo,bXi,bXl]);try simp (disch:=omega) only[go_sem,seval,bXq,bXr,bXn,bXk,bXm,bXo,bXi,bXl])
 repeat refine bZh bM ?_
 refine eF _ (gM _ l o hl aN) ?_
 try ((try simp only[go_sem,seval,bXq,bXr,bXn,bXk,bXm,bXo,bXi,bXl]);try simp (disch:=omega) only[go_sem,seval,bXq,bXr,bXn,bXk,bXm,bXo,bXi,bXl])
 repeat refine bZh bM ?_
 refine Z21 _ _ (bD fun _ Z22=>bH hF ?_);refine aU [3,4] aZ ?_;((try simp only[go_sem,seval,bXq,bXr,bXn,bXk,bXm,bXo,bXi,bXl]);try simp (disch:=omega) only[go_sem,seval,bXq,bXr,bXn,bXk,bXm,bXo,bXi,bXl])
 repeat refine bZh bM ?_
 refine Z22 _ _ (lH ?_)
 (try simp only[oD,lV]);refine lZ 4 121 rfl (by ((try simp only[go_sem,seval,bXq,bXr,bXn,bXk,bXm,bXo,bXi,bXl]);try simp (disch:=omega) only[go_sem,seval,bXq,bXr,bXn,bXk,bXm,bXo,bXi,bXl])) (by ((try simp only[go_sem,seval,bXq,bXr,bXn,bXk,bXm,bXo,bXi,bXl]);try simp (disch:=omega) only[go_sem,seval,bXq,bXr,bXn,bXk,bXm,bXo,bXi,bXl])<;>first|rfl|(simp only[ovF,hovE];done)|(simp only[ovF,hovE];rfl)) aZ (by rfl)
end
abbrev rgN (h:Hd) (G:List Int):Rg:=.row h 3 1 (G.map eI)
abbrev rgE (h:Hd) (P:List cP):Rg:=.row h 152 2 (P.map cN)
def flX (r:bI) (hF hG hP:Hd) (a b c:Nat):List DV:=[vs r.fName,vi r.fEntry,vi r.fExit,cA r.fPath,dJ r.fPoints,bT r.fSections,vi r.fApproach,vi r.fLength,cA r.fOver,dJ r.fOverPoints,bT r.fOverSections,hF.sl a,hG.sl b,hP.sl c]
section
variable (r:bI) (hF hG hP h:Hd) (a b c n:Nat)
theorem cKz:(((bR r).set 11 (.v (.slice none 0 0))).set 12 (.v (.slice none 0 0))).set 13 (.v (.slice none 0 0))=flX r iY iY iY 0 0 0:=rfl
end
theorem bUq (s:aM):PlV (.agg (bJ s)):=.agg fun d hd=>by
 simp only[bJ,cDt,cDp,or_false] at hd;rcases hd with rfl|rfl<;>exact .v _
theorem bTw (s:aM) (g:Int) (b:Bool):PlV (.tup [.agg (bJ s),vi g,vb b]):=.tup fun d hd=>by
 simp only[cDt,cDp,or_false] at hd;rcases hd with rfl|rfl|rfl
 ·exact bUq s
 ·exact .v _
 exact .v _
def rfX (r:bI) (F:List aM) (G:List Int) (h:Hd) (n:Nat):List DV:=[vs r.fName,vi r.fEntry,vi r.fExit,cA r.fPath,dJ r.fPoints,bT r.fSections,vi r.fApproach,vi r.fLength,cA r.fOver,dJ r.fOverPoints,bT r.fOverSections,dJ F,bT G,h.sl n]
section
variable (r:bI) (F F':List aM) (G G':List Int) (h h':Hd) (n m:Nat)
theorem bXu:nM (fun x=>x+100000) (rfX r F G h n)=rfX r F G h n:=rfl
theorem bXt:(rfX r F G h n).length=14:=rfl
theorem bXp:(rfX r F G h n).take 14=rfX r F G h n:=rfl
theorem bXs (p:Nat→Bool):eQ p (rfX r F G h n)=true:=rfl
theorem bXv:(rfX r F G h n).getD 11 .any=dJ F:=rfl
theorem bXw:(rfX r F G h n).getD 12 .any=bT G:=rfl
theorem bXx:(rfX r F G h n).getD 13 .any=h.sl n:=rfl
theorem bXz:(rfX r F G h n).set 11 (dJ F')=rfX r F' G h n:=rfl
theorem bYa:(rfX r F G h n).set 12 (bT G')=rfX r F G' h n:=rfl
theorem lM (d:DV):(rfX r F G h n).set 13 d=[vs r.fName,vi r.fEntry,vi r.fExit,cA r.fPath,dJ r.fPoints,bT r.fSections,vi r.fApproach,vi r.fLength,cA r.fOver,dJ r.fOverPoints,bT r.fOverSections,dJ F,bT G,d]:=rfl
theorem bXy:(rfX r F G h n).set 13 (h'.sl m)=rfX r F G h' m:=rfl
end
theorem bRx (r:bI):tF (flX r iY iY iY 0 0 0) (rfX r [] [] iY 0):=.cons (cF.refl _) (.cons (cF.refl _) (.cons (cF.refl _) (.cons (cF.refl _) (.cons (cF.refl _) (.cons (cF.refl _) (.cons (cF.refl _) (.cons (cF.refl _) (.cons (cF.refl _) (.cons (cF.refl _) (.cons (cF.refl _) (.cons (cF.nilL _) (.cons (cF.nilL _) (.cons (cF.refl _) .nil)))))))))))))
theorem bLa (r:bI):tF (rfX r [] [] iY 0) (bR (wFG r [] [] [])):=.cons (cF.refl _) (.cons (cF.refl _) (.cons (cF.refl _) (.cons (cF.refl _) (.cons (cF.refl _) (.cons (cF.refl _) (.cons (cF.refl _) (.cons (cF.refl _) (.cons (cF.refl _) (.cons (cF.refl _) (.cons (cF.refl _) (.cons (cF.refl _) (.cons (cF.refl _) (.cons (cF.nilL _) .nil)))))))))))))
theorem bNf {rs:List Rg} {h:Hd} {P:List cP} (r:bI) (F:List aM) (G:List Int) (hm:rgE h P∈rs):Lnd rs (.agg (rfX r F G h P.length)) (.agg (bR (wFG r F G P))):=
 vX.toAgg (.cons (.pure _ rfl) (.cons (.pure _ rfl) (.cons (.pure _ rfl) (.cons (.pure _ rfl) (.cons (.pure _ rfl) (.cons (.pure _ rfl) (.cons (.pure _ rfl) (.cons (.pure _ rfl) (.cons (.pure _ rfl) (.cons (.pure _ rfl) (.cons (.pure _ rfl) (.cons (.pure _ rfl) (.cons (.pure _ rfl) (.cons (.row hm b7 (cF.frzL cN P)) .nil))))))))))))))
theorem bXb {r:bI} (h:Rtk r):Rtk (wFG r [] [] []):=⟨h.pa,h.po,h.se,h.ov,h.op,h.os,by show ([]:List aM).length≤1000;simp,by show ([]:List Int).length≤1000;simp,by show ([]:List cP).length≤1000;simp⟩
theorem bGo (l:aE) (r:bI) (E:List cP):(rfF l r E).1.length≤E.length∧(rfF l r E).2.1.length≤E.length∧(rfF l r E).2.2.length≤E.length:=by
 have key: ∀n (E:List cP),E.length=n→(rfF l r E).1.length≤E.length∧(rfF l r E).2.1.length≤E.length∧(rfF l r E).2.2.length≤E.length:=by
  intro n
  induction n with
  |zero=>intro E h;rw[cEm.1 h];simp[rfF]
  |succ n ih=>
   intro E h;obtain ⟨Q,e,rfl⟩: ∃Q p,E=Q++[p]:=⟨E.dropLast,E.getLast (by intro e;rw[e] at h;cases h),(List.dropLast_concat_getLast _).symm⟩;have h1:=ih Q (by simpa using h);rw[bCj,cAb,bZp];generalize rfF l r Q=st at h1 ⊢;unfold rfA;refine ⟨?_,?_,?_⟩
   ·simp only;split
    ·have:(tX st.1 (jR l r st e).1).length≤st.1.length+1:=by
      unfold tX;split
      ·omega
      simp only[cAb,cCw,cEk,bZp];omega
     omega
    omega
   ·simp only;split
    ·have h2:=aIg st.2.1;have h3:=aEf (y7 st.2.1) (jR l r st e).2.1;show (jJ (y7 st.2.1) (jR l r st e).2.1).length≤_;omega
    omega
   simp only;split
   ·rw[cAb,bZp];omega
   omega
 exact key _ E rfl
theorem aLq {l:aE} {r:bI} {E:List cP} {i:Nat} (hi:i<E.length) {st:FS} (h:st=rfF l r (E.take i)) {F:List aM} {P:List cP} {G:List Int} (hP:P=if (jR l r st (E.getD i default)).2.2=false then st.2.2++[E.getD i default] else st.2.2) (hF:F=if (jR l r st (E.getD i default)).1.fPos≠0 then tX st.1 (jR l r st (E.getD i default)).1 else st.1)
  (hG:G=if 0≤(jR l r st (E.getD i default)).2.1 then [(jR l r st (E.getD i default)).2.1].foldl jJ (y7 st.2.1) else st.2.1):(F,G,P)=rfF l r (E.take (i+1)):=by
 rw[d9 default hi,bCj,← h];unfold rfA;rw[hP,hF,hG]
section
attribute [local go_sem] or_self cAr cBv cKz
set_option maxRecDepth 20000 in
theorem aFd (O:aV) (l:aE) (r:bI) (hv:Vld l) (hr:Rtk r):bB Tryz.prog O 54 [.agg (aQ l),.agg (bR r)] (.agg (bR (wFG r (rfF l r (cI l (r.fPath++r.fOver))).1 (rfF l r (cI l (r.fPath++r.fOver))).2.1 (rfF l r (cI l (r.fPath++r.fOver))).2.2))):=by
 have hl:=hv.few;have hr1:=hr.pa;have hr4:=hr.ov;have hbw:(cI l (r.fPath++r.fOver)).length≤800:=by have:=aBh l (r.fPath++r.fOver);rw[cAb] at this;omega
 refine i7 Tryz.func54 rfl aZ fun w0 I0 A0=>?_;have hF:=wM w0 I0 (dZ A0) (GOf []);refine bD fun _ Z0=>bH hF ?_;refine aU [0,1] aZ ?_;((try simp only[go_sem,seval,bXu,bXt,bXp,bXs,bXv,bXw,bXx,bXz,bYa,bXy]);try simp (disch:=omega) only[go_sem,seval,bXu,bXt,bXp,bXs,bXv,bXw,bXx,bXz,bYa,bXy])
 repeat refine bZh bM ?_
 refine Z0 _ _ (bD fun _ Z1=>bH hF ?_);refine aU [2,3,4] aZ ?_;((try simp only[go_sem,seval,bXu,bXt,bXp,bXs,bXv,bXw,bXx,bXz,bYa,bXy]);try simp (disch:=omega) only[go_sem,seval,bXu,bXt,bXp,bXs,bXv,bXw,bXx,bXz,bYa,bXy])
 repeat refine bZh bM ?_
 refine Z1 _ _ (bD fun _ Z2=>bH hF ?_);refine aU [2,3,4] aZ ?_;((try simp only[go_sem,seval,bXu,bXt,bXp,bXs,bXv,bXw,bXx,bXz,bYa,bXy]);try simp (disch:=omega) only[go_sem,seval,bXu,bXt,bXp,bXs,bXv,bXw,bXx,bXz,bYa,bXy])
 repeat refine bZh bM ?_
 refine Z2 _ _ (bD fun _ Z3=>bH hF ?_);refine aU [2,3,4] aZ ?_;((try simp only[go_sem,seval,bXu,bXt,bXp,bXs,bXv,bXw,bXx,bXz,bYa,bXy]);try simp (disch:=omega) only[go_sem,seval,bXu,bXt,bXp,bXs,bXv,bXw,bXx,bXz,bYa,bXy])
 repeat refine bZh bM ?_
 refine Z3 _ _ (bD fun _ Z4=>?_);refine qE 3 (ds:=rfX r [] [] iY 0) rfl (by first|rfl|(((try simp only[go_sem,seval,bXu,bXt,bXp,bXs,bXv,bXw,bXx,bXz,bYa,bXy]);try simp (disch:=omega) only[go_sem,seval,bXu,bXt,bXp,bXs,bXv,bXw,bXx,bXz,bYa,bXy]);done)|(((try simp only[go_sem,seval,bXu,bXt,bXp,bXs,bXv,bXw,bXx,bXz,bYa,bXy]);try simp (disch:=omega) only[go_sem,seval,bXu,bXt,bXp,bXs,bXv,bXw,bXx,bXz,bYa,bXy]);rfl)) (bRx r) ?_;refine bH hF ?_;refine aU [2,3,4] aZ ?_;((try simp only[go_sem,seval,bXu,bXt,bXp,bXs,bXv,bXw,bXx,bXz,bYa,bXy]);try simp (disch:=omega) only[go_sem,seval,bXu,bXt,bXp,bXs,bXv,bXw,bXx,bXz,bYa,bXy])
 repeat refine bZh bM ?_
 refine eF _ (oY [.agg (aQ l),.agg (bR (wFG r [] [] []))] (.cons (cF.refl _) (.cons (cF.aggL (bLa r)) .nil)) (aCj _ l (wFG r [] [] []) hl (bXb hr))) ?_
 try ((try simp only[go_sem,seval,bXu,bXt,bXp,bXs,bXv,bXw,bXx,bXz,bYa,bXy]);try simp (disch:=omega) only[go_sem,seval,bXu,bXt,bXp,bXs,bXv,bXw,bXx,bXz,bYa,bXy])
 repeat refine bZh bM ?_
 refine Z4 _ _ (bD fun _ Z5=>bD fun _ Z6=>bH hF ?_);refine aU [2,3,4,5] aZ ?_;((try simp only[go_sem,seval,bXu,bXt,bXp,bXs,bXv,bXw,bXx,bXz,bYa,bXy]);try simp (disch:=omega) only[go_sem,seval,bXu,bXt,bXp,bXs,bXv,bXw,bXx,bXz,bYa,bXy])
 repeat refine bZh bM ?_
 refine Z6 _ _ (dL (kM [] [] 152 2 rfl ?_));refine gU [4,2,5,6,3] (fun n sF ρ=> ∃i,∃aP,∃st,n=(cI l (r.fPath++r.fOver)).length-i∧sF=[rgE aP st.2.2]∧(i≤(cI l (r.fPath++r.fOver)).length)∧(st=rfF l r ((cI l (r.fPath++r.fOver)).take i))∧ρ=cO O [(4,.bx [vs ⟨#[]⟩,vi 0,vi 0,.v (.slice none 0 0),.v (.slice none 0 0),.v (.slice none 0 0),vi 0,vi 0,.v (.slice none 0 0),.v (.slice none 0 0),.v (.slice none 0 0),.v (.slice none 0 0),.v (.slice none 0 0),.v (.slice none 0 0)]),(2,.bx (aQ l)),(5,lF (cI l (r.fPath++r.fOver))),(6,vi (i:Nat)),(3,.bx (rfX r st.1 st.2.1 aP st.2.2.length))]) _ ⟨0,iY,([],[],[]),rfl,rfl,?_,?_,?_⟩ ?_
 ·exact bE
 ·rfl
 ·((try simp only[go_sem,seval,bXu,bXt,bXp,bXs,bXv,bXw,bXx,bXz,bYa,bXy]);try simp (disch:=omega) only[go_sem,seval,bXu,bXt,bXp,bXs,bXv,bXw,bXx,bXz,bYa,bXy])<;>first|rfl|omega|simp|simp_all
 rintro n sF ρ ⟨i,aP,st,rfl,rfl,l0_0,l0_1,rfl⟩ _ Z7;have hrl:=bGo l r ((cI l (r.fPath++r.fOver)).take i);have htl:=cBr i (cI l (r.fPath++r.fOver));rw[← l0_1] at hrl;refine bD fun _ Z8=>bD fun _ Z9=>bH hF ?_;refine aU [2,3,4,5,6] aZ ?_;((try simp only[go_sem,seval,bXu,bXt,bXp,bXs,bXv,bXw,bXx,bXz,bYa,bXy]);try simp (disch:=omega) only[go_sem,seval,bXu,bXt,bXp,bXs,bXv,bXw,bXx,bXz,bYa,bXy])
 repeat refine bZh bM ?_
 refine Z9 _ _ (fK (fun c0=>?_) fun c0=>?_)
 ·refine dN (Z8 _ _ (bD fun _ Z10=>dL (bD fun _ Z11=>cQ (Le.keepC [2,3,4,5,6] _) ?_)));refine oH [4,2,3,5,6,23,24,25,26,27,28,29,22,30,31,32,8,9,7] [[],[],[],[],[2,3],[2,3,4],[0,1,2,3,4,5],[0,1,2,3,4,5,6],[0,1,2,3,4,5,6,7],[0,1,2,3,4,5,6,7],[0,1,2,3,4,5,6,7],[],[0,1,2,3,4,5,6,7,8,11],[0,1,2,3,4,5,6,7,8,9,11,12],[0,1,2,3,4,5,6,7,8,9,10,11,12,13]] [[12],[12],[12],[12],[12],[12],[12],[12],[12],[],[],[12],[],[],[]] (fun (_:_root_.Unit) bQ=>cO O [(4,.bx [vs ⟨#[]⟩,vi 0,vi 0,.v (.slice none 0 0),.v (.slice none 0 0),.v (.slice none 0 0),vi 0,vi 0,.v (.slice none 0 0),.v (.slice none 0 0),.v (.slice none 0 0),.v (.slice none 0 0),.v (.slice none 0 0),.v (.slice none 0 0)]),(2,.bx (aQ l)),(3,.bx (rfX r st.1 st.2.1 aP st.2.2.length)),(5,lF (cI l (r.fPath++r.fOver))),(6,vi (i:Nat)),(23,aX (bQ 0) (.agg (aQ l))),(24,aX (bQ 1) (.agg (rfX r st.1 st.2.1 aP st.2.2.length))),(25,aX (bQ 2) (lF (cI l (r.fPath++r.fOver)))),(26,aX (bQ 3) (vi (i:Nat))),(27,aX (bQ 4) (.dp (cN ((cI l (r.fPath++r.fOver)).getD i default)))),(28,aX (bQ 5) (.agg (cN ((cI l (r.fPath++r.fOver)).getD i default)))),(29,aX (bQ 6) (.tup [.agg (bJ (jR l r st ((cI l (r.fPath++r.fOver)).getD i default)).1),vi (jR l r st ((cI l (r.fPath++r.fOver)).getD i default)).2.1,vb (jR l r st ((cI l (r.fPath++r.fOver)).getD i default)).2.2])),(22,aX (bQ 7) (.tup [.agg (bJ (jR l r st ((cI l (r.fPath++r.fOver)).getD i default)).1),vi (jR l r st ((cI l (r.fPath++r.fOver)).getD i default)).2.1,vb (jR l r st ((cI l (r.fPath++r.fOver)).getD i default)).2.2])),(30,aX (bQ 8) (.agg (bJ (jR l r st ((cI l (r.fPath++r.fOver)).getD i default)).1))),(31,aX (bQ 9) (vi (jR l r st ((cI l (r.fPath++r.fOver)).getD i default)).2.1)),(32,aX (bQ 10) (vb (jR l r st ((cI l (r.fPath++r.fOver)).getD i default)).2.2)),(8,aX (bQ 13) (vi (jR l r st ((cI l (r.fPath++r.fOver)).getD i default)).2.1)),(9,aX (bQ 14) (vb (jR l r st ((cI l (r.fPath++r.fOver)).getD i default)).2.2)),(7,jB (bQ 12) (bQ 11) (.bx (bJ (jR l r st ((cI l (r.fPath++r.fOver)).getD i default)).1)) (.bx [vi 0,vi 0]))]) (fun (_:_root_.Unit) bQ=>[rgE aP st.2.2]) () hF eG aZ ?_ ?_ (fun iQ oQ hoQ gg bQ hbQ KQ hKQ=>?_) (fun gg=>?_)
  ·first|rfl|(((try simp only[go_sem,seval,bXu,bXt,bXp,bXs,bXv,bXw,bXx,bXz,bYa,bXy]);try simp (disch:=omega) only[go_sem,seval,bXu,bXt,bXp,bXs,bXv,bXw,bXx,bXz,bYa,bXy]);done)|(((try simp only[go_sem,seval,bXu,bXt,bXp,bXs,bXv,bXw,bXx,bXz,bYa,bXy]);try simp (disch:=omega) only[go_sem,seval,bXu,bXt,bXp,bXs,bXv,bXw,bXx,bXz,bYa,bXy])<;>rfl)
  ·((try simp only[go_sem,seval,bXu,bXt,bXp,bXs,bXv,bXw,bXx,bXz,bYa,bXy]);try simp (disch:=omega) only[go_sem,seval,bXu,bXt,bXp,bXs,bXv,bXw,bXx,bXz,bYa,bXy])<;>first|rfl|simp
  ·have hiQ:iQ<15:=(cBz.1 hoQ).1
   match iQ,hiQ with
   |0,_|1,_|2,_|3,_|4,_|5,_|7,_|8,_|9,_|10,_|11,_|12,_|13,_|14,_=>
    obtain rfl:=bZr hoQ;simp only[mK,fL,fM,cBe,cFm,cBm,bZk,cFt] at hbQ;show iU _ _ _ _ _ _ _ _;refine cH hF ?_;refine cC rfl aZ aZ ?_;((try simp only[go_sem,seval,bXu,bXt,bXp,bXs,bXv,bXw,bXx,bXz,bYa,bXy,hbQ]);try simp (disch:=omega) only[go_sem,seval,bXu,bXt,bXp,bXs,bXv,bXw,bXx,bXz,bYa,bXy,hbQ])
    repeat refine bZh bM ?_
    refine hKQ () _ _ ?_ ?_
    ·first|rfl|(((try simp only[go_sem,seval,bXu,bXt,bXp,bXs,bXv,bXw,bXx,bXz,bYa,bXy,hbQ]);try simp (disch:=omega) only[go_sem,seval,bXu,bXt,bXp,bXs,bXv,bXw,bXx,bXz,bYa,bXy,hbQ]);done)|(((try simp only[go_sem,seval,bXu,bXt,bXp,bXs,bXv,bXw,bXx,bXz,bYa,bXy,hbQ]);try simp (disch:=omega) only[go_sem,seval,bXu,bXt,bXp,bXs,bXv,bXw,bXx,bXz,bYa,bXy,hbQ])<;>rfl)
    ((try simp only[go_sem,seval,bXu,bXt,bXp,bXs,bXv,bXw,bXx,bXz,bYa,bXy,hbQ]);try simp (disch:=omega) only[go_sem,seval,bXu,bXt,bXp,bXs,bXv,bXw,bXx,bXz,bYa,bXy,hbQ])<;>first|rfl|simp
   |6,_=>
    obtain rfl:=bZr hoQ;simp only[mK,fL,fM,cBe,cFm,cBm,bZk,cFt] at hbQ;show iU _ _ _ _ _ _ _ _;refine aUv (al:=[.agg (aQ l),.agg (bR (wFG r st.1 st.2.1 st.2.2)),.agg (cN ((cI l (r.fPath++r.fOver)).getD i default))]) rfl rfl rfl gS aZ (by ((try simp only[go_sem,seval,bXu,bXt,bXp,bXs,bXv,bXw,bXx,bXz,bYa,bXy,hbQ]);try simp (disch:=omega) only[go_sem,seval,bXu,bXt,bXp,bXs,bXv,bXw,bXx,bXz,bYa,bXy,hbQ])) (by ((try simp only[go_sem,seval,bXu,bXt,bXp,bXs,bXv,bXw,bXx,bXz,bYa,bXy,hbQ]);try simp (disch:=omega) only[go_sem,seval,bXu,bXt,bXp,bXs,bXv,bXw,bXx,bXz,bYa,bXy,hbQ])) (by ((try simp only[go_sem,seval,bXu,bXt,bXp,bXs,bXv,bXw,bXx,bXz,bYa,bXy,hbQ]);try simp (disch:=omega) only[go_sem,seval,bXu,bXt,bXp,bXs,bXv,bXw,bXx,bXz,bYa,bXy,hbQ])<;>rfl) aZ (.cons (.pure _ rfl) (.cons (bNf r st.1 st.2.1 b7) (.cons (.pure _ rfl) .nil))) (show bB Tryz.prog _ 107 _ (.tup [.agg (bJ (jR l r st ((cI l (r.fPath++r.fOver)).getD i default)).1),vi (jR l r st ((cI l (r.fPath++r.fOver)).getD i default)).2.1,vb (jR l r st ((cI l (r.fPath++r.fOver)).getD i default)).2.2]) from zX _ l (wFG r st.1 st.2.1 st.2.2) ((cI l (r.fPath++r.fOver)).getD i default) hv) rfl (bTw _ _ _) ?_
    try ((try simp only[go_sem,seval,bXu,bXt,bXp,bXs,bXv,bXw,bXx,bXz,bYa,bXy,hbQ]);try simp (disch:=omega) only[go_sem,seval,bXu,bXt,bXp,bXs,bXv,bXw,bXx,bXz,bYa,bXy,hbQ])
    refine hKQ () _ _ ?_ ?_
    ·first|rfl|(((try simp only[go_sem,seval,bXu,bXt,bXp,bXs,bXv,bXw,bXx,bXz,bYa,bXy,hbQ]);try simp (disch:=omega) only[go_sem,seval,bXu,bXt,bXp,bXs,bXv,bXw,bXx,bXz,bYa,bXy,hbQ]);done)|(((try simp only[go_sem,seval,bXu,bXt,bXp,bXs,bXv,bXw,bXx,bXz,bYa,bXy,hbQ]);try simp (disch:=omega) only[go_sem,seval,bXu,bXt,bXp,bXs,bXv,bXw,bXx,bXz,bYa,bXy,hbQ])<;>rfl)
    ((try simp only[go_sem,seval,bXu,bXt,bXp,bXs,bXv,bXw,bXx,bXz,bYa,bXy,hbQ]);try simp (disch:=omega) only[go_sem,seval,bXu,bXt,bXp,bXs,bXv,bXw,bXx,bXz,bYa,bXy,hbQ])<;>first|rfl|simp
  ((try simp only[go_sem,seval,bXu,bXt,bXp,bXs,bXv,bXw,bXx,bXz,bYa,bXy]);try simp (disch:=omega) only[go_sem,seval,bXu,bXt,bXp,bXs,bXv,bXw,bXx,bXz,bYa,bXy])
  repeat refine bZh bM ?_
  refine Z11 _ _ (aLu [4,2,5,6,3,7,8] (fun sF ρ=> ∃h4,∃P1,sF=[rgE h4 P1]∧(P1=if (jR l r st ((cI l (r.fPath++r.fOver)).getD i default)).2.2=false then st.2.2++[((cI l (r.fPath++r.fOver)).getD i default)] else st.2.2)∧ρ=cO O [(4,.bx [vs ⟨#[]⟩,vi 0,vi 0,.v (.slice none 0 0),.v (.slice none 0 0),.v (.slice none 0 0),vi 0,vi 0,.v (.slice none 0 0),.v (.slice none 0 0),.v (.slice none 0 0),.v (.slice none 0 0),.v (.slice none 0 0),.v (.slice none 0 0)]),(2,.bx (aQ l)),(5,lF (cI l (r.fPath++r.fOver))),(6,vi (i:Nat)),(3,.bx (rfX r st.1 st.2.1 h4 P1.length)),(7,.bx (bJ (jR l r st ((cI l (r.fPath++r.fOver)).getD i default)).1)),(8,vi (jR l r st ((cI l (r.fPath++r.fOver)).getD i default)).2.1)]) (fun _ Z12=>?_) ?_)
  ·skip
   refine bD fun _ Z13=>bH hF ?_;refine aU [2,3,4,5,6,7,8,9] aZ ?_;((try simp only[go_sem,seval,bXu,bXt,bXp,bXs,bXv,bXw,bXx,bXz,bYa,bXy]);try simp (disch:=omega) only[go_sem,seval,bXu,bXt,bXp,bXs,bXv,bXw,bXx,bXz,bYa,bXy])
   repeat refine bZh bM ?_
   refine Z13 _ _ (fK (fun c1=>?_) fun c1=>?_)
   ·refine cQ (Le.keepC [2,3,4,5,6,7,8] _) ?_;refine oH [4,2,5,6,7,8,35,37,38,39,40,41,42,43,3,36] [[],[0],[],[],[2,3],[2,3,4],[2,3,4,5],[0,1,2,3,4,5,6],[0,1,2,3,4,5,6,7],[0,1,2,3,4,5,6,7,8]] [[1,7,9],[7,9],[7,9],[7,9],[7,9],[7,9],[7,9],[9],[9],[]] (fun (hx:Hd) bQ=>cO O [(4,.bx [vs ⟨#[]⟩,vi 0,vi 0,.v (.slice none 0 0),.v (.slice none 0 0),.v (.slice none 0 0),vi 0,vi 0,.v (.slice none 0 0),.v (.slice none 0 0),.v (.slice none 0 0),.v (.slice none 0 0),.v (.slice none 0 0),.v (.slice none 0 0)]),(2,.bx (aQ l)),(5,lF (cI l (r.fPath++r.fOver))),(6,vi (i:Nat)),(7,.bx (bJ (jR l r st ((cI l (r.fPath++r.fOver)).getD i default)).1)),(8,vi (jR l r st ((cI l (r.fPath++r.fOver)).getD i default)).2.1),(35,aX (bQ 0) (.bp 3 13)),(37,aX (bQ 2) (lF (cI l (r.fPath++r.fOver)))),(38,aX (bQ 3) (vi (i:Nat))),(39,aX (bQ 4) (.dp (cN ((cI l (r.fPath++r.fOver)).getD i default)))),(40,aX (bQ 5) (.agg (cN ((cI l (r.fPath++r.fOver)).getD i default)))),(41,aX (bQ 6) (.sl 2 1 (fun i_=>[cN ((cI l (r.fPath++r.fOver)).getD i default)].getD i_ []))),(42,aX (bQ 7) (hx.sl (st.2.2++[((cI l (r.fPath++r.fOver)).getD i default)]).length)),(43,aX (bQ 8) (.bp 3 13)),(3,jB (bQ 9) true (.bx (rfX r st.1 st.2.1 hx (st.2.2++[((cI l (r.fPath++r.fOver)).getD i default)]).length)) (.bx (rfX r st.1 st.2.1 aP st.2.2.length))),(36,(cond (bQ 7) (.any) (cond (bQ 1) (aP.sl st.2.2.length) (.any))))]) (fun (hx:Hd) bQ=>(cond (bQ 7) [rgE hx (st.2.2++[((cI l (r.fPath++r.fOver)).getD i default)])] [rgE aP st.2.2])) ⟨none,none,0⟩ hF eG aZ ?_ ?_ (fun iQ oQ hoQ hx bQ hbQ KQ hKQ=>?_) (fun hx=>?_)
    ·first|rfl|(((try simp only[go_sem,seval,bXu,bXt,bXp,bXs,bXv,bXw,bXx,bXz,bYa,bXy]);try simp (disch:=omega) only[go_sem,seval,bXu,bXt,bXp,bXs,bXv,bXw,bXx,bXz,bYa,bXy]);done)|(((try simp only[go_sem,seval,bXu,bXt,bXp,bXs,bXv,bXw,bXx,bXz,bYa,bXy]);try simp (disch:=omega) only[go_sem,seval,bXu,bXt,bXp,bXs,bXv,bXw,bXx,bXz,bYa,bXy])<;>rfl)
    ·((try simp only[go_sem,seval,bXu,bXt,bXp,bXs,bXv,bXw,bXx,bXz,bYa,bXy]);try simp (disch:=omega) only[go_sem,seval,bXu,bXt,bXp,bXs,bXv,bXw,bXx,bXz,bYa,bXy])<;>first|rfl|simp
    ·have hiQ:iQ<10:=(cBz.1 hoQ).1
     match iQ,hiQ with
     |0,_|1,_|2,_|3,_|4,_|5,_|6,_|8,_|9,_=>
      obtain rfl:=bZr hoQ;simp only[mK,fL,fM,cBe,cFm,cBm,bZk,cFt] at hbQ;show iU _ _ _ _ _ _ _ _;refine cH hF ?_;refine cC rfl aZ aZ ?_;((try simp only[go_sem,seval,bXu,bXt,bXp,bXs,bXv,bXw,bXx,bXz,bYa,bXy,hbQ]);try simp (disch:=omega) only[go_sem,seval,bXu,bXt,bXp,bXs,bXv,bXw,bXx,bXz,bYa,bXy,hbQ])
      repeat refine bZh bM ?_
      refine hKQ hx _ _ ?_ ?_
      ·first|rfl|(((try simp only[go_sem,seval,bXu,bXt,bXp,bXs,bXv,bXw,bXx,bXz,bYa,bXy,hbQ]);try simp (disch:=omega) only[go_sem,seval,bXu,bXt,bXp,bXs,bXv,bXw,bXx,bXz,bYa,bXy,hbQ]);done)|(((try simp only[go_sem,seval,bXu,bXt,bXp,bXs,bXv,bXw,bXx,bXz,bYa,bXy,hbQ]);try simp (disch:=omega) only[go_sem,seval,bXu,bXt,bXp,bXs,bXv,bXw,bXx,bXz,bYa,bXy,hbQ])<;>rfl)
      ((try simp only[go_sem,seval,bXu,bXt,bXp,bXs,bXv,bXw,bXx,bXz,bYa,bXy,hbQ]);try simp (disch:=omega) only[go_sem,seval,bXu,bXt,bXp,bXs,bXv,bXw,bXx,bXz,bYa,bXy,hbQ])<;>first|rfl|simp
     |7,_=>
      obtain rfl:=bZr hoQ;simp only[mK,fL,fM,cBe,cFm,cBm,bZk,cFt] at hbQ;rw[hbQ.1];simp only[cDq];show iU _ _ _ _ _ _ _ _;refine gT (s1:=[]) (s2:=[]) 36 gS (by ((try simp only[go_sem,seval,bXu,bXt,bXp,bXs,bXv,bXw,bXx,bXz,bYa,bXy,hbQ]);try simp (disch:=omega) only[go_sem,seval,bXu,bXt,bXp,bXs,bXv,bXw,bXx,bXz,bYa,bXy,hbQ])<;>rfl) rfl ?_;refine lK [] [] 152 2 ((st.2.2++[((cI l (r.fPath++r.fOver)).getD i default)]).map cN) 42 gS ?_;show iU _ _ _ _ _ _ _ _;refine cH hF ?_;refine cC rfl aZ aZ ?_;((try simp only[go_sem,seval,bXu,bXt,bXp,bXs,bXv,bXw,bXx,bXz,bYa,bXy,hbQ]);try simp (disch:=omega) only[go_sem,seval,bXu,bXt,bXp,bXs,bXv,bXw,bXx,bXz,bYa,bXy,hbQ])
      repeat refine bZh bM ?_
      refine ⟨rfl,by ((try simp only[go_sem,seval,bXu,bXt,bXp,bXs,bXv,bXw,bXx,bXz,bYa,bXy,hbQ]);try simp (disch:=omega) only[go_sem,seval,bXu,bXt,bXp,bXs,bXv,bXw,bXx,bXz,bYa,bXy,hbQ])<;>(first|rfl|(simp;done)|(simp;rfl)),fun hx=>?_⟩
      try ((try simp only[go_sem,seval,bXu,bXt,bXp,bXs,bXv,bXw,bXx,bXz,bYa,bXy,hbQ]);try simp (disch:=omega) only[go_sem,seval,bXu,bXt,bXp,bXs,bXv,bXw,bXx,bXz,bYa,bXy,hbQ])
      refine hKQ hx _ _ ?_ ?_
      ·first|rfl|(((try simp only[go_sem,seval,bXu,bXt,bXp,bXs,bXv,bXw,bXx,bXz,bYa,bXy,hbQ]);try simp (disch:=omega) only[go_sem,seval,bXu,bXt,bXp,bXs,bXv,bXw,bXx,bXz,bYa,bXy,hbQ]);done)|(((try simp only[go_sem,seval,bXu,bXt,bXp,bXs,bXv,bXw,bXx,bXz,bYa,bXy,hbQ]);try simp (disch:=omega) only[go_sem,seval,bXu,bXt,bXp,bXs,bXv,bXw,bXx,bXz,bYa,bXy,hbQ])<;>rfl)
      ((try simp only[go_sem,seval,bXu,bXt,bXp,bXs,bXv,bXw,bXx,bXz,bYa,bXy,hbQ]);try simp (disch:=omega) only[go_sem,seval,bXu,bXt,bXp,bXs,bXv,bXw,bXx,bXz,bYa,bXy,hbQ])<;>first|rfl|simp
    ((try simp only[go_sem,seval,bXu,bXt,bXp,bXs,bXv,bXw,bXx,bXz,bYa,bXy]);try simp (disch:=omega) only[go_sem,seval,bXu,bXt,bXp,bXs,bXv,bXw,bXx,bXz,bYa,bXy])
    repeat refine bZh bM ?_
    refine Z12 _ _ ⟨hx,st.2.2++[((cI l (r.fPath++r.fOver)).getD i default)],rfl,?_,?_⟩
    ·rw[if_pos (by simpa using c1)]
    ((try simp only[go_sem,seval,bXu,bXt,bXp,bXs,bXv,bXw,bXx,bXz,bYa,bXy]);try simp (disch:=omega) only[go_sem,seval,bXu,bXt,bXp,bXs,bXv,bXw,bXx,bXz,bYa,bXy])<;>first|rfl|omega|simp|simp_all
   refine dN (Z12 _ _ ⟨aP,st.2.2,rfl,?_,?_⟩)
   ·rw[if_neg (by simpa using c1)]
   ((try simp only[go_sem,seval,bXu,bXt,bXp,bXs,bXv,bXw,bXx,bXz,bYa,bXy]);try simp (disch:=omega) only[go_sem,seval,bXu,bXt,bXp,bXs,bXv,bXw,bXx,bXz,bYa,bXy])<;>first|rfl|omega|simp|simp_all
  rintro sF ρ ⟨h4,P1,rfl,j11_0,rfl⟩;refine aLu [4,2,5,6,3,8] (fun sF ρ=> ∃F1,sF=[rgE h4 P1]∧(F1=if (jR l r st ((cI l (r.fPath++r.fOver)).getD i default)).1.fPos≠0 then tX st.1 (jR l r st ((cI l (r.fPath++r.fOver)).getD i default)).1 else st.1)∧ρ=cO O [(4,.bx [vs ⟨#[]⟩,vi 0,vi 0,.v (.slice none 0 0),.v (.slice none 0 0),.v (.slice none 0 0),vi 0,vi 0,.v (.slice none 0 0),.v (.slice none 0 0),.v (.slice none 0 0),.v (.slice none 0 0),.v (.slice none 0 0),.v (.slice none 0 0)]),(2,.bx (aQ l)),(5,lF (cI l (r.fPath++r.fOver))),(6,vi (i:Nat)),(3,.bx (rfX r F1 st.2.1 h4 P1.length)),(8,vi (jR l r st ((cI l (r.fPath++r.fOver)).getD i default)).2.1)]) (fun _ Z14=>?_) ?_
  ·skip
   refine bD fun _ Z15=>bH hF ?_;refine aU [2,3,4,5,6,7,8] aZ ?_;((try simp only[go_sem,seval,bXu,bXt,bXp,bXs,bXv,bXw,bXx,bXz,bYa,bXy]);try simp (disch:=omega) only[go_sem,seval,bXu,bXt,bXp,bXs,bXv,bXw,bXx,bXz,bYa,bXy])
   repeat refine bZh bM ?_
   refine Z15 _ _ (fK (fun c2=>?_) fun c2=>?_)
   ·refine bH hF ?_;refine aU [2,3,4,5,6,7,8] aZ ?_;((try simp only[go_sem,seval,bXu,bXt,bXp,bXs,bXv,bXw,bXx,bXz,bYa,bXy]);try simp (disch:=omega) only[go_sem,seval,bXu,bXt,bXp,bXs,bXv,bXw,bXx,bXz,bYa,bXy])
    repeat refine bZh bM ?_
    refine eF _ (aJe _ st.1 (jR l r st ((cI l (r.fPath++r.fOver)).getD i default)).1 aN) ?_
    try ((try simp only[go_sem,seval,bXu,bXt,bXp,bXs,bXv,bXw,bXx,bXz,bYa,bXy]);try simp (disch:=omega) only[go_sem,seval,bXu,bXt,bXp,bXs,bXv,bXw,bXx,bXz,bYa,bXy])
    repeat refine bZh bM ?_
    refine Z14 _ _ ⟨tX st.1 (jR l r st ((cI l (r.fPath++r.fOver)).getD i default)).1,rfl,?_,?_⟩
    ·rw[if_pos (by simpa using c2)]
    ((try simp only[go_sem,seval,bXu,bXt,bXp,bXs,bXv,bXw,bXx,bXz,bYa,bXy]);try simp (disch:=omega) only[go_sem,seval,bXu,bXt,bXp,bXs,bXv,bXw,bXx,bXz,bYa,bXy])<;>first|rfl|omega|simp|simp_all
   refine dN (Z14 _ _ ⟨st.1,rfl,?_,?_⟩)
   ·rw[if_neg (by simpa using c2)]
   ((try simp only[go_sem,seval,bXu,bXt,bXp,bXs,bXv,bXw,bXx,bXz,bYa,bXy]);try simp (disch:=omega) only[go_sem,seval,bXu,bXt,bXp,bXs,bXv,bXw,bXx,bXz,bYa,bXy])<;>first|rfl|omega|simp|simp_all
  rintro sF ρ ⟨F1,rfl,j13_0,rfl⟩;refine bD fun _ Z16=>bH hF ?_;refine aU [2,3,4,5,6,8] aZ ?_;((try simp only[go_sem,seval,bXu,bXt,bXp,bXs,bXv,bXw,bXx,bXz,bYa,bXy]);try simp (disch:=omega) only[go_sem,seval,bXu,bXt,bXp,bXs,bXv,bXw,bXx,bXz,bYa,bXy])
  repeat refine bZh bM ?_
  refine Z16 _ _ (fK (fun c3=>?_) fun c3=>?_)
  ·refine bH hF ?_;refine aU [2,3,4,5,6,8] aZ ?_;((try simp only[go_sem,seval,bXu,bXt,bXp,bXs,bXv,bXw,bXx,bXz,bYa,bXy]);try simp (disch:=omega) only[go_sem,seval,bXu,bXt,bXp,bXs,bXv,bXw,bXx,bXz,bYa,bXy])
   repeat refine bZh bM ?_
   refine eF _ (oY [bT st.2.1,bT [(jR l r st ((cI l (r.fPath++r.fOver)).getD i default)).2.1]] (.cons (cF.refl _) (.cons (cF.litL [(jR l r st ((cI l (r.fPath++r.fOver)).getD i default)).2.1] rfl rfl) .nil)) (aBc _ st.2.1 [(jR l r st ((cI l (r.fPath++r.fOver)).getD i default)).2.1] aN b7)) ?_
   try ((try simp only[go_sem,seval,bXu,bXt,bXp,bXs,bXv,bXw,bXx,bXz,bYa,bXy]);try simp (disch:=omega) only[go_sem,seval,bXu,bXt,bXp,bXs,bXv,bXw,bXx,bXz,bYa,bXy])
   repeat refine bZh bM ?_
   refine Z10 _ _ (bH hF ?_);refine aU [2,3,4,5,6] aZ ?_;((try simp only[go_sem,seval,bXu,bXt,bXp,bXs,bXv,bXw,bXx,bXz,bYa,bXy]);try simp (disch:=omega) only[go_sem,seval,bXu,bXt,bXp,bXs,bXv,bXw,bXx,bXz,bYa,bXy])
   repeat refine bZh bM ?_
   refine Z7 _ _ _ bE ⟨i+1,h4,(F1,[(jR l r st ((cI l (r.fPath++r.fOver)).getD i default)).2.1].foldl jJ (y7 st.2.1),P1),rfl,rfl,bE,?_,?_⟩
   ·exact aLq c0 l0_1 j11_0 j13_0 (by rw[if_pos (by simpa using c3)])
   ((try simp only[go_sem,seval,bXu,bXt,bXp,bXs,bXv,bXw,bXx,bXz,bYa,bXy]);try simp (disch:=omega) only[go_sem,seval,bXu,bXt,bXp,bXs,bXv,bXw,bXx,bXz,bYa,bXy])<;>first|rfl|omega|simp|simp_all
  refine dN (Z10 _ _ (bH hF ?_));refine aU [2,3,4,5,6] aZ ?_;((try simp only[go_sem,seval,bXu,bXt,bXp,bXs,bXv,bXw,bXx,bXz,bYa,bXy]);try simp (disch:=omega) only[go_sem,seval,bXu,bXt,bXp,bXs,bXv,bXw,bXx,bXz,bYa,bXy])
  repeat refine bZh bM ?_
  refine Z7 _ _ _ bE ⟨i+1,h4,(F1,st.2.1,P1),rfl,rfl,bE,?_,?_⟩
  ·exact aLq c0 l0_1 j11_0 j13_0 (by rw[if_neg (by simpa using c3)])
  ((try simp only[go_sem,seval,bXu,bXt,bXp,bXs,bXv,bXw,bXx,bXz,bYa,bXy]);try simp (disch:=omega) only[go_sem,seval,bXu,bXt,bXp,bXs,bXv,bXw,bXx,bXz,bYa,bXy])<;>first|rfl|omega|simp|simp_all
 refine gB (Z5 _ _ (bD fun _ Z17=>?_));obtain rfl:i=(cI l (r.fPath++r.fOver)).length:=aN;rw[cBn] at l0_1;refine fE (s1:=[]) (s2:=[]) 3 13 (by first|rfl|(((try simp only[go_sem,seval,bXu,bXt,bXp,bXs,bXv,bXw,bXx,bXz,bYa,bXy,bXu,bXt,bXp,bXs,bXv,bXw,bXx,bXz,bYa,bXy,lM]);try simp (disch:=omega) only[go_sem,seval,bXu,bXt,bXp,bXs,bXv,bXw,bXx,bXz,bYa,bXy,bXu,bXt,bXp,bXs,bXv,bXw,bXx,bXz,bYa,bXy,lM]);done)|(((try simp only[go_sem,seval,bXu,bXt,bXp,bXs,bXv,bXw,bXx,bXz,bYa,bXy,bXu,bXt,bXp,bXs,bXv,bXw,bXx,bXz,bYa,bXy,lM]);try simp (disch:=omega) only[go_sem,seval,bXu,bXt,bXp,bXs,bXv,bXw,bXx,bXz,bYa,bXy,bXu,bXt,bXp,bXs,bXv,bXw,bXx,bXz,bYa,bXy,lM]);rfl)) (by first|rfl|(rw[cAr];rfl)) rfl (cF.frzL cN st.2.2) rfl ?_;rw[lM];refine bH hF ?_;refine aU [3,4] aZ ?_;((try simp only[go_sem,seval,bXu,bXt,bXp,bXs,bXv,bXw,bXx,bXz,bYa,bXy]);try simp (disch:=omega) only[go_sem,seval,bXu,bXt,bXp,bXs,bXv,bXw,bXx,bXz,bYa,bXy])
 repeat refine bZh bM ?_
 refine Z17 _ _ (lH ?_)
 (try simp only[oD,lV]);rw[← l0_1];refine lZ 4 121 rfl (by ((try simp only[go_sem,seval,bXu,bXt,bXp,bXs,bXv,bXw,bXx,bXz,bYa,bXy,bXu,bXt,bXp,bXs,bXv,bXw,bXx,bXz,bYa,bXy,lM]);try simp (disch:=omega) only[go_sem,seval,bXu,bXt,bXp,bXs,bXv,bXw,bXx,bXz,bYa,bXy,bXu,bXt,bXp,bXs,bXv,bXw,bXx,bXz,bYa,bXy,lM])) (by ((try simp only[go_sem,seval,bXu,bXt,bXp,bXs,bXv,bXw,bXx,bXz,bYa,bXy,bXu,bXt,bXp,bXs,bXv,bXw,bXx,bXz,bYa,bXy,lM]);try simp (disch:=omega) only[go_sem,seval,bXu,bXt,bXp,bXs,bXv,bXw,bXx,bXz,bYa,bXy,bXu,bXt,bXp,bXs,bXv,bXw,bXx,bXz,bYa,bXy,lM])<;>rfl) aZ (by rfl)
end
abbrev rgR (h:Hd) (R:List bI):Rg:=.row h 121 14 (R.map bR)
def tbX (l:aE) (a b c:DV):List DV:=[a,b,c,vi (l.fSections.length:Nat),vi (l.fSignals.length:Nat)]
section
variable (l:aE) (a b c d:DV) (h:Hd) (n:Nat)
theorem cIg:(tbX l a b c).length=5:=rfl
theorem cIb:(tbX l a b c).take 5=tbX l a b c:=rfl
theorem cJz:(tbX l a b c).getD 0 .any=a:=rfl
theorem cLj:(tbX l a b c).getD 1 .any=b:=rfl
theorem cLi:(tbX l a b c).getD 2 .any=c:=rfl
theorem bBv:(tbX l a b c).set 0 d=tbX l d b c:=rfl
theorem cKt:(tbX l a b c).set 1 d=tbX l a d c:=rfl
theorem aXo:(tbX l a b c).set 2 d=tbX l a b d:=rfl
end
theorem cJo {l:aE} {a b c:DV} (ha:wT (fun x=>x+100000) a=a) (hb:wT (fun x=>x+100000) b=b) (hc:wT (fun x=>x+100000) c=c):nM (fun x=>x+100000) (tbX l a b c)=tbX l a b c:=by
 unfold tbX;simp only[nM,ha,hb,hc];rfl
theorem bGv {l:aE} {a b c:DV} (p:Nat→Bool):eQ p (tbX l a b c)=(dI p a&&(dI p b&&dI p c)):=by
 unfold tbX;simp[eQ,dI]
theorem bGn (l:aE):(hX l).length≤l.fElements.length:=aKw l _
section
attribute [local go_sem] or_self cBv cAr cIg cIb cJz cLj cLi bBv cKt aXo cJo bGv
set_option maxRecDepth 20000 in
theorem aCo (O:aV) (l:aE) (hl:hM l):bB Tryz.prog O 18 [.agg (aQ l)] (.tup [.agg (bW (tbT l)),vi (fG l (eZ gP l)).2]):=by
 have hl4:=hl.sg;have hl5:=hl.el;have hl6:=hl.sec;have hal:=bFk l;have hpt:=bGn l;refine i7 Tryz.func18 rfl aZ fun w0 I0 A0=>?_;have hF:=wM w0 I0 (dZ A0) (GOf []);refine eU hF [0] ?_;refine bD fun _ Z1=>aPy hF [1,2] ?_;refine fF (aHs _ l (eZ gP l) hl (fun hc O i hi=>aFh O l i hi hl (rE hc).2.1 (bQp hc)) (bCw l)) ?_;refine Z1 _ _ (bD fun _ Z2=>eU hF [1,2,4,5,11,13] ?_);refine fK (fun c0=>?_) fun c0=>?_
 ·have her: ¬(fG l (eZ gP l)).2=0:=(by simpa using c0);refine eU hF [2,5] ?_;refine qE 2 (ds:=bW ⟨[],[],[],0,0⟩) rfl (by first|rfl|(((try simp only[go_sem,seval]);try simp (disch:=omega) only[go_sem,seval]);done)|(((try simp only[go_sem,seval]);try simp (disch:=omega) only[go_sem,seval]);rfl)) (.cons (cF.nilL _) (.cons (cF.nilL _) (.cons (cF.nilL _) (.cons (cF.refl _) (.cons (cF.refl _) .nil))))) ?_;refine lH ?_
  (try simp only[oD,lV]);rw[bVj her];refine oU rfl (by ((try simp only[go_sem,seval]);try simp (disch:=omega) only[go_sem,seval])) (.cons (roC (by ((try simp only[go_sem,seval]);try simp (disch:=omega) only[go_sem,seval])<;>rfl) (by ((try simp only[go_sem,seval]);try simp (disch:=omega) only[go_sem,seval])<;>rfl) aZ (by first|rfl|(((try simp only[go_sem,seval]);try simp (disch:=omega) only[go_sem,seval])))) (.cons (kD (by ((try simp only[go_sem,seval]);try simp (disch:=omega) only[go_sem,seval])<;>rfl) rfl rfl) .nil))
 have her:(fG l (eZ gP l)).2=0:=(by simpa using c0);have hck:=bHt her;have hes:=(rE hck).2.1;obtain ⟨hv,hJ⟩:=bJj hl hck;refine dN (Z2 _ _ (bD fun _ Z5=>bH hF ?_));refine sZ 11 [1,2,4,11,13] [1,2,4,20,21,22,23,24,25,26,27,28,6] [] [] [[],[0],[],[2],[2,3],[],[5],[5,6],[0,1,2,3,4,5,6,7],[],[0,1,2,3,4,5,6,7,8,9]] [[10],[10],[10],[10],[10],[10],[10],[10],[10],[10],[]] (fun bQ=>cO O [(1,.bx (aQ l)),(2,.bx [.v (.slice none 0 0),.v (.slice none 0 0),.v (.slice none 0 0),vi 0,vi 0]),(4,jL (fG l (eZ gP l)).1),(20,aX (bQ 0) (.agg (aQ l))),(21,aX (bQ 1) (bT (hX l))),(22,aX (bQ 2) (.bp 1 1)),(23,aX (bQ 3) (eV l.fSections)),(24,aX (bQ 4) (vi (l.fSections.length:Nat))),(25,aX (bQ 5) (.bp 1 4)),(26,aX (bQ 6) (mW l.fSignals)),(27,aX (bQ 7) (vi (l.fSignals.length:Nat))),(28,aX (bQ 8) (.agg (tbX l (.v (.slice none 0 0)) (bT (hX l)) (.v (.slice none 0 0))))),(6,jB (bQ 10) (bQ 9) (.bx (tbX l (.v (.slice none 0 0)) (bT (hX l)) (.v (.slice none 0 0)))) (.bx [.v (.slice none 0 0),.v (.slice none 0 0),.v (.slice none 0 0),vi 0,vi 0]))]) (fun iQ hiQ oQ hoQ bQ hbQ KQ hKQ=>?_) ?_
 ·match iQ,hiQ with
  |0,_|2,_|3,_|4,_|5,_|6,_|7,_|8,_|9,_|10,_=>
   exact mkp hoQ hbQ hKQ
  |1,_=>
   exact mkc hoQ hbQ hKQ (zE _ l hl)
 refine stz ?_;refine Z5 _ _ (bD fun _ Z6=>eU hF [1,2,4,6,11,13] ?_);refine dL (kM [] [] 121 14 rfl ?_);refine gU [1,2,6,29,30,31] (fun n sF ρ=> ∃i,∃aR,∃R,n=(fG l (eZ gP l)).1.length-i∧sF=[rgR aR R]∧(i≤(fG l (eZ gP l)).1.length)∧(R=((fG l (eZ gP l)).1.take i).map (bNy l))∧ρ=cO O [(1,.bx (aQ l)),(2,.bx [.v (.slice none 0 0),.v (.slice none 0 0),.v (.slice none 0 0),vi 0,vi 0]),(6,.bx (tbX l (aR.sl R.length) (bT (hX l)) (.v (.slice none 0 0)))),(29,jL (fG l (eZ gP l)).1),(30,vi ((fG l (eZ gP l)).1.length:Nat)),(31,vi (i:Nat))]) _ ⟨0,iY,[],rfl,rfl,?_,?_,?_⟩ ?_
 ·exact bE
 ·rfl
 ·exact b9
 rintro n sF ρ ⟨i,aR,R,rfl,rfl,l0_0,l0_1,rfl⟩ _ Z8;have hRl:R.length≤i:=by rw[l0_1,cAr];exact cBr _ _
 refine eU hF [1,2,4,6,11,13,29,30,31] ?_;refine bD fun _ Z10=>fK (fun c1=>?_) fun c1=>?_
 ·have hok:=bEi (l:=l) (gD c1);have hrk:=hok.rtk;have hrO:=hok.rtkO;have hnd:=hok.nodup;refine dN (Z10 _ _ (bD fun _ Z11=>dL (eU hF [1,2,4,6,11,13,29,30,31] ?_)));refine bDe 11 [1,2,4,6,8,11,13,29,30,31] [1,2,8,29,30,31,35,37,38,39,40,41,42,43,44,6,36] [[],[0],[],[],[],[3,4],[2,3,4,5],[2,3,4,5,6],[0,1,2,3,4,5,6,7],[0,1,2,3,4,5,6,7,8],[0,1,2,3,4,5,6,7,8,9]] [[1,8,10],[8,10],[8,10],[8,10],[8,10],[8,10],[8,10],[8,10],[10],[10],[]] (fun (hx:Hd) bQ=>cO O [(1,.bx (aQ l)),(2,.bx [.v (.slice none 0 0),.v (.slice none 0 0),.v (.slice none 0 0),vi 0,vi 0]),(8,.bx (bR ((fG l (eZ gP l)).1.getD i default))),(29,jL (fG l (eZ gP l)).1),(30,vi ((fG l (eZ gP l)).1.length:Nat)),(31,vi (i:Nat)),(35,aX (bQ 0) (.bp 6 0)),(37,aX (bQ 2) (.agg (aQ l))),(38,aX (bQ 3) (.agg (aQ l))),(39,aX (bQ 4) (.agg (bR ((fG l (eZ gP l)).1.getD i default)))),(40,aX (bQ 5) (.agg (bR (ovF l ((fG l (eZ gP l)).1.getD i default))))),(41,aX (bQ 6) (.agg (bR (aIf l (ovF l ((fG l (eZ gP l)).1.getD i default)))))),(42,aX (bQ 7) (.sl 14 1 (fun i_=>[bR (aIf l (ovF l ((fG l (eZ gP l)).1.getD i default)))].getD i_ []))),(43,aX (bQ 8) (hx.sl (R++[(aIf l (ovF l ((fG l (eZ gP l)).1.getD i default)))]).length)),(44,aX (bQ 9) (.bp 6 0)),(6,jB (bQ 10) true (.bx (tbX l (hx.sl (R++[(aIf l (ovF l ((fG l (eZ gP l)).1.getD i default)))]).length) (bT (hX l)) (.v (.slice none 0 0)))) (.bx (tbX l (aR.sl R.length) (bT (hX l)) (.v (.slice none 0 0))))),(36,(cond (bQ 8) (.any) (cond (bQ 1) (aR.sl R.length) (.any))))]) (fun (hx:Hd) bQ=>(cond (bQ 8) [rgR hx (R++[(aIf l (ovF l ((fG l (eZ gP l)).1.getD i default)))])] [rgR aR R])) ⟨none,none,0⟩ hF (fun iQ hiQ oQ hoQ hx bQ hbQ KQ hKQ=>?_) (fun hx=>?_)
  ·match iQ,hiQ with
   |0,_|1,_|2,_|3,_|4,_|7,_|9,_|10,_=>
    exact mfp hF hoQ hbQ (hKQ hx)
   |5,_=>
    exact mfc hF hoQ hbQ (hKQ hx) (aFe _ l ((fG l (eZ gP l)).1.getD i default) hl hes hrk)
   |6,_=>
    exact mfc hF hoQ hbQ (hKQ hx) ((bHj hv hJ hnd).2▸aFd _ l (ovF l ((fG l (eZ gP l)).1.getD i default)) hv hrO)
   |8,_=>
    obtain rfl:=bZr hoQ;simp only[mK,fL,fM,cBe,cFm,cBm,bZk,cFt] at hbQ;rw[hbQ.1];simp only[cDq];show iU _ _ _ _ _ _ _ _;refine gT (s1:=[]) (s2:=[]) 36 gS (by ((try simp only[go_sem,seval,hbQ]);try simp (disch:=omega) only[go_sem,seval,hbQ])<;>rfl) rfl ?_;refine lK [] [] 121 14 ((R++[(aIf l (ovF l ((fG l (eZ gP l)).1.getD i default)))]).map bR) 43 gS ?_;show iU _ _ _ _ _ _ _ _;refine cH hF ?_;refine cC rfl aZ aZ ?_;((try simp only[go_sem,seval,hbQ]);try simp (disch:=omega) only[go_sem,seval,hbQ])
    repeat refine bZh bM ?_
    refine ⟨rfl,by ((try simp only[go_sem,seval,hbQ]);try simp (disch:=omega) only[go_sem,seval,hbQ])<;>(first|rfl|(simp;done)|(simp;rfl)),fun hx=>?_⟩
    try ((try simp only[go_sem,seval,hbQ]);try simp (disch:=omega) only[go_sem,seval,hbQ])
    refine hKQ hx _ _ ?_ ?_
    ·first|rfl|(((try simp only[go_sem,seval,hbQ]);try simp (disch:=omega) only[go_sem,seval,hbQ]);done)|(((try simp only[go_sem,seval,hbQ]);try simp (disch:=omega) only[go_sem,seval,hbQ])<;>rfl)
    ((try simp only[go_sem,seval,hbQ]);try simp (disch:=omega) only[go_sem,seval,hbQ])<;>first|rfl|simp
  refine stz ?_;refine Z11 _ _ (pG hF [1,2,4,6,11,13,29,30,31] ?_);refine Z8 _ _ _ bE ⟨i+1,hx,R++[(aIf l (ovF l ((fG l (eZ gP l)).1.getD i default)))],rfl,rfl,bE,?_,b9⟩
  ·rw[l0_1,d9 default c1,cAl];rfl
 refine gB (Z6 _ _ (bD fun _ Z13=>bD fun _ Z14=>?_));obtain rfl:i=(fG l (eZ gP l)).1.length:=aN;rw[cBn] at l0_1;refine pG hF [1,2,6] ?_;refine Z14 _ _ (dL (kM [rgR aR R] [] 3 1 rfl ?_));refine gU [1,2,6,47,48,49] (fun n sF ρ=> ∃j,∃aH,∃B,n=(hX l).length-j∧sF=[rgR aR R,rgN aH B]∧(j≤(hX l).length)∧(B=((hX l).take j).map (cJ l))∧ρ=cO O [(1,.bx (aQ l)),(2,.bx [.v (.slice none 0 0),.v (.slice none 0 0),.v (.slice none 0 0),vi 0,vi 0]),(6,.bx (tbX l (aR.sl R.length) (bT (hX l)) (aH.sl B.length))),(47,bT (hX l)),(48,vi ((hX l).length:Nat)),(49,vi (j:Nat))]) _ ⟨0,iY,[],rfl,rfl,?_,?_,?_⟩ ?_
 ·exact bE
 ·rfl
 ·exact b9
 rintro n sF ρ ⟨j,aH,B,rfl,rfl,l1_0,l1_1,rfl⟩ _ Z15;have hBl:B.length≤j:=by rw[l1_1,cAr];exact cBr _ _
 refine eU hF [1,2,6,46,47,48,49] ?_;refine bD fun _ Z17=>fK (fun c2=>?_) fun c2=>?_
 ·refine dN (Z17 _ _ (bD fun _ Z18=>dL (eU hF [1,2,6,46,47,48,49] ?_)));refine bDe 9 [1,2,6,10,46,47,48,49] [1,2,10,47,48,49,53,55,56,57,58,59,60,6,54] [[],[0],[],[],[2,3],[2,3,4],[0,1,2,3,4,5],[0,1,2,3,4,5,6],[0,1,2,3,4,5,6,7]] [[1,6,8],[6,8],[6,8],[6,8],[6,8],[6,8],[8],[8],[]] (fun (hx:Hd) bQ=>cO O [(1,.bx (aQ l)),(2,.bx [.v (.slice none 0 0),.v (.slice none 0 0),.v (.slice none 0 0),vi 0,vi 0]),(10,vi ((hX l).getD j default)),(47,bT (hX l)),(48,vi ((hX l).length:Nat)),(49,vi (j:Nat)),(53,aX (bQ 0) (.bp 6 2)),(55,aX (bQ 2) (.agg (aQ l))),(56,aX (bQ 3) (vi ((hX l).getD j default))),(57,aX (bQ 4) (vi (cJ l ((hX l).getD j default)))),(58,aX (bQ 5) (.sl 1 1 (fun i_=>[[vi (cJ l ((hX l).getD j default))]].getD i_ []))),(59,aX (bQ 6) (hx.sl (B++[cJ l ((hX l).getD j default)]).length)),(60,aX (bQ 7) (.bp 6 2)),(6,jB (bQ 8) true (.bx (tbX l (aR.sl R.length) (bT (hX l)) (hx.sl (B++[cJ l ((hX l).getD j default)]).length))) (.bx (tbX l (aR.sl R.length) (bT (hX l)) (aH.sl B.length)))),(54,(cond (bQ 6) (.any) (cond (bQ 1) (aH.sl B.length) (.any))))]) (fun (hx:Hd) bQ=>(cond (bQ 6) [rgR aR R,rgN hx (B++[cJ l ((hX l).getD j default)])] [rgR aR R,rgN aH B])) ⟨none,none,0⟩ hF (fun iQ hiQ oQ hoQ hx bQ hbQ KQ hKQ=>?_) (fun hx=>?_)
  ·match iQ,hiQ with
   |0,_|1,_|2,_|3,_|5,_|7,_|8,_=>
    exact mfp hF hoQ hbQ (hKQ hx)
   |4,_=>
    exact mfc hF hoQ hbQ (hKQ hx) (eT _ l ((hX l).getD j default))
   |6,_=>
    obtain rfl:=bZr hoQ;simp only[mK,fL,fM,cBe,cFm,cBm,bZk,cFt] at hbQ;rw[hbQ.1];simp only[cDq];show iU _ _ _ _ _ _ _ _;refine gT (s1:=[rgR aR R]) (s2:=[]) 54 gS (by ((try simp only[go_sem,seval,hbQ]);try simp (disch:=omega) only[go_sem,seval,hbQ])<;>rfl) rfl ?_;refine lK [rgR aR R] [] 3 1 ((B++[cJ l ((hX l).getD j default)]).map eI) 59 gS ?_;show iU _ _ _ _ _ _ _ _;refine cH hF ?_;refine cC rfl aZ aZ ?_;((try simp only[go_sem,seval,hbQ]);try simp (disch:=omega) only[go_sem,seval,hbQ])
    repeat refine bZh bM ?_
    refine ⟨rfl,by ((try simp only[go_sem,seval,hbQ]);try simp (disch:=omega) only[go_sem,seval,hbQ])<;>(first|rfl|(simp;done)|(simp;rfl)),fun hx=>?_⟩
    try ((try simp only[go_sem,seval,hbQ]);try simp (disch:=omega) only[go_sem,seval,hbQ])
    refine hKQ hx _ _ ?_ ?_
    ·first|rfl|(((try simp only[go_sem,seval,hbQ]);try simp (disch:=omega) only[go_sem,seval,hbQ]);done)|(((try simp only[go_sem,seval,hbQ]);try simp (disch:=omega) only[go_sem,seval,hbQ])<;>rfl)
    ((try simp only[go_sem,seval,hbQ]);try simp (disch:=omega) only[go_sem,seval,hbQ])<;>first|rfl|simp
  refine stz ?_;refine Z18 _ _ (pG hF [1,2,6,46,47,48,49] ?_);refine Z15 _ _ _ bE ⟨j+1,hx,B++[cJ l ((hX l).getD j default)],rfl,rfl,bE,?_,b9⟩
  ·rw[l1_1,d9 default c2,cAl];rfl
 refine gB (Z13 _ _ (bD fun _ Z20=>?_));obtain rfl:j=(hX l).length:=aN;rw[cBn] at l1_1;refine fE (s1:=[]) (s2:=[rgN aH B]) 6 0 (by first|rfl|(((try simp only[go_sem,seval]);try simp (disch:=omega) only[go_sem,seval]);done)|(((try simp only[go_sem,seval]);try simp (disch:=omega) only[go_sem,seval]);rfl)) (by first|rfl|(((try simp only[go_sem,seval]);try simp (disch:=omega) only[go_sem,seval]);done)|(((try simp only[go_sem,seval]);try simp (disch:=omega) only[go_sem,seval]);rfl)) rfl (cF.frzL bR (R)) rfl ?_;rw[bBv];refine fE (s1:=[]) (s2:=[]) 6 2 (by first|rfl|(((try simp only[go_sem,seval]);try simp (disch:=omega) only[go_sem,seval]);done)|(((try simp only[go_sem,seval]);try simp (disch:=omega) only[go_sem,seval]);rfl)) (by first|rfl|(((try simp only[go_sem,seval]);try simp (disch:=omega) only[go_sem,seval]);done)|(((try simp only[go_sem,seval]);try simp (disch:=omega) only[go_sem,seval]);rfl)) rfl (cF.frzL eI (B)) rfl ?_;rw[aXo];have htT:=bVf her;rw[← l0_1,← l1_1] at htT;refine pG hF [2,6] ?_;refine Z20 _ _ (lH ?_)
 (try simp only[oD,lV]);rw[htT,her];refine oU rfl (by ((try simp only[go_sem,seval]);try simp (disch:=omega) only[go_sem,seval])) (.cons (roC (by ((try simp only[go_sem,seval]);try simp (disch:=omega) only[go_sem,seval])<;>rfl) (by ((try simp only[go_sem,seval]);try simp (disch:=omega) only[go_sem,seval])<;>rfl) aZ (by first|rfl|(((try simp only[go_sem,seval]);try simp (disch:=omega) only[go_sem,seval])))) (.cons (kD (by ((try simp only[go_sem,seval]);try simp (disch:=omega) only[go_sem,seval])<;>rfl) rfl rfl) .nil))
end
abbrev unA (w:bS) (i:Nat):eX:=w.fUnits.getD i default
def unQ (w:bS) (i:Nat):Bool:=(((decide (0<i)&&decide (uId w i≤uId w (i-1)))||decide (¬aUx (unA w i).fCab.fTrain=0))||decide (¬bAb w.fLayout (unA w i).fBody=0))||decide (¬(unA w i).fBody.fLength=(unA w i).fCab.fTrain.fLength)
def bGy (w:bS):Bool:=(List.range w.fUnits.length).all (fun i=> !unQ w i)&&(decide (1≤w.fUnits.length)&&decide (w.fUnits.length≤6))
def aDp (w:bS):Int:=
 if ¬gV w.fLayout=0 then gV w.fLayout
 else if (decide (¬(fG w.fLayout (eZ gP w.fLayout)).2=0)|| !aAh (tbT w.fLayout) w.fTable)=true then 10
 else if (!aVp w.fTable w.fInter|| !bFp w)=true then 11
 else if (!bGy w|| !aNo w)=true then 1
 else if ¬qU w.fTable w.fTrips=0 then qU w.fTable w.fTrips
 else if (!bJh w)=true then 1 else 0
theorem bPk {w:bS} (h:aDp w=0):gV w.fLayout=0:=by
 unfold aDp at h;split at h
 ·exact absurd h ‹_›
 rename_i h1;exact cBo.1 h1
theorem xH.ft {w:bS} (h:xH w):aUl w.fTable w.fInter:=⟨h.rt,h.pt,h.rs,h.ir,h.il⟩
theorem nmU {w:bS} (hk:oN w) {i:Nat} (hi:i<w.fUnits.length):(unA w i).fCab.fTrain.fName.size≤140737488355328:=by
 obtain ⟨_,_,_,_,_,⟨h1,_⟩,_⟩:=hk;have h2:aIa (w.fUnits.getD i default):=h1 _ (by rw[cFk,cEn hi];exact cDh _);obtain ⟨_,_,_,_,h3,_⟩:=h2;exact h3.2.1
theorem aDv (O:aV) (w:bS) (hk:oN w) (hf:xH w) (hes:kQ w.fLayout=true):bB Tryz.prog O 22 [.agg (dM w)] (vb (bGy w)):=by
 obtain ⟨f1,f2,f3,f4,f5,f6,f7,f8,f9,f10,f11,f12,f13,f14,f15,f16,f17,f18,f19⟩:=id hf;refine dD Tryz.func22 ?_;refine aB [0] ?_;refine aA fun _ Z1=>aB [1] ?_;refine aD (aT [1,3] (fun n ρ=> ∃i,n=w.fUnits.length-i∧(i≤w.fUnits.length)∧(gK (fun i=> !unQ w i) i)∧ρ=cO O [(1,.bx (dM w)),(3,vi (i:Nat))]) _ ⟨0,rfl,?_,?_,?_⟩ ?_)
 ·exact bE
 ·exact eD _
 ·exact b9
 rintro n ρ ⟨i,rfl,l0_0,l0_1,rfl⟩ _ Z3;have hcast:((i:Int)-1).toNat=i-1:=by omega
 refine aA fun _ Z4=>aA fun _ Z5=>aU [1,3] aZ ?_;simp (config := { maxSteps := 2000000 }) (disch:=omega) only[go_sem,seval,hcast]
 repeat refine bZh bM ?_
 refine Z5 _ (aL (fun c0=>?_) fun c0=>?_)
 ·refine aC (Z4 _ (aA fun _ Z6=>aD (aA fun _ Z7=>aU [1,3] aZ ?_)));simp (config := { maxSteps := 2000000 }) (disch:=omega) only[go_sem,seval,hcast]
  repeat refine bZh bM ?_
  refine Z7 _ (aA fun _ Z8=>aU [1,3,4] aZ ?_);simp (config := { maxSteps := 2000000 }) (disch:=omega) only[go_sem,seval,hcast]
  repeat refine bZh bM ?_
  refine Z8 _ (aA fun _ Z9=>eC [1,3,4,5] [] eG aZ ?_);simp (config := { maxSteps := 2000000 }) (disch:=omega) only[go_sem,seval,hcast]
  repeat refine bZh bM ?_
  refine jC (fun g0=>aBq _ (w.fUnits.getD i default).fCab.fTrain (nmU hk c0)) ?_ ?_ ?_
  ·first|exact fun _=>trivial|simp
  ·rfl
  try simp (config := { maxSteps := 2000000 }) (disch:=omega) only[go_sem,seval,hcast]
  repeat refine bZh bM ?_
  refine jC (fun g1=>aBm _ w.fLayout (w.fUnits.getD i default).fBody f19 hes (f15 i c0)) ?_ ?_ ?_
  ·first|exact fun _=>trivial|simp
  ·rfl
  try simp (config := { maxSteps := 2000000 }) (disch:=omega) only[go_sem,seval,hcast]
  repeat refine bZh bM ?_
  refine Z9 _ (aL (fun c1=>?_) fun c1=>?_)
  ·refine aA fun _ Z10=>aU [] aZ ?_;simp (config := { maxSteps := 2000000 }) (disch:=omega) only[go_sem,seval,hcast]
   repeat refine bZh bM ?_
   refine Z10 _ (aG (d5 2 rfl (by simp (config := { maxSteps := 2000000 }) (disch:=omega) only[go_sem,seval,hcast]) ?_));exact cG.is (by simp (config := { maxSteps := 2000000 }) (disch:=omega) only[go_sem,seval,hcast]<;>refine congrArg vb ?_<;>(rw[bGy,kK c0 (show (!unQ w i)=false by unfold unQ unA uId;rw[cAs];simpa using c1),cBl])) rfl rfl
  refine aC (Z6 _ (aU [1,3] aZ ?_));simp (config := { maxSteps := 2000000 }) (disch:=omega) only[go_sem,seval,hcast]
  repeat refine bZh bM ?_
  refine Z3 _ _ bE ⟨i+1,rfl,bE,?_,?_⟩
  ·exact eA l0_1 (show (!unQ w i)=true by unfold unQ unA uId;rw[cAz];simp only[cCb,cDz,cFu,cBo];omega)
  simp (config := { maxSteps := 2000000 }) (disch:=omega) only[go_sem,seval,hcast]<;>first|rfl|omega|simp|simp_all
 refine aY (Z1 _ (aA fun _ Z11=>aU [1] aZ ?_));simp (config := { maxSteps := 2000000 }) (disch:=omega) only[go_sem,seval,hcast]
 repeat refine bZh bM ?_
 refine Z11 _ (aG (d5 2 rfl (by simp (config := { maxSteps := 2000000 }) (disch:=omega) only[go_sem,seval,hcast]) ?_));exact cG.is (by simp (config := { maxSteps := 2000000 }) (disch:=omega) only[go_sem,seval,hcast]<;>refine congrArg vb ?_<;>(rw[bGy,jT l0_1 aN];rfl)) rfl rfl
theorem aBb (O:aV) (w:bS) (hk:oN w) (hf:xH w):bB Tryz.prog O 5 [.agg (dM w)] (vi (aDp w)):=by
 obtain ⟨f1,f2,f3,f4,f5,f6,f7,f8,f9,f10,f11,f12,f13,f14,f15,f16,f17,f18,f19⟩:=id hf;refine dD Tryz.func5 ?_;refine aB [0] ?_;refine aA fun _ Z1=>aA fun _ Z2=>bL [1] ?_;refine fF (qW _ w.fLayout f19) ?_;refine Z2 _ (aB [1,3] ?_);refine aL (fun c0=>?_) fun c0=>?_
 ·refine aB [3] ?_;refine aG (bU 2 ?_);exact cG.is (by simp (config := { maxSteps := 2000000 }) (disch:=omega) only[go_sem,seval]<;>(rw[aDp,if_pos c0])) rfl rfl
 refine aC (Z1 _ (aA fun _ Z5=>?_));have hz:gV w.fLayout=0:=by omega
 have hes:=(rE hz).2.1;refine bL [1] ?_;refine fF (aCo _ w.fLayout f19) ?_;refine Z5 _ (aA fun _ Z6=>aA fun _ Z7=>bL [1,4,5] ?_);refine i0 (fun g0=>aFg _ (tbT w.fLayout) w.fTable) ?_;refine Z7 _ (aL (fun c1=>?_) fun c1=>?_)
 ·refine aB [] ?_;refine aG (bU 2 ?_);exact cG.is (by simp (config := { maxSteps := 2000000 }) (disch:=omega) only[go_sem,seval]<;>(rw[aDp,if_neg aN,if_pos (by simpa using c1)])) rfl rfl
 refine aC (Z6 _ (aA fun _ Z9=>aA fun _ Z10=>bL [1] ?_));refine fF (aDw _ w.fTable w.fInter hf.ft) ?_;refine i0 (fun g1=>uZ _ w hf) ?_;refine Z10 _ (aL (fun c2=>?_) fun c2=>?_)
 ·refine aB [] ?_;refine aG (bU 2 ?_);exact cG.is (by simp (config := { maxSteps := 2000000 }) (disch:=omega) only[go_sem,seval]<;>(rw[aDp,if_neg aN,if_neg (by simpa using c1),if_pos (by simpa using c2)])) rfl rfl
 refine aC (Z9 _ (aA fun _ Z12=>aA fun _ Z13=>bL [1] ?_));refine fF (aDv _ w hk hf hes) ?_;refine i0 (fun g2=>zH _ w hf) ?_;refine Z13 _ (aL (fun c3=>?_) fun c3=>?_)
 ·refine aB [] ?_;refine aG (bU 2 ?_);exact cG.is (by simp (config := { maxSteps := 2000000 }) (disch:=omega) only[go_sem,seval]<;>(rw[aDp,if_neg aN,if_neg (by simpa using c1),if_neg (by simpa using c2),if_pos (by simpa using c3)])) rfl rfl
 refine aC (Z12 _ (aA fun _ Z15=>aA fun _ Z16=>bL [1] ?_));refine fF (aDy _ w.fTable w.fTrips) ?_;refine Z16 _ (aB [1,6] ?_);refine aL (fun c4=>?_) fun c4=>?_
 ·refine aB [6] ?_;refine aG (bU 2 ?_);exact cG.is (by simp (config := { maxSteps := 2000000 }) (disch:=omega) only[go_sem,seval]<;>(rw[aDp,if_neg aN,if_neg (by simpa using c1),if_neg (by simpa using c2),if_neg (by simpa using c3),if_pos c4])) rfl rfl
 refine aC (Z15 _ (aA fun _ Z19=>aA fun _ Z20=>bL [1] ?_));refine fF (wU _ w hf) ?_;refine Z20 _ (aL (fun c5=>?_) fun c5=>?_)
 ·refine aB [] ?_;refine aG (bU 2 ?_);exact cG.is (by simp (config := { maxSteps := 2000000 }) (disch:=omega) only[go_sem,seval]<;>(rw[aDp,if_neg aN,if_neg (by simpa using c1),if_neg (by simpa using c2),if_neg (by simpa using c3),if_neg aN,if_pos (by simpa using c5)])) rfl rfl
 refine aC (Z19 _ (aB [] ?_));refine aG (bU 2 ?_);exact cG.is (by simp (config := { maxSteps := 2000000 }) (disch:=omega) only[go_sem,seval]<;>(rw[aDp,if_neg aN,if_neg (by simpa using c1),if_neg (by simpa using c2),if_neg (by simpa using c3),if_neg aN,if_neg (by simpa using c5)])) rfl rfl
abbrev cL (l:List Bool):DV:=encL 1 eB l
def zA (x:Int) (u:eX):Bool:=decide (u.fCab.fTrain.fId=x)
def bId (w:bS) (x:Int):Int:=if w.fUnits.any (zA x) then (w.fUnits.findIdx (zA x):Nat) else -1
def lQ (l:List e5):List Int:=l.map fun m=>m.fPos
theorem bJv {l:List e5} {i:Nat} (h:i<l.length):lQ (l.take (i+1))=lQ (l.take i)++[(l.getD i default).fPos]:=by
 rw[d9 default h];unfold lQ;rw[cAl];rfl
theorem aSb (l:List e5) (i:Nat):(lQ (l.take i)).length≤i:=by unfold lQ;rw[cAr,cCw];omega
theorem jF (O:aV) (a b:List Bool):bB Tryz.prog O 34 [cL a,cL b] (vb (a==b)):=by
 refine aW 0 rfl (.sl _ _ _) fun ha=>?_;refine aW 1 rfl (.sl _ _ _) fun hb=>?_;refine dD Tryz.func34 ?_;refine aB [0,1] ?_;refine aA fun _ Z1=>aB [0,1] ?_;refine aL (fun c0=>?_) fun c0=>?_
 ·refine aB [] ?_;refine aG (bU 4 (xb ?_))
  (symm;rw[cCr];intro h;exact c0 (by rw[h]))
 refine aC (Z1 _ (aA fun _ Z4=>aB [0,1] ?_));refine aD (aT [0,1,5] (fun n ρ=> ∃i,n=a.length-i∧(i≤a.length)∧((a==b)=(a.drop i==b.drop i))∧ρ=cO O [(0,cL a),(1,cL b),(5,vi (i:Nat))]) _ ⟨0,rfl,?_,?_,?_⟩ ?_)
 ·exact bE
 ·rfl
 ·exact b9
 rintro n ρ ⟨i,rfl,l0_0,l0_1,rfl⟩ _ Z6;refine aA fun _ Z7=>aB [0,1,5] ?_;refine aL (fun c1=>?_) fun c1=>?_
 ·refine aC (Z7 _ (aA fun _ Z9=>aD (aA fun _ Z10=>dE [0,1,5] [] ?_)));refine Z10 _ (aL (fun c2=>?_) fun c2=>?_)
  ·refine aB [] ?_;refine aG (bU 4 (xb ?_))
   (rw[l0_1,bK default c1,bK default (show i<b.length by omega)];symm;rw[cCr];intro h;injection h with h h4;exact c2 (by first|exact h|simp[h]))
  refine aC (Z9 _ (bA [0,1,5] ?_));refine Z6 _ _ bE ⟨i+1,rfl,bE,?_,b9⟩
  ·rw[l0_1,bK default c1,bK default (show i<b.length by omega),c2];simp
 refine aY (Z4 _ (aB [] ?_));refine aG (bU 4 (xb ?_))
 (rw[l0_1,cT c1,cT aN];rfl)
theorem nH (O:aV) (a b:List Int):bB Tryz.prog O 35 [bT a,bT b] (vb (a==b)):=by
 refine aW 0 rfl (.sl _ _ _) fun ha=>?_;refine aW 1 rfl (.sl _ _ _) fun hb=>?_;refine dD Tryz.func35 ?_;refine aB [0,1] ?_;refine aA fun _ Z1=>aB [0,1] ?_;refine aL (fun c0=>?_) fun c0=>?_
 ·refine aB [] ?_;refine aG (bU 4 (xb ?_))
  (symm;rw[cCr];intro h;exact c0 (by rw[h]))
 refine aC (Z1 _ (aA fun _ Z4=>aB [0,1] ?_));refine aD (aT [0,1,5] (fun n ρ=> ∃i,n=a.length-i∧(i≤a.length)∧((a==b)=(a.drop i==b.drop i))∧ρ=cO O [(0,bT a),(1,bT b),(5,vi (i:Nat))]) _ ⟨0,rfl,?_,?_,?_⟩ ?_)
 ·exact bE
 ·rfl
 ·exact b9
 rintro n ρ ⟨i,rfl,l0_0,l0_1,rfl⟩ _ Z6;refine aA fun _ Z7=>aB [0,1,5] ?_;refine aL (fun c1=>?_) fun c1=>?_
 ·refine aC (Z7 _ (aA fun _ Z9=>aD (aA fun _ Z10=>dE [0,1,5] [] ?_)));refine Z10 _ (aL (fun c2=>?_) fun c2=>?_)
  ·refine aB [] ?_;refine aG (bU 4 (xb ?_))
   (rw[l0_1,bK default c1,bK default (show i<b.length by omega)];symm;rw[cCr];intro h;injection h with h h4;exact c2 (by first|exact h|simp[h]))
  refine aC (Z9 _ (bA [0,1,5] ?_));refine Z6 _ _ bE ⟨i+1,rfl,bE,?_,b9⟩
  ·rw[l0_1,bK default c1,bK default (show i<b.length by omega),c2];simp
 refine aY (Z4 _ (aB [] ?_));refine aG (bU 4 (xb ?_))
 (rw[l0_1,cT c1,cT aN];rfl)
theorem aFf (O:aV) (w:bS) (x:Int) (hf:xH w):bB Tryz.prog O 10 [.agg (dM w),vi x] (vi (bId w x)):=by
 have hun:=hf.un;refine dD Tryz.func10 ?_;refine aB [0,1] ?_;refine aA fun _ Z1=>aB [1,2] ?_;refine aD (aT [1,2,5] (fun n ρ=> ∃i,n=w.fUnits.length-i∧(i≤w.fUnits.length)∧((if w.fUnits.any (zA x) then (w.fUnits.findIdx (zA x):Int) else -1)=(if (w.fUnits.drop i).any (zA x) then (((w.fUnits.drop i).findIdx (zA x)+i:Nat):Int) else -1))∧ρ=cO O [(1,vi x),(2,.bx (dM w)),(5,vi (i:Nat))]) _ ⟨0,rfl,?_,?_,?_⟩ ?_)
 ·exact bE
 ·simp
 ·exact b9
 rintro n ρ ⟨i,rfl,l0_0,l0_1,rfl⟩ _ Z3;refine aA fun _ Z4=>aB [1,2,5] ?_;refine aL (fun c0=>?_) fun c0=>?_
 ·refine aC (Z4 _ (aA fun _ Z6=>aD (aB [1,2,5] ?_)));refine aL (fun c1=>?_) fun c1=>?_
  ·refine aB [5] ?_;refine aG (bU 4 ?_);exact cG.is (by simp (config := { maxSteps := 2000000 }) (disch:=omega) only[go_sem,seval]<;>(rw[bId,l0_1,bK default c0,cEc,cEf,show zA x (w.fUnits.getD i default)=true from cFr c1];simp)) rfl rfl
  refine aC (Z6 _ (bA [1,2,5] ?_));refine Z3 _ _ bE ⟨i+1,rfl,bE,?_,b9⟩
  ·rw[l0_1,bK default c0,cEc,cEf,show zA x (w.fUnits.getD i default)=false from cFs c1];simp only[cCl,cDq];rw[show List.findIdx (zA x) (List.drop (i+1) w.fUnits)+1+i=List.findIdx (zA x) (List.drop (i+1) w.fUnits)+(i+1) by omega]
 refine aY (Z1 _ (aB [] ?_));refine aG (bU 4 ?_);exact cG.is (by simp (config := { maxSteps := 2000000 }) (disch:=omega) only[go_sem,seval]<;>(rw[bId,l0_1,cT c0];rfl)) rfl rfl
theorem vG (O:aV) (l:List e5) (hb:l.length≤1000):bB Tryz.prog O 38 [encL 3 fJ l] (bT (lQ l)):=by
 refine dD Tryz.func38 ?_;refine aB [0] ?_;refine aB [0] ?_;refine aA fun _ Z2=>aB [0,3] ?_;refine aD (dF 3 3 1 eI rfl rfl ?_);refine aT [3,6,7,8] (fun n ρ=> ∃i,n=l.length-i∧(i≤l.length)∧ρ=cO O [(3,rowL 3 1 eI (lQ (l.take i))),(6,encL 3 fJ l),(7,vi (l.length:Nat)),(8,vi (i:Nat))]) _ ⟨0,rfl,?_,?_⟩ ?_
 ·exact bE
 ·exact b9
 rintro n ρ ⟨i,rfl,l0_0,rfl⟩ _ Z4;have hdl:=aSb l i;refine aB [0,3,6,7,8] ?_;refine aA fun _ Z6=>aL (fun c0=>?_) fun c0=>?_
 ·refine aC (Z6 _ (aA fun _ Z7=>aD (aB [0,3,6,7,8] ?_)));refine bA [0,3,5,6,7,8] ?_;refine Z7 _ (bA [0,3,6,7,8] ?_);refine Z4 _ _ bE ⟨i+1,rfl,bE,?_⟩;simp (config := { maxSteps := 2000000 }) (disch:=omega) only[go_sem,seval]<;>(rw[bJv c0,cAl];first|rfl|simp)
 refine aY (Z2 _ (aA fun _ Z9=>cB 3 _ rfl rfl ?_));refine bA [3] ?_;refine Z9 _ (aG (bU 2 ?_));exact cG.encL rfl (by rw[cCi aN])
theorem vJ (O:aV) (l:List e5) (hb:l.length≤1000):bB Tryz.prog O 44 [encL 3 fJ l] (bT (lQ l)):=by
 refine dD Tryz.func44 ?_;refine aB [0] ?_;refine aB [0] ?_;refine aA fun _ Z2=>aB [0,3] ?_;refine aD (dF 3 3 1 eI rfl rfl ?_);refine aT [0,3,4] (fun n ρ=> ∃i,n=l.length-i∧(i≤l.length)∧ρ=cO O [(0,encL 3 fJ l),(3,rowL 3 1 eI (lQ (l.take i))),(4,vi (i:Nat))]) _ ⟨0,rfl,?_,?_⟩ ?_
 ·exact bE
 ·exact b9
 rintro n ρ ⟨i,rfl,l0_0,rfl⟩ _ Z4;have hdl:=aSb l i;refine aA fun _ Z5=>aB [0,3,4] ?_;refine aL (fun c0=>?_) fun c0=>?_
 ·refine aC (Z5 _ (aA fun _ Z7=>aD (bA [0,3,4] ?_)));refine Z7 _ (bA [0,3,4] ?_);refine Z4 _ _ bE ⟨i+1,rfl,bE,?_⟩;simp (config := { maxSteps := 2000000 }) (disch:=omega) only[go_sem,seval]<;>(rw[bJv c0,cAl];first|rfl|simp)
 refine aY (Z2 _ (aA fun _ Z8=>cB 3 _ rfl rfl ?_));refine bA [3] ?_;refine Z8 _ (aG (bU 2 ?_));exact cG.encL rfl (by rw[cCi aN])
end Go.Sg
