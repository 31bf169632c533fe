/- Several texts as one. -/
import Derived.Test.YtdgbckchckaagaaGreatDoorP8
set_option linter.unusedSectionVars false
set_option linter.unusedVariables false
set_option linter.unusedSimpArgs false
set_option maxRecDepth 20000
set_option maxHeartbeats 16000000
namespace Go.Sg
open Go.Proofs
section
attribute [local go_sem] kL
theorem zQ (O:aV) (u:eX) (x:Int) (k:Nat) (h:O k=.bx [vi x]):bB Tryz.prog O 33 [.agg (s8 u),.bp k 0] (vb (zA x u)):=by
 refine dD Tryz.func33 ?_;refine aA fun _ Z0=>aU [0,1] aZ ?_;simp (config := { maxSteps := 2000000 }) (disch:=omega) only[go_sem,seval,h]
 repeat refine bZh bM ?_
 refine Z0 _ (aA fun _ Z1=>aU [1,2] aZ ?_);simp (config := { maxSteps := 2000000 }) (disch:=omega) only[go_sem,seval,h]
 repeat refine bZh bM ?_
 refine Z1 _ (aG (d5 3 rfl (by simp (config := { maxSteps := 2000000 }) (disch:=omega) only[go_sem,seval,h]) ?_));exact cG.is (by simp (config := { maxSteps := 2000000 }) (disch:=omega) only[go_sem,seval,h]<;>refine congrArg vb ?_<;>(rfl)) rfl rfl
end
theorem nK (O:aV) (l:List eX) (g s:Nat) (cs:List DV) (p:eX→Bool) (hO:O s=.bx cs) (hcs:nM (· +100000) cs=cs) (hg:aO Tryz.prog g=true) (hk: ∀(ρ:aV) (k:Nat) (x:eX),ρ k=.bx cs→bB Tryz.prog ρ g [.agg (s8 x),.bp k 0] (vb (p x))):bB Tryz.prog O 32 [encL 32 s8 l,.fn g [] [.bp s 0]] (vi (if l.any p then (l.findIdx p:Nat) else -1)):=by
 refine aW 0 rfl (.sl _ _ _) fun hl=>?_;refine dD Tryz.func32 ?_;refine aA fun _ Z0=>aU [0,1] aZ ?_;simp (config := { maxSteps := 2000000 }) (disch:=omega) only[go_sem,seval,hg]
 repeat refine bZh bM ?_
 refine Z0 _ (aA fun _ Z1=>aA fun _ Z2=>aU [0,1] aZ ?_);simp (config := { maxSteps := 2000000 }) (disch:=omega) only[go_sem,seval,hg]
 repeat refine bZh bM ?_
 refine Z2 _ (aD (aT [0,1,7,8] (fun n ρ=> ∃i,n=l.length-i∧(i≤l.length)∧((if l.any p then (l.findIdx p:Int) else -1)=(if (l.drop i).any p then (((l.drop i).findIdx p+i:Nat):Int) else -1))∧ρ=cO O [(0,encL 32 s8 l),(1,.fn g [] [.bp (s+100000) 0]),(7,vi (l.length:Nat)),(8,vi (i:Nat))]) _ ⟨0,rfl,?_,?_,?_⟩ ?_))
 ·exact bE
 ·simp
 ·simp (config := { maxSteps := 2000000 }) (disch:=omega) only[go_sem,seval,hg]<;>first|rfl|omega|simp|simp_all
 rintro n ρ ⟨i,rfl,l0_0,l0_1,rfl⟩ _ Z3;refine aA fun _ Z4=>aU [0,1,7,8] aZ ?_;simp (config := { maxSteps := 2000000 }) (disch:=omega) only[go_sem,seval,hg]
 repeat refine bZh bM ?_
 refine Z4 _ (aA fun _ Z5=>aL (fun c0=>?_) fun c0=>?_)
 ·refine aC (Z5 _ (aA fun _ Z6=>aD (aA fun _ Z7=>aU [0,1,7,8] aZ ?_)));simp (config := { maxSteps := 2000000 }) (disch:=omega) only[go_sem,seval,hg]
  repeat refine bZh bM ?_
  refine Z7 _ (aA fun _ Z8=>aU [0,1,5,7,8] aZ ?_);simp (config := { maxSteps := 2000000 }) (disch:=omega) only[go_sem,seval,hg]
  repeat refine bZh bM ?_
  refine eF _ (hk _ (s+100000) (l.getD i default) ?_) ?_
  ·repeat rw[bC,if_neg aN]
   rw[kL,hO];exact congrArg DV.bx hcs
  try simp (config := { maxSteps := 2000000 }) (disch:=omega) only[go_sem,seval,hg]
  repeat refine bZh bM ?_
  refine Z8 _ (aL (fun c1=>?_) fun c1=>?_)
  ·refine aA fun _ Z9=>aU [5] aZ ?_;simp (config := { maxSteps := 2000000 }) (disch:=omega) only[go_sem,seval,hg]
   repeat refine bZh bM ?_
   refine Z9 _ (aG (d5 4 rfl (by simp (config := { maxSteps := 2000000 }) (disch:=omega) only[go_sem,seval,hg]) ?_));exact cG.is (by simp (config := { maxSteps := 2000000 }) (disch:=omega) only[go_sem,seval,hg]<;>(refine congrArg vi ?_;rw[l0_1,bK default c0,cEc,cEf,c1];simp)) rfl rfl
  refine aC (Z6 _ (aU [0,1,7,8] aZ ?_));simp (config := { maxSteps := 2000000 }) (disch:=omega) only[go_sem,seval,hg]
  repeat refine bZh bM ?_
  refine Z3 _ _ bE ⟨i+1,rfl,bE,?_,?_⟩
  ·rw[l0_1,bK default c0,cEc,cEf,c1];simp only[cCl,cDq];rw[show List.findIdx p (List.drop (i+1) l)+1+i=List.findIdx p (List.drop (i+1) l)+(i+1) by omega]
  simp (config := { maxSteps := 2000000 }) (disch:=omega) only[go_sem,seval,hg]<;>first|rfl|omega|simp|simp_all
 refine aY (Z1 _ (aA fun _ Z10=>aU [] aZ ?_));simp (config := { maxSteps := 2000000 }) (disch:=omega) only[go_sem,seval,hg]
 repeat refine bZh bM ?_
 refine Z10 _ (aG (d5 4 rfl (by simp (config := { maxSteps := 2000000 }) (disch:=omega) only[go_sem,seval,hg]) ?_));exact cG.is (by simp (config := { maxSteps := 2000000 }) (disch:=omega) only[go_sem,seval,hg]<;>(refine congrArg vi ?_;rw[l0_1,cT c0];rfl)) rfl rfl
theorem aEu (O:aV) (w:bS) (x:Int):bB Tryz.prog O 9 [.agg (dM w),vi x] (vi (bId w x)):=by
 refine dD Tryz.func9 ?_;refine aB [0,1] ?_;refine aA fun _ Z1=>bL [2,3] ?_;refine fF (nK _ w.fUnits 33 3 [vi x] (zA x) (by rfl) rfl rfl (fun ρ k u h=>zQ ρ u x k h)) ?_;refine Z1 _ (aG (bU 4 ?_));exact cG.is (by simp (config := { maxSteps := 2000000 }) (disch:=omega) only[go_sem,seval]<;>(rfl)) rfl rfl
theorem aEh (O:aV) (l:List dV) (x:Int) (hb:l.length≤1000):bB Tryz.prog O 94 [encL 4 fI l,vi x] (vi (if l.any (fun p=>decide (p.fSection=x)) then (l.findIdx (fun p=>decide (p.fSection=x)):Nat) else -1)):=by
 refine dD Tryz.func94 ?_;refine aB [0,1] ?_;refine aA fun _ Z1=>aB [0,1] ?_;refine aD (aT [0,1,5] (fun n ρ=> ∃i,n=l.length-i∧(i≤l.length)∧((if l.any (fun p=>decide (p.fSection=x)) then (l.findIdx (fun p=>decide (p.fSection=x)):Int) else -1)=(if (l.drop i).any (fun p=>decide (p.fSection=x)) then (((l.drop i).findIdx (fun p=>decide (p.fSection=x))+i:Nat):Int) else -1))∧ρ=cO O [(0,encL 4 fI l),(1,vi x),(5,vi (i:Nat))]) _ ⟨0,rfl,?_,?_,?_⟩ ?_)
 ·exact bE
 ·simp
 ·exact b9
 rintro n ρ ⟨i,rfl,l0_0,l0_1,rfl⟩ _ Z3;refine aA fun _ Z4=>aB [0,1,5] ?_;refine aL (fun c0=>?_) fun c0=>?_
 ·refine aC (Z4 _ (aA fun _ Z6=>aD (aB [0,1,5] ?_)));refine aL (fun c1=>?_) fun c1=>?_
  ·refine aB [5] ?_;refine aG (bU 4 ?_);exact cG.is (by simp (config := { maxSteps := 2000000 }) (disch:=omega) only[go_sem,seval]<;>(refine congrArg vi ?_;rw[l0_1,bK default c0,cEc,cEf,cFr c1];simp)) rfl rfl
  refine aC (Z6 _ (bA [0,1,5] ?_));refine Z3 _ _ bE ⟨i+1,rfl,bE,?_,b9⟩
  ·rw[l0_1,bK default c0,cEc,cEf,cFs c1];simp only[cCl,cDq];rw[show List.findIdx (fun p:dV=>decide (p.fSection=x)) (List.drop (i+1) l)+1+i=List.findIdx (fun p:dV=>decide (p.fSection=x)) (List.drop (i+1) l)+(i+1) by omega]
 refine aY (Z1 _ (aB [] ?_));refine aG (bU 4 ?_);exact cG.is (by simp (config := { maxSteps := 2000000 }) (disch:=omega) only[go_sem,seval]<;>(refine congrArg vi ?_;rw[l0_1,cT c0];rfl)) rfl rfl
theorem vW (O:aV) (l:List Int) (x:Int):bB Tryz.prog O 95 [bT l,vi x] (vb (l.contains x)):=by
 refine aW 0 rfl (.sl _ _ _) fun hl=>?_;refine dD Tryz.func95 ?_;refine aB [0,1] ?_;refine aA fun _ Z1=>aB [0,1] ?_;refine aD (aT [1,7,8,9] (fun n ρ=> ∃i,n=l.length-i∧(i≤l.length)∧(l.contains x=(l.drop i).contains x)∧ρ=cO O [(1,vi x),(7,bT l),(8,vi (l.length:Nat)),(9,vi (i:Nat))]) _ ⟨0,rfl,?_,?_,?_⟩ ?_)
 ·exact bE
 ·rfl
 ·exact b9
 rintro n ρ ⟨i,rfl,l0_0,l0_1,rfl⟩ _ Z3;refine aB [0,1,7,8,9] ?_;refine aA fun _ Z5=>aL (fun c0=>?_) fun c0=>?_
 ·refine aC (Z5 _ (aA fun _ Z6=>aD (aB [0,1,7,8,9] ?_)));refine aB [0,1,6,7,8,9] ?_;refine aL (fun c1=>?_) fun c1=>?_
  ·refine aB [] ?_;refine aG (bU 4 (xb ?_))
   (rw[l0_1,bK default c0,cFf,show (x==l.getD i default)=true from by rw[cCe];omega];rfl)
  refine aC (Z6 _ (bA [0,1,7,8,9] ?_));refine Z3 _ _ bE ⟨i+1,rfl,bE,?_,b9⟩
  ·rw[l0_1,bK default c0,cFf,show (x==l.getD i default)=false from by rw[cCr];omega,cCl]
 refine aY (Z1 _ (aB [] ?_));refine aG (bU 4 (xb ?_))
 (rw[l0_1,cT c0];rfl)
theorem bQc (l:List Bool) (i:Nat) (x:Bool):(l.map eB).set i [vb x]=(l.set i x).map eB:=by rw[List.map_set]
attribute [go_sem] bQc
def iH (n:Nat) (S:List Int):List Bool:=(List.range n).map fun j=>S.contains ((j:Nat):Int)
theorem iC (n:Nat) (S:List Int):(iH n S).length=n:=by simp[iH]
theorem aHo (n:Nat):(iH n []).map eB=List.replicate n [vb false]:=by
 unfold iH;rw[List.map_map];apply cDs
 ·simp
 intro i h1 h2;simp
theorem uS {n:Nat} {S:List Int} {x:Int} (h0:0≤x) (h1:x<n):iH n (S++[x])=(iH n S).set x.toNat true:=by
 unfold iH;apply cDs
 ·simp
 intro i h2 h3;simp only[cAr,cEv] at h2;rw[List.getElem_set];simp only[List.getElem_map,List.getElem_range,List.contains_append];by_cases h:x.toNat=i
 ·rw[if_pos h];have:((i:Nat):Int)=x:=by omega
  rw[this];simp
 rw[if_neg h];have: ¬((i:Nat):Int)=x:=by omega
 simp[this]
theorem vP {n:Nat} {S:List Int} {x:Int} (h: ¬(0≤x∧x<n)):iH n (S++[x])=iH n S:=by
 unfold iH;refine cEe fun i hi=>?_;have hi:=cCc.1 hi;have: ¬((i:Nat):Int)=x:=by omega
 simp[this]
theorem bAf (n:Nat) (S:List Int):iH (n+1) S=iH n S++[S.contains (n:Int)]:=by
 unfold iH;rw[cBy,cAl];rfl
def aEg (n:Nat) (S:List Int) (i:Nat):List Bool:=(List.range n).map fun j=>decide (j<i)&&S.contains ((j:Nat):Int)
theorem bCe (n:Nat) (S:List Int) (i:Nat):(aEg n S i).length=n:=by simp[aEg]
theorem bOw (n:Nat) (S:List Int):(aEg n S 0).map eB=List.replicate n [vb false]:=by
 unfold aEg;rw[List.map_map];apply cDs
 ·simp
 intro i h1 h2;simp
theorem bNi {n:Nat} {S:List Int} {i:Nat} (hi:i<n):aEg n S (i+1)=(aEg n S i).set i (S.contains (i:Int)):=by
 unfold aEg;apply cDs
 ·simp
 intro j h2 h3;simp only[cAr,cEv] at h2;rw[List.getElem_set];simp only[List.getElem_map,List.getElem_range];by_cases h:i=j
 ·subst h;rw[if_pos rfl,cFr aN,cDm]
 rw[if_neg h];have:(j<i+1)↔(j<i):=by omega
 rw[cAd.2 this]
theorem bQb (n:Nat) (S:List Int):aEg n S n=iH n S:=by
 unfold aEg iH;refine cEe fun i hi=>?_;rw[cFr (cCc.1 hi),cDm]
abbrev aSa (l:List dV):DV:=encL 4 fI l
abbrev m9 (l:List dV):List Int:=l.map fun p=>p.fSection
theorem bKp {l:List dV} {i:Nat} (h:i<l.length):m9 (l.take (i+1))=m9 (l.take i)++[(l.getD i default).fSection]:=by
 rw[d9 default h];unfold m9;rw[cAl];rfl
theorem bLq (l:List dV) (x:Int):decide ((if l.any (fun p=>decide (p.fSection=x)) then (l.findIdx (fun p=>decide (p.fSection=x)):Int) else -1)≥0)=(m9 l).contains x:=by
 have e:(m9 l).contains x=l.any (fun p=>decide (p.fSection=x)):=by
  unfold m9;rw[List.contains_eq_any_beq,List.any_map];congr 1;funext p;simp only[Function.comp];rw[cBk,cCe,cFp];exact eq_comm
 rw[e];split
 ·rename_i h;rw[h];simp
 rename_i h;rw[cDg] at h;rw[h];simp
def fR (n:Nat) (S:List Int) (m:Nat):List Bool:=if m<n then [] else iH n S
theorem q9 (O:aV) (l:List dV) (m0:Nat) (hb:l.length≤1000) (hn:m0≤100):bB Tryz.prog O 39 [aSa l,vi (m0:Int)] (cL (fR m0 (m9 l) 24)):=by
 refine dD Tryz.func39 ?_;refine aB [0,1] ?_;refine aA fun _ Z1=>aB [0,1] ?_;refine aL (fun c0=>?_) fun c0=>?_
 ·refine aB [] ?_;refine kC 4 1 eB rfl rfl ?_;refine aG (bU 4 ?_);exact cG.encL rfl (by rw[fR,if_pos aN])
 refine aC (Z1 _ (aB [0,1] ?_));refine aA fun _ Z5=>aB [0,1,5] ?_;refine aD (aT [1,5,16,17,18] (fun n ρ=> ∃i,n=l.length-i∧(i≤l.length)∧ρ=cO O [(1,vi (m0:Int)),(5,rowL 4 1 eB (iH m0 (m9 (l.take i)))),(16,aSa l),(17,vi (l.length:Nat)),(18,vi (i:Nat))]) _ ⟨0,rfl,?_,?_⟩ ?_)
 ·exact bE
 ·simp (config := { maxSteps := 2000000 }) (disch:=omega) only[go_sem,seval]<;>rw[aHo]
 rintro n ρ ⟨i,rfl,l0_0,rfl⟩ _ Z7;have hcl:=iC m0 (m9 (l.take i));refine aB [0,1,5,16,17,18] ?_;refine aA fun _ Z9=>aL (fun c1=>?_) fun c1=>?_
 ·refine aC (Z9 _ (aA fun _ Z10=>aD (aB [0,1,5,16,17,18] ?_)));refine aB [0,1,5,7,16,17,18] ?_;refine aL (fun c2=>?_) fun c2=>?_
  ·refine bA [0,1,5,7,16,17,18] ?_;refine Z10 _ (bA [0,1,5,16,17,18] ?_);refine Z7 _ _ bE ⟨i+1,rfl,bE,?_⟩;simp (config := { maxSteps := 2000000 }) (disch:=omega) only[go_sem,seval]<;>(rw[bKp c1,uS c2.1 c2.2];rfl)
  refine aC (Z10 _ (bA [0,1,5,16,17,18] ?_));refine Z7 _ _ bE ⟨i+1,rfl,bE,?_⟩;simp (config := { maxSteps := 2000000 }) (disch:=omega) only[go_sem,seval]<;>(rw[bKp c1,vP aN];rfl)
 refine aY (Z5 _ (aA fun _ Z13=>cB 5 _ rfl rfl ?_));refine bA [5] ?_;refine Z13 _ (aG (bU 4 ?_));exact cG.encL rfl (by rw[fR,if_neg aN,cCi aN])
theorem zM (O:aV) (l:List dV) (m0:Nat) (hb:l.length≤1000) (hn:m0≤100):bB Tryz.prog O 45 [aSa l,vi (m0:Int)] (cL (fR m0 (m9 l) 24)):=by
 refine dD Tryz.func45 ?_;refine aB [0,1] ?_;refine aA fun _ Z1=>aB [0,1] ?_;refine aL (fun c0=>?_) fun c0=>?_
 ·refine aB [] ?_;refine kC 4 1 eB rfl rfl ?_;refine aG (bU 4 ?_);exact cG.encL rfl (by rw[fR,if_pos aN])
 refine aC (Z1 _ (aB [0,1] ?_));refine aA fun _ Z5=>aB [0,1,5] ?_;refine aD (aT [0,1,5,6] (fun n ρ=> ∃i,n=m0-i∧(i≤m0)∧ρ=cO O [(0,aSa l),(1,vi (m0:Int)),(5,rowL 4 1 eB (aEg m0 (m9 l) i)),(6,vi (i:Nat))]) _ ⟨0,rfl,?_,?_⟩ ?_)
 ·exact bE
 ·simp (config := { maxSteps := 2000000 }) (disch:=omega) only[go_sem,seval]<;>rw[bOw]
 rintro n ρ ⟨i,rfl,l0_0,rfl⟩ _ Z7;have hcl:=bCe m0 (m9 l) i;refine aA fun _ Z8=>aB [0,1,5,6] ?_;refine aL (fun c1=>?_) fun c1=>?_
 ·refine aC (Z8 _ (aA fun _ Z10=>aD (bL [0,1,5,6] ?_)));refine fF (aEh _ l (i:Int) hb) ?_;refine Z10 _ (bA [0,1,5,6] ?_);refine Z7 _ _ bE ⟨i+1,rfl,bE,?_⟩;simp (config := { maxSteps := 2000000 }) (disch:=omega) only[go_sem,seval]<;>(rw[bNi aN,← bLq];rfl)
 refine aY (Z5 _ (aA fun _ Z11=>cB 5 _ rfl rfl ?_));refine bA [5] ?_;refine Z11 _ (aG (bU 4 ?_));exact cG.encL rfl (by rw[fR,if_neg aN,show i=m0 by omega,bQb])
abbrev nY (l:List g8):DV:=encL 14 jP l
theorem bXa {l:List g8} {f:g8→List Int} {i:Nat} (h:i<l.length):(l.take (i+1)).flatMap f=(l.take i).flatMap f++f (l.getD i default):=by
 rw[d9 default h,cAk];simp
theorem aYa (l:List g8) (f:g8→List Int) (x:Int):(l.flatMap f).contains x=l.any (fun t=>(f t).contains x):=by
 induction l with
 |nil=>rfl
 |cons t l ih=>rw[cAj,List.contains_append,ih];rfl
theorem aYl {l:List g8} {p:g8→Bool} {i:Nat} (h:i<l.length):(l.take (i+1)).any p=((l.take i).any p||p (l.getD i default)):=by
 rw[d9 default h,List.any_append];simp
theorem pO (O:aV) (l:List g8) (m0:Nat) (g:Nat) (f:g8→List Int) (hb:l.length≤1000) (hn:m0≤100) (hg:aO Tryz.prog g=true) (hk: ∀(ρ:aV) (x:g8),bB Tryz.prog ρ g [.agg (jP x)] (bT (f x))) (hf: ∀i,i<l.length→(f (l.getD i default)).length≤1000):bB Tryz.prog O 90 [nY l,vi (m0:Int),.fn g [] []] (cL (fR m0 (l.flatMap f) 48)):=by
 refine dD Tryz.func90 ?_;refine aA fun _ Z0=>aU [0,1,2] aZ ?_;simp (config := { maxSteps := 2000000 }) (disch:=omega) only[go_sem,seval,hg]
 repeat refine bZh bM ?_
 refine Z0 _ (aA fun _ Z1=>aA fun _ Z2=>aU [0,1,2] aZ ?_);simp (config := { maxSteps := 2000000 }) (disch:=omega) only[go_sem,seval,hg]
 repeat refine bZh bM ?_
 refine Z2 _ (aL (fun c0=>?_) fun c0=>?_)
 ·refine aA fun _ Z3=>aU [] aZ ?_;simp (config := { maxSteps := 2000000 }) (disch:=omega) only[go_sem,seval,hg]
  repeat refine bZh bM ?_
  refine Z3 _ (kC 6 1 eB rfl rfl ?_);refine aG (d5 6 rfl (by simp (config := { maxSteps := 2000000 }) (disch:=omega) only[go_sem,seval,hg]) ?_);exact cG.encL rfl (by rw[fR,if_pos aN])
 refine aC (Z1 _ (aA fun _ Z4=>aU [0,1,2] aZ ?_));simp (config := { maxSteps := 2000000 }) (disch:=omega) only[go_sem,seval,hg]
 repeat refine bZh bM ?_
 refine Z4 _ (aA fun _ Z5=>aA fun _ Z6=>aU [0,1,2,7] aZ ?_);simp (config := { maxSteps := 2000000 }) (disch:=omega) only[go_sem,seval,hg]
 repeat refine bZh bM ?_
 refine Z6 _ (aD (aT [1,2,7,20,21,22] (fun n ρ=> ∃i,n=l.length-i∧(i≤l.length)∧ρ=cO O [(1,vi (m0:Int)),(2,.fn g [] []),(7,rowL 4 1 eB (iH m0 ((l.take i).flatMap f))),(20,nY l),(21,vi (l.length:Nat)),(22,vi (i:Nat))]) _ ⟨0,rfl,?_,?_⟩ ?_))
 ·exact bE
 ·simp (config := { maxSteps := 2000000 }) (disch:=omega) only[go_sem,seval,hg]<;>rw[List.flatMap_nil,aHo]
 rintro n ρ ⟨i,rfl,l0_0,rfl⟩ _ Z7;have hcl:=iC m0 ((l.take i).flatMap f);refine aA fun _ Z8=>aU [0,1,2,7,20,21,22] aZ ?_;simp (config := { maxSteps := 2000000 }) (disch:=omega) only[go_sem,seval,hg]
 repeat refine bZh bM ?_
 refine Z8 _ (aA fun _ Z9=>aL (fun c1=>?_) fun c1=>?_)
 ·refine aC (Z9 _ (aA fun _ Z10=>aD (aA fun _ Z11=>aU [0,1,2,7,20,21,22] aZ ?_)));simp (config := { maxSteps := 2000000 }) (disch:=omega) only[go_sem,seval,hg]
  repeat refine bZh bM ?_
  refine Z11 _ (aA fun _ Z12=>aU [0,1,2,7,9,20,21,22] aZ ?_);simp (config := { maxSteps := 2000000 }) (disch:=omega) only[go_sem,seval,hg]
  repeat refine bZh bM ?_
  refine eF _ (hk _ (l.getD i default)) ?_;simp (config := { maxSteps := 2000000 }) (disch:=omega) only[go_sem,seval,hg]
  repeat refine bZh bM ?_
  refine Z12 _ (aD (aT [1,2,7,20,21,22,28,29,30] (fun n ρ=> ∃j,n=(f (l.getD i default)).length-j∧(j≤(f (l.getD i default)).length)∧ρ=cO O [(1,vi (m0:Int)),(2,.fn g [] []),(7,rowL 4 1 eB (iH m0 ((l.take i).flatMap f++(f (l.getD i default)).take j))),(20,nY l),(21,vi (l.length:Nat)),(22,vi (i:Nat)),(28,bT (f (l.getD i default))),(29,vi ((f (l.getD i default)).length:Nat)),(30,vi (j:Nat))]) _ ⟨0,rfl,?_,?_⟩ ?_))
  ·exact bE
  ·simp (config := { maxSteps := 2000000 }) (disch:=omega) only[go_sem,seval,hg]<;>rw[List.take_zero,cEw]
  rintro n ρ ⟨j,rfl,l1_0,rfl⟩ _ Z13;have hfl:=hf i aN;have hcl:=iC m0 ((l.take i).flatMap f++(f (l.getD i default)).take j);refine aA fun _ Z14=>aU [0,1,2,7,20,21,22,28,29,30] aZ ?_;simp (config := { maxSteps := 2000000 }) (disch:=omega) only[go_sem,seval,hg]
  repeat refine bZh bM ?_
  refine Z14 _ (aA fun _ Z15=>aL (fun c2=>?_) fun c2=>?_)
  ·refine aC (Z15 _ (aA fun _ Z16=>aD (aA fun _ Z17=>aU [0,1,2,7,20,21,22,28,29,30] aZ ?_)));simp (config := { maxSteps := 2000000 }) (disch:=omega) only[go_sem,seval,hg]
   repeat refine bZh bM ?_
   refine Z17 _ (aA fun _ Z18=>aU [0,1,2,7,11,20,21,22,28,29,30] aZ ?_);simp (config := { maxSteps := 2000000 }) (disch:=omega) only[go_sem,seval,hg]
   repeat refine bZh bM ?_
   refine Z18 _ (aL (fun c3=>?_) fun c3=>?_)
   ·refine aU [0,1,2,7,11,20,21,22,28,29,30] aZ ?_;simp (config := { maxSteps := 2000000 }) (disch:=omega) only[go_sem,seval,hg]
    repeat refine bZh bM ?_
    refine Z16 _ (aU [0,1,2,7,20,21,22,28,29,30] aZ ?_);simp (config := { maxSteps := 2000000 }) (disch:=omega) only[go_sem,seval,hg]
    repeat refine bZh bM ?_
    refine Z13 _ _ bE ⟨j+1,rfl,bE,?_⟩;simp (config := { maxSteps := 2000000 }) (disch:=omega) only[go_sem,seval,hg]<;>(rw[d9 default c2,← cFe,uS c3.1 c3.2];rfl)
   refine aC (Z16 _ (aU [0,1,2,7,20,21,22,28,29,30] aZ ?_));simp (config := { maxSteps := 2000000 }) (disch:=omega) only[go_sem,seval,hg]
   repeat refine bZh bM ?_
   refine Z13 _ _ bE ⟨j+1,rfl,bE,?_⟩;simp (config := { maxSteps := 2000000 }) (disch:=omega) only[go_sem,seval,hg]<;>(rw[d9 default c2,← cFe,vP aN];rfl)
  refine aY (Z10 _ (aU [0,1,2,7,20,21,22] aZ ?_));simp (config := { maxSteps := 2000000 }) (disch:=omega) only[go_sem,seval,hg]
  repeat refine bZh bM ?_
  refine Z7 _ _ bE ⟨i+1,rfl,bE,?_⟩;simp (config := { maxSteps := 2000000 }) (disch:=omega) only[go_sem,seval,hg]<;>(rw[bXa c1,show j=(f (l.getD i default)).length by omega,cBn];rfl)
 refine aY (Z5 _ (aA fun _ Z19=>cB 7 _ rfl rfl ?_));refine aU [7] aZ ?_;simp (config := { maxSteps := 2000000 }) (disch:=omega) only[go_sem,seval,hg]
 repeat refine bZh bM ?_
 refine Z19 _ (aG (d5 6 rfl (by simp (config := { maxSteps := 2000000 }) (disch:=omega) only[go_sem,seval,hg]) ?_));exact cG.encL rfl (by rw[fR,if_neg aN,cCi aN])
theorem sH (O:aV) (x:g8):bB Tryz.prog O 91 [.agg (jP x)] (bT x.fRoutes):=by
 refine dD Tryz.func91 ?_;refine aB [0] ?_;refine aB [1] ?_;refine aG (bU 2 ?_);exact cG.encL rfl (by exact bE)
theorem uK (O:aV) (l:List g8) (m0:Nat) (hb:l.length≤1000) (hn:m0≤100) (hf: ∀i,i<l.length→(l.getD i default).fRoutes.length≤1000):bB Tryz.prog O 40 [nY l,vi (m0:Int)] (cL (fR m0 (l.flatMap fun x=>x.fRoutes) 48)):=by
 refine dD Tryz.func40 ?_;refine aB [0,1] ?_;refine aA fun _ Z1=>bL [0,1] ?_;refine fF (pO _ l m0 91 (fun x=>x.fRoutes) hb hn (by rfl) (fun ρ x=>sH ρ x) hf) ?_;refine Z1 _ (aG (bU 4 ?_));exact cG.encL rfl (by exact bE)
theorem w8 (O:aV) (l:List g8) (m0:Nat) (hb:l.length≤1000) (hn:m0≤100):bB Tryz.prog O 46 [nY l,vi (m0:Int)] (cL (fR m0 (l.flatMap fun x=>x.fRoutes) 48)):=by
 refine dD Tryz.func46 ?_;refine aB [0,1] ?_;refine aB [0,1] ?_;refine aA fun _ Z2=>aB [0,1,5] ?_;refine aD (dF 5 4 1 eB rfl rfl ?_);refine aT [0,1,5,6] (fun n ρ=> ∃i,n=m0-i∧(i≤m0)∧(48<m0→i=0)∧ρ=cO O [(0,nY l),(1,vi (m0:Int)),(5,rowL 4 1 eB (iH i (l.flatMap fun x=>x.fRoutes))),(6,vi (i:Nat))]) _ ⟨0,rfl,?_,?_,?_⟩ ?_
 ·exact bE
 ·exact bE
 ·exact b9
 rintro n ρ ⟨i,rfl,l0_0,l0_1,rfl⟩ _ Z4;have hcl:=iC i (l.flatMap fun x=>x.fRoutes);refine aA fun _ Z5=>aB [0,1,5,6] ?_;refine aL (fun c0=>?_) fun c0=>?_
 ·refine aC (Z5 _ (aA fun _ Z7=>aD (aB [0,1,5,6] ?_)));refine aA fun _ Z9=>aB [0,1,5,6,7] ?_;refine aD (aT [0,1,5,6,7,19,20,21] (fun n ρ=> ∃j,n=l.length-j∧(j≤l.length)∧ρ=cO O [(0,nY l),(1,vi (m0:Int)),(5,rowL 4 1 eB (iH i (l.flatMap fun x=>x.fRoutes))),(6,vi (i:Nat)),(7,vb ((l.take j).any fun x=>x.fRoutes.contains (i:Int))),(19,nY l),(20,vi (l.length:Nat)),(21,vi (j:Nat))]) _ ⟨0,rfl,?_,?_⟩ ?_)
  ·exact bE
  ·exact b9
  rintro n ρ ⟨j,rfl,l1_0,rfl⟩ _ Z11;refine aB [0,1,5,6,7,19,20,21] ?_;refine aA fun _ Z13=>aL (fun c1=>?_) fun c1=>?_
  ·refine aC (Z13 _ (aA fun _ Z14=>aD (aB [0,1,5,6,7,19,20,21] ?_)));refine bL [0,1,5,6,7,9,19,20,21] ?_;refine i0 (fun g0=>vW _ (l.getD j default).fRoutes (i:Int)) ?_;refine Z14 _ (bA [0,1,5,6,7,19,20,21] ?_);refine Z11 _ _ bE ⟨j+1,rfl,bE,?_⟩;simp (config := { maxSteps := 2000000 }) (disch:=omega) only[go_sem,seval]<;>(rw[aYl c1];rfl)
  refine aY (Z9 _ (bA [0,1,5,6,7] ?_));refine Z7 _ (bA [0,1,5,6] ?_);refine Z4 _ _ bE ⟨i+1,rfl,bE,bE,?_⟩;simp (config := { maxSteps := 2000000 }) (disch:=omega) only[go_sem,seval]<;>(rw[bAf,aYa,cCi aN,cAl];rfl)
 refine aY (Z2 _ (aA fun _ Z16=>cB 5 _ rfl rfl ?_));refine bA [5] ?_;refine Z16 _ (aG (bU 4 ?_));exact cG.encL rfl (by (rw[fR];split;rw[l0_1 aN];rfl;rw[show i=m0 by omega]))
theorem tP (O:aV) (x:g8):bB Tryz.prog O 92 [.agg (jP x)] (bT x.fDone):=by
 refine dD Tryz.func92 ?_;refine aB [0] ?_;refine aB [1] ?_;refine aG (bU 2 ?_);exact cG.encL rfl (by exact bE)
theorem xX (O:aV) (l:List g8) (m0:Nat) (hb:l.length≤1000) (hn:m0≤100) (hf: ∀i,i<l.length→(l.getD i default).fDone.length≤1000):bB Tryz.prog O 41 [nY l,vi (m0:Int)] (cL (fR m0 (l.flatMap fun x=>x.fDone) 48)):=by
 refine dD Tryz.func41 ?_;refine aB [0,1] ?_;refine aA fun _ Z1=>bL [0,1] ?_;refine fF (pO _ l m0 92 (fun x=>x.fDone) hb hn (by rfl) (fun ρ x=>tP ρ x) hf) ?_;refine Z1 _ (aG (bU 4 ?_));exact cG.encL rfl (by exact bE)
theorem zG (O:aV) (l:List g8) (m0:Nat) (hb:l.length≤1000) (hn:m0≤100):bB Tryz.prog O 47 [nY l,vi (m0:Int)] (cL (fR m0 (l.flatMap fun x=>x.fDone) 48)):=by
 refine dD Tryz.func47 ?_;refine aB [0,1] ?_;refine aB [0,1] ?_;refine aA fun _ Z2=>aB [0,1,5] ?_;refine aD (dF 5 4 1 eB rfl rfl ?_);refine aT [0,1,5,6] (fun n ρ=> ∃i,n=m0-i∧(i≤m0)∧(48<m0→i=0)∧ρ=cO O [(0,nY l),(1,vi (m0:Int)),(5,rowL 4 1 eB (iH i (l.flatMap fun x=>x.fDone))),(6,vi (i:Nat))]) _ ⟨0,rfl,?_,?_,?_⟩ ?_
 ·exact bE
 ·exact bE
 ·exact b9
 rintro n ρ ⟨i,rfl,l0_0,l0_1,rfl⟩ _ Z4;have hcl:=iC i (l.flatMap fun x=>x.fDone);refine aA fun _ Z5=>aB [0,1,5,6] ?_;refine aL (fun c0=>?_) fun c0=>?_
 ·refine aC (Z5 _ (aA fun _ Z7=>aD (aB [0,1,5,6] ?_)));refine aA fun _ Z9=>aB [0,1,5,6,7] ?_;refine aD (aT [0,1,5,6,7,19,20,21] (fun n ρ=> ∃j,n=l.length-j∧(j≤l.length)∧ρ=cO O [(0,nY l),(1,vi (m0:Int)),(5,rowL 4 1 eB (iH i (l.flatMap fun x=>x.fDone))),(6,vi (i:Nat)),(7,vb ((l.take j).any fun x=>x.fDone.contains (i:Int))),(19,nY l),(20,vi (l.length:Nat)),(21,vi (j:Nat))]) _ ⟨0,rfl,?_,?_⟩ ?_)
  ·exact bE
  ·exact b9
  rintro n ρ ⟨j,rfl,l1_0,rfl⟩ _ Z11;refine aB [0,1,5,6,7,19,20,21] ?_;refine aA fun _ Z13=>aL (fun c1=>?_) fun c1=>?_
  ·refine aC (Z13 _ (aA fun _ Z14=>aD (aB [0,1,5,6,7,19,20,21] ?_)));refine bL [0,1,5,6,7,9,19,20,21] ?_;refine i0 (fun g0=>vW _ (l.getD j default).fDone (i:Int)) ?_;refine Z14 _ (bA [0,1,5,6,7,19,20,21] ?_);refine Z11 _ _ bE ⟨j+1,rfl,bE,?_⟩;simp (config := { maxSteps := 2000000 }) (disch:=omega) only[go_sem,seval]<;>(rw[aYl c1];rfl)
  refine aY (Z9 _ (bA [0,1,5,6,7] ?_));refine Z7 _ (bA [0,1,5,6] ?_);refine Z4 _ _ bE ⟨i+1,rfl,bE,bE,?_⟩;simp (config := { maxSteps := 2000000 }) (disch:=omega) only[go_sem,seval]<;>(rw[bAf,aYa,cCi aN,cAl];rfl)
 refine aY (Z2 _ (aA fun _ Z16=>cB 5 _ rfl rfl ?_));refine bA [5] ?_;refine Z16 _ (aG (bU 4 ?_));exact cG.encL rfl (by (rw[fR];split;rw[l0_1 aN];rfl;rw[show i=m0 by omega]))
def rB (l:aE) (q:List bF):List Int:=(q.map fun s=>cJ l s.fEl).filter fun x=>decide (0≤x)
theorem bRg {l:aE} {q:List bF} {i:Nat} (h:i<q.length) (h1:0≤cJ l (q.getD i default).fEl):rB l (q.take (i+1))=rB l (q.take i)++[cJ l (q.getD i default).fEl]:=by
 rw[d9 default h];unfold rB;rw[cAl,cDu,cEb,cDk,cFc,if_pos (cFr h1)];rfl
theorem bSc {l:aE} {q:List bF} {i:Nat} (h:i<q.length) (h1: ¬0≤cJ l (q.getD i default).fEl):rB l (q.take (i+1))=rB l (q.take i):=by
 rw[d9 default h];unfold rB;rw[cAl,cDu,cEb,cDk,cFc,if_neg (by simpa only[cFp] using h1)];simp
theorem aGy (l:aE) (q:List bF) (i:Nat):(rB l (q.take i)).length≤i:=by
 unfold rB;refine cBc (cCf _ _) ?_;rw[cAr,cCw];omega
theorem bCv {q:List Int} {x y:Int}:y∈aEb q x↔y∈q∨y=x:=by
 unfold aEb;split
 ·rename_i h;constructor
  ·exact .inl
  rintro (h1|h1)
  ·exact h1
  rw[h1];exact h
 simp
theorem aLd (l:aE) (x:Int) (hx:0≤x): ∀(q:List bF) (a:List Int),x∈q.foldl (iL l) a↔x∈a∨x∈rB l q
 | [],a=>by simp[rB]
 |s::q,a=>by
  rw[cAm,aLd l x hx q];have e:x∈rB l (s::q)↔x=cJ l s.fEl∨x∈rB l q:=by
   unfold rB;rw[cEb,cFc];split
   ·simp
   rename_i h;simp only[cFp] at h;constructor
   ·exact .inr
   rintro (h1|h1)
   ·omega
   exact h1
  rw[e];unfold iL;split
  ·rename_i h;have h2:cJ l s.fEl=(eP l s.fEl.toNat).fSection:=by unfold cJ;rw[if_pos (iI.1 h)]
   rw[bCv,h2];constructor
   ·rintro ((h|h)|h)
    ·exact .inl h
    ·exact .inr (.inl h)
    exact .inr (.inr h)
   rintro (h|h|h)
   ·exact .inl (.inl h)
   ·exact .inl (.inr h)
   exact .inr h
  rename_i h;have h2:cJ l s.fEl= -1:=by unfold cJ;rw[if_neg (fun h3=>h (iI.2 h3))]
  constructor
  ·rintro (h|h)
   ·exact .inl h
   exact .inr (.inr h)
  rintro (h|h|h)
  ·exact .inl h
  ·omega
  exact .inr h
theorem bCg {n:Nat} {S T:List Int} (h: ∀x:Int,0≤x→(x∈S↔x∈T)):iH n S=iH n T:=by
 unfold iH;refine cEe fun j _=>?_;rw[cBk,cFd,cFd];exact h j (Int.natCast_nonneg j)
def tV (w:bS) (u:eX):List Int:=srt (dC w.fLayout u.fBody.fSteps)
def yD (w:bS) (u:eX):List Int:=y7 (rB w.fLayout u.fBody.fSteps)
def mE (w:bS):List Bool:=iH w.fLayout.fSections.length (w.fUnits.flatMap (tV w))
theorem bSd (w:bS):iH w.fLayout.fSections.length (w.fUnits.flatMap (yD w))=mE w:=by
 refine bCg fun x hx=>?_;simp only[cFb];refine exists_congr fun u=>and_congr_right fun _=>?_;unfold tV yD;rw[aSg,(show x∈srt (dC w.fLayout u.fBody.fSteps)↔x∈dC w.fLayout u.fBody.fSteps from List.mem_mergeSort),dC,aLd _ _ hx];simp
theorem bKo {l:List eX} {f:eX→List Int} {i:Nat} (h:i<l.length):(l.take (i+1)).flatMap f=(l.take i).flatMap f++f (l.getD i default):=by
 rw[d9 default h,cAk];simp
theorem bBz (l:aE) (q:List bF):(dC l q).length≤q.length:=by have:=qJ l q q.length;rwa [cBn] at this
set_option maxRecDepth 20000 in
theorem zP (O:aV) (l:aE) (q:List bF) (hl:hM l) (hes:kQ l=true) (hq:q.length≤100):bB Tryz.prog O 83 [.agg (aQ l),cA q] (x8 (dC l q)):=by
 have hl1:=hl.sec;have hl2:=hl.el;have hl3:=hl.jo;have hl4:=hl.sg;have hl5:=hl.bl;obtain ⟨i4,hi4,hz4⟩:=bSw;refine aW 0 rfl (.agg (d:=lD l.fElements) (by simp[aQ]) (.sl _ _ _)) fun he=>?_;refine aW 1 rfl (.sl _ _ _) fun hql=>?_;refine dD Tryz.func83 ?_;refine aB [0,1] ?_;refine aB [1,2] ?_;refine aB [1,2,5] ?_;refine aA fun _ Z3=>aB [1,2,5,6] ?_;refine aD (dF 5 3 1 eI rfl rfl ?_);refine aT [2,5,6,11,12,13] (fun n ρ=> ∃i,n=q.length-i∧(i≤q.length)∧ρ=cO O [(2,.bx (aQ l)),(5,x8 (dC l (q.take i))),(6,.mo (esT aQf aJg (mtS (dC l (q.take i))))),(11,cA q),(12,vi (q.length:Nat)),(13,vi (i:Nat))]) _ ⟨0,rfl,?_,?_⟩ ?_
 ·exact bE
 ·exact b9
 rintro n ρ ⟨i,rfl,l0_0,rfl⟩ _ Z5;have hsl:=qJ l q i;refine aB [1,2,5,6,11,12,13] ?_;refine aA fun _ Z7=>aL (fun c0=>?_) fun c0=>?_
 ·refine aC (Z7 _ (aA fun _ Z8=>aD (aB [1,2,5,6,11,12,13] ?_)));refine aA fun _ Z10=>aA fun _ Z11=>bL [1,2,5,6,8,11,12,13] ?_;refine fF (aDe _ l (q.getD i default).fEl) ?_;refine Z11 _ (aL (fun c1=>?_) fun c1=>?_)
  ·refine aY (Z8 _ (bA [1,2,5,6,11,12,13] ?_));refine Z5 _ _ bE ⟨i+1,rfl,bE,?_⟩;simp (config := { maxSteps := 2000000 }) (disch:=omega) only[go_sem,seval]<;>(rw[bBm l c0 (by simpa using c1)];rfl)
  have hex:=iI.1 (by simpa using c1);have hex2:pQ l (q.getD i default).fEl=true:=(by simpa using c1);refine aC (Z10 _ (aB [1,2,5,6,8,11,12,13] ?_));refine aA fun _ Z13=>dY (Le.keepC [1,2,5,6,9,11,12,13] _) ?_;refine rP ?_;refine ez ?_;refine ez ?_;show OW _ _ _ _ _ _;refine aZk aQf aJg (s:=6) (M:=mtS (dC l (q.take i))) (a:=(eP l (q.getD i default).fEl.toNat).fSection) (zb:=false) (ok:=false) rfl rfl aZ aZ (by simp (config := { maxSteps := 2000000 }) (disch:=omega) only[go_sem,seval]<;>rfl) (by simp (config := { maxSteps := 2000000 }) (disch:=omega) only[go_sem,seval]<;>rfl) (by simp (config := { maxSteps := 2000000 }) (disch:=omega) only[go_sem,seval]<;>rfl) trivial rfl aZ hi4 hz4 (vB _) (fun p _=>vB p.1) (by rw[aBx];exact aJj l q i) ?_
  try simp (config := { maxSteps := 2000000 }) (disch:=omega) only[go_sem,seval]
  refine ez ?_;refine Z13 _ (aL (fun c2=>?_) fun c2=>?_)
  ·have hn:(eP l (q.getD i default).fEl.toNat).fSection∉(dC l (q.take i)):=cFx (by rw[← aQi];simpa using c2);refine aA fun _ Z14=>dY (Le.keepC [1,2,5,6,9,11,12,13] _) ?_;refine rP ?_;refine ez ?_;refine ez ?_;show OW _ _ _ _ _ _;refine bEk aQf aJg (kt:=3) (e:=4) (s:=6) (M:=mtS (dC l (q.take i))) (a:=(eP l (q.getD i default).fEl.toNat).fSection) (b:=true) (.inl rfl) rfl rfl aZ (by simp (config := { maxSteps := 2000000 }) (disch:=omega) only[go_sem,seval]<;>rfl) (by simp (config := { maxSteps := 2000000 }) (disch:=omega) only[go_sem,seval]<;>rfl) (by simp (config := { maxSteps := 2000000 }) (disch:=omega) only[go_sem,seval]<;>rfl) trivial rfl (by simp (config := { maxSteps := 2000000 }) (disch:=omega) only[go_sem,seval]<;>rfl) trivial rfl aZ (vB _) (fun p _=>vB p.1) (by rw[aBx];exact aJj l q i) ?_;refine stz ?_;refine Z14 _ (bA [1,2,5,6,9,11,12,13] ?_);refine Z8 _ (bA [1,2,5,6,11,12,13] ?_);refine Z5 _ _ bE ⟨i+1,rfl,bE,?_⟩;simp (config := { maxSteps := 2000000 }) (disch:=omega) only[go_sem,seval]<;>(rw[aXs l c0 hex2 hn,bGw hn,cAl];rfl)
  have hn:(eP l (q.getD i default).fEl.toNat).fSection∈(dC l (q.take i)):=cFq (by rw[← aQi];simpa using c2);refine aC (Z8 _ (bA [1,2,5,6,11,12,13] ?_));refine Z5 _ _ bE ⟨i+1,rfl,bE,?_⟩;simp (config := { maxSteps := 2000000 }) (disch:=omega) only[go_sem,seval]<;>(rw[bDd l c0 hn];rfl)
 refine aY (Z3 _ (aB [5] ?_));refine aG (bU 4 ?_);exact cG.ownL rfl aN rfl rfl (by (rw[cCi c0]))
theorem wV (O:aV) (l:aE) (b:wJ) (hl:hM l) (hes:kQ l=true) (hq:b.fSteps.length≤100):bB Tryz.prog O 30 [.agg (aQ l),.agg (y9 b)] (bT (srt (dC l b.fSteps))):=by
 have hsl:=bBz l b.fSteps;refine dD Tryz.func30 ?_;refine aB [0,1] ?_;refine aA fun _ Z1=>bL [2,3] ?_;refine fF (zP _ l b.fSteps hl hes hq) ?_;refine Z1 _ (aA fun _ Z2=>bL [5] ?_);refine ⟨_,aCa (s:=5) rfl Tryz.slices_Sort_int_none (fun blk off cap zs w h1 h2 h3=>Tryz.slices_Sort_int blk off cap zs w h1 h2 h3) aN,?_⟩;rintro O1 r1 ⟨rfl,rfl⟩;refine stz ?_;refine Z2 _ (aA fun _ Z3=>cB 5 _ rfl rfl ?_);refine bA [5] ?_;refine Z3 _ (aG (bU 4 ?_));exact cG.encL rfl (by rfl)
theorem uP (O:aV) (l:aE) (b:wJ) (hq:b.fSteps.length≤100):bB Tryz.prog O 31 [.agg (aQ l),.agg (y9 b)] (bT (y7 (rB l b.fSteps))):=by
 refine dD Tryz.func31 ?_;refine aB [0,1] ?_;refine aB [2,3] ?_;refine aA fun _ Z2=>aB [2,3,5] ?_;refine aD (dF 5 3 1 eI rfl rfl ?_);refine aT [2,3,5,6] (fun n ρ=> ∃i,n=b.fSteps.length-i∧(i≤b.fSteps.length)∧ρ=cO O [(2,.bx (aQ l)),(3,.bx (y9 b)),(5,x8 (rB l (b.fSteps.take i))),(6,vi (i:Nat))]) _ ⟨0,rfl,?_,?_⟩ ?_
 ·exact bE
 ·exact b9
 rintro n ρ ⟨i,rfl,l0_0,rfl⟩ _ Z4;have hrl:=aGy l b.fSteps i;refine aA fun _ Z5=>aB [2,3,5,6] ?_;refine aL (fun c0=>?_) fun c0=>?_
 ·refine aC (Z5 _ (aA fun _ Z7=>aD (aA fun _ Z8=>dE [2,3,5,6] [] ?_)));refine w4 (eT _ l (b.fSteps.getD i default).fEl) ?_;refine Z8 _ (aB [2,3,5,6,7] ?_);refine aL (fun c1=>?_) fun c1=>?_
  ·refine bA [2,3,5,6,7] ?_;refine Z7 _ (bA [2,3,5,6] ?_);refine Z4 _ _ bE ⟨i+1,rfl,bE,?_⟩;simp (config := { maxSteps := 2000000 }) (disch:=omega) only[go_sem,seval]<;>(rw[bRg c0 aN,cAl];rfl)
  refine aC (Z7 _ (bA [2,3,5,6] ?_));refine Z4 _ _ bE ⟨i+1,rfl,bE,?_⟩;simp (config := { maxSteps := 2000000 }) (disch:=omega) only[go_sem,seval]<;>(rw[bSc c0 aN];rfl)
 refine aY (Z2 _ (aA fun _ Z10=>cB 5 _ rfl rfl ?_));rw[cCi (show b.fSteps.length≤i by omega)];have hrl2:=aGy l b.fSteps b.fSteps.length;rw[cBn] at hrl2;refine bL [5] ?_;refine fF (tD _ (rB l b.fSteps) aN) ?_;refine Z10 _ (aG (bU 4 ?_));exact cG.encL rfl (by rfl)
theorem aYm (w:bS) (u:eX):(tV w u).length≤u.fBody.fSteps.length:=by
 unfold tV;exact cBc (Nat.le_of_eq (List.length_mergeSort _)) (bBz _ _)
theorem aXk (w:bS) (u:eX):(yD w u).length≤u.fBody.fSteps.length:=by
 have h:=aGy w.fLayout u.fBody.fSteps u.fBody.fSteps.length;rw[cBn] at h;exact cBc (aIg _) h
theorem mV (O:aV) (w:bS) (hf:xH w) (hes:kQ w.fLayout=true):bB Tryz.prog O 7 [.agg (dM w)] (cL (mE w)):=by
 obtain ⟨f1,f2,f3,f4,f5,f6,f7,f8,f9,f10,f11,f12,f13,f14,f15,f16,f17,f18,f19⟩:=id hf;obtain ⟨fl,_⟩:=id f19;refine dD Tryz.func7 ?_;refine aB [0] ?_;refine aB [1] ?_;refine aA fun _ Z2=>aB [1,3] ?_;refine aD (aT [1,3,14,15,16] (fun n ρ=> ∃i,n=w.fUnits.length-i∧(i≤w.fUnits.length)∧ρ=cO O [(1,.bx (dM w)),(3,rowL 4 1 eB (iH w.fLayout.fSections.length ((w.fUnits.take i).flatMap (tV w)))),(14,encL 32 s8 w.fUnits),(15,vi (w.fUnits.length:Nat)),(16,vi (i:Nat))]) _ ⟨0,rfl,?_,?_⟩ ?_)
 ·exact bE
 ·simp (config := { maxSteps := 2000000 }) (disch:=omega) only[go_sem,seval]<;>rw[List.flatMap_nil,aHo]
 rintro n ρ ⟨i,rfl,l0_0,rfl⟩ _ Z4;have hcl:=iC w.fLayout.fSections.length ((w.fUnits.take i).flatMap (tV w));refine aB [1,3,13,14,15,16] ?_;refine aA fun _ Z6=>aL (fun c0=>?_) fun c0=>?_
 ·refine aC (Z6 _ (aA fun _ Z7=>aD (aB [1,3,13,14,15,16] ?_)));refine aA fun _ Z9=>bL [1,3,5,13,14,15,16] ?_;refine fF (wV _ w.fLayout (w.fUnits.getD i default).fBody f19 hes (f15 i c0)) ?_;refine Z9 _ (aD (aT [1,3,14,15,16,24,25,26] (fun n ρ=> ∃j,n=(tV w (w.fUnits.getD i default)).length-j∧(j≤(tV w (w.fUnits.getD i default)).length)∧ρ=cO O [(1,.bx (dM w)),(3,rowL 4 1 eB (iH w.fLayout.fSections.length ((w.fUnits.take i).flatMap (tV w)++(tV w (w.fUnits.getD i default)).take j))),(14,encL 32 s8 w.fUnits),(15,vi (w.fUnits.length:Nat)),(16,vi (i:Nat)),(24,bT (tV w (w.fUnits.getD i default))),(25,vi ((tV w (w.fUnits.getD i default)).length:Nat)),(26,vi (j:Nat))]) _ ⟨0,rfl,?_,?_⟩ ?_))
  ·exact bE
  ·simp (config := { maxSteps := 2000000 }) (disch:=omega) only[go_sem,seval]<;>first|rfl|(rw[cEw];rfl)
  rintro n ρ ⟨j,rfl,l1_0,rfl⟩ _ Z10;have hsu:=aYm w (w.fUnits.getD i default);have hus:=f15 i aN;have hcl:=iC w.fLayout.fSections.length ((w.fUnits.take i).flatMap (tV w)++(tV w (w.fUnits.getD i default)).take j);refine aB [1,3,13,14,15,16,24,25,26] ?_;refine aA fun _ Z12=>aL (fun c1=>?_) fun c1=>?_
  ·refine aC (Z12 _ (aA fun _ Z13=>aD (aB [1,3,13,14,15,16,24,25,26] ?_)));refine aB [1,3,7,13,14,15,16,24,25,26] ?_;refine aL (fun c2=>?_) fun c2=>?_
   ·refine bA [1,3,7,13,14,15,16,24,25,26] ?_;refine Z13 _ (bA [1,3,13,14,15,16,24,25,26] ?_);refine Z10 _ _ bE ⟨j+1,rfl,bE,?_⟩;simp (config := { maxSteps := 2000000 }) (disch:=omega) only[go_sem,seval]<;>(rw[d9 default c1,← cFe,uS c2.1 aN];rfl)
   refine aC (Z13 _ (bA [1,3,13,14,15,16,24,25,26] ?_));refine Z10 _ _ bE ⟨j+1,rfl,bE,?_⟩;simp (config := { maxSteps := 2000000 }) (disch:=omega) only[go_sem,seval]<;>(rw[d9 default c1,← cFe,vP aN];rfl)
  refine aY (Z7 _ (bA [1,3,13,14,15,16] ?_));refine Z4 _ _ bE ⟨i+1,rfl,bE,?_⟩;simp (config := { maxSteps := 2000000 }) (disch:=omega) only[go_sem,seval]<;>(rw[bKo c0,show j=(tV w (w.fUnits.getD i default)).length by omega,cBn];rfl)
 refine aY (Z2 _ (aA fun _ Z16=>cB 3 _ rfl rfl ?_));refine bA [3] ?_;refine Z16 _ (aG (bU 2 ?_));exact cG.encL rfl (by rw[mE,cCi aN])
theorem mO (O:aV) (w:bS) (hf:xH w):bB Tryz.prog O 8 [.agg (dM w)] (cL (mE w)):=by
 obtain ⟨f1,f2,f3,f4,f5,f6,f7,f8,f9,f10,f11,f12,f13,f14,f15,f16,f17,f18,f19⟩:=id hf;obtain ⟨fl,_⟩:=id f19;refine dD Tryz.func8 ?_;refine aB [0] ?_;refine aB [1] ?_;refine aA fun _ Z2=>aB [1,3] ?_;refine aD (aT [1,3,4] (fun n ρ=> ∃i,n=w.fUnits.length-i∧(i≤w.fUnits.length)∧ρ=cO O [(1,.bx (dM w)),(3,rowL 4 1 eB (iH w.fLayout.fSections.length ((w.fUnits.take i).flatMap (yD w)))),(4,vi (i:Nat))]) _ ⟨0,rfl,?_,?_⟩ ?_)
 ·exact bE
 ·simp (config := { maxSteps := 2000000 }) (disch:=omega) only[go_sem,seval]<;>rw[List.flatMap_nil,aHo]
 rintro n ρ ⟨i,rfl,l0_0,rfl⟩ _ Z4;have hcl:=iC w.fLayout.fSections.length ((w.fUnits.take i).flatMap (yD w));refine aA fun _ Z5=>aB [1,3,4] ?_;refine aL (fun c0=>?_) fun c0=>?_
 ·refine aC (Z5 _ (aA fun _ Z7=>aD (aA fun _ Z8=>dE [1,3,4] [(5,27)] ?_)));refine w4 (uP _ w.fLayout (w.fUnits.getD i default).fBody (f15 i c0)) ?_;refine Z8 _ (aB [1,3,4,5] ?_);refine aD (aT [1,3,4,5,6] (fun n ρ=> ∃j,n=(yD w (w.fUnits.getD i default)).length-j∧(j≤(yD w (w.fUnits.getD i default)).length)∧ρ=cO O [(1,.bx (dM w)),(3,rowL 4 1 eB (iH w.fLayout.fSections.length ((w.fUnits.take i).flatMap (yD w)++(yD w (w.fUnits.getD i default)).take j))),(4,vi (i:Nat)),(5,bT (yD w (w.fUnits.getD i default))),(6,vi (j:Nat))]) _ ⟨0,rfl,?_,?_⟩ ?_)
  ·exact bE
  ·simp (config := { maxSteps := 2000000 }) (disch:=omega) only[go_sem,seval]<;>first|rfl|(rw[cEw];rfl)
  rintro n ρ ⟨j,rfl,l1_0,rfl⟩ _ Z10;have hsu:=aXk w (w.fUnits.getD i default);have hus:=f15 i aN;have hcl:=iC w.fLayout.fSections.length ((w.fUnits.take i).flatMap (yD w)++(yD w (w.fUnits.getD i default)).take j);refine aA fun _ Z11=>aB [1,3,4,5,6] ?_;refine aL (fun c1=>?_) fun c1=>?_
  ·refine aC (Z11 _ (aA fun _ Z13=>aD (aB [1,3,4,5,6] ?_)));refine aL (fun c2=>?_) fun c2=>?_
   ·refine bA [1,3,4,5,6] ?_;refine Z13 _ (bA [1,3,4,5,6] ?_);refine Z10 _ _ bE ⟨j+1,rfl,bE,?_⟩;simp (config := { maxSteps := 2000000 }) (disch:=omega) only[go_sem,seval]<;>(rw[d9 default c1,← cFe,uS c2.1 aN];rfl)
   refine aC (Z13 _ (bA [1,3,4,5,6] ?_));refine Z10 _ _ bE ⟨j+1,rfl,bE,?_⟩;simp (config := { maxSteps := 2000000 }) (disch:=omega) only[go_sem,seval]<;>(rw[d9 default c1,← cFe,vP aN];rfl)
  refine aY (Z7 _ (bA [1,3,4] ?_));refine Z4 _ _ bE ⟨i+1,rfl,bE,?_⟩;simp (config := { maxSteps := 2000000 }) (disch:=omega) only[go_sem,seval]<;>(rw[bKo c0,show j=(yD w (w.fUnits.getD i default)).length by omega,cBn];rfl)
 refine aY (Z2 _ (aA fun _ Z15=>cB 3 _ rfl rfl ?_));refine bA [3] ?_;refine Z15 _ (aG (bU 2 ?_));exact cG.encL rfl (by rw[← bSd,cCi aN])
abbrev vI (l:List fH):DV:=encL 3 i6 l
abbrev bTv (l:List fH):DV:=rowL 240 3 i6 l
abbrev bNe (l:List Bool):DV:=rowL 4 1 eB l
theorem bAc (l:List Bool) (x:Bool):l.map eB++[[vb x]]=(l++[x]).map eB:=by simp
attribute [go_sem] bAc
def t6 (l:List fH) (now:Int):List fH:=l.filter fun f=>decide (now≤f.fUntil)
def aPq (l:List fH) (k a now:Int):Bool:=(t6 l now).any fun f=>f.fKind==k&&f.fAt==a
def plc (l:List fH) (k now:Int):List Int:=(l.filter fun f=>f.fKind==k&&decide (now≤f.fUntil)).map fH.fAt
abbrev zI (l:List fH) (k now:Int) (a:Int):Bool:=(mk (plc l k now)).contains a
theorem aRt (l:List fH) (k now a:Int):zI l k now a=aPq l k a now:=by
 rw[cBk,cFd,bLo];unfold plc aPq t6;simp only[cAy,cFh,List.any_eq_true,bZi,cCe,cFp];constructor
 ·rintro ⟨f,⟨h1,h2,h3⟩,h4⟩;exact ⟨f,⟨h1,h3⟩,h2,h4⟩
 rintro ⟨f,⟨h1,h3⟩,h2,h4⟩;exact ⟨f,⟨h1,h2,h3⟩,h4⟩
def aIc (h:Int→Bool):Nat→List Bool→List Bool
 |_,[]=>[]
 |i,x::xs=>(x||h i)::aIc h (i+1) xs
def aCn (h:Int→Bool):Nat→List Int→List Int
 |_,[]=>[]
 |i,x::xs=>(if h i then 0 else x)::aCn h (i+1) xs
abbrev sQ (l:List fH) (now:Int):=aIc fun a=>aPq l 1 a now
abbrev qN (l:List fH) (now:Int):=aCn fun a=>aPq l 2 a now
theorem bIw (l:List fH) (now:Int):aIc (zI l 1 now)=sQ l now:=by
 unfold sQ;congr 1;funext a;exact aRt l 1 now a
theorem bEt (l:List fH) (now:Int):aCn (zI l 2 now)=qN l now:=by
 unfold qN;congr 1;funext a;exact aRt l 2 now a
theorem aAt (O:aV) (l:List fH) (now:Int) (hb:l.length≤100000):bB Tryz.prog O 176 [vI l,vi now] (bTv (t6 l now)):=by
 refine dD Tryz.func176 ?_;refine aB [0,1] ?_;refine aB [0,1] ?_;refine aA fun _ Z2=>aB [0,1,5] ?_;refine aD (dF 5 240 3 i6 rfl rfl ?_);refine aT [1,5,8,9,10] (fun n ρ=> ∃i,∃out,n=l.length-i∧(i≤l.length)∧(out++(l.drop i).filter (fun f=>decide (now≤f.fUntil))=t6 l now)∧(out.length≤i)∧ρ=cO O [(1,vi now),(5,bTv out),(8,vI l),(9,vi (l.length:Nat)),(10,vi (i:Nat))]) _ ⟨0,[],rfl,?_,?_,?_,?_⟩ ?_
 ·exact bE
 ·rfl
 ·exact bE
 ·exact b9
 rintro n ρ ⟨i,out,rfl,l0_0,l0_1,l0_2,rfl⟩ _ Z4;refine aB [0,1,5,8,9,10] ?_;refine aA fun _ Z6=>aL (fun c0=>?_) fun c0=>?_
 ·refine aC (Z6 _ (aA fun _ Z7=>aD (aB [0,1,5,8,9,10] ?_)));refine aB [0,1,5,7,8,9,10] ?_;refine aL (fun c1=>?_) fun c1=>?_
  ·refine bA [0,1,5,7,8,9,10] ?_;refine Z7 _ (bA [0,1,5,8,9,10] ?_);refine Z4 _ _ bE ⟨i+1,out++[l.getD i default],rfl,bE,?_,?_,b9⟩
   ·rw[← l0_1,bK default c0,cFc,if_pos (cFr aN)];simp
   ·simp;omega
  refine aC (Z7 _ (bA [0,1,5,8,9,10] ?_));refine Z4 _ _ bE ⟨i+1,out,rfl,bE,?_,bE,b9⟩
  ·rw[← l0_1,bK default c0,cFc,if_neg (by simp only[cFp];omega)]
 refine aY (Z2 _ (aB [5] ?_));refine aG (bU 4 ?_);exact cG.ownL rfl aN rfl rfl (by rw[cT c0] at l0_1;simpa using l0_1)
theorem zW (O:aV) (l:List fH) (now:Int) (hb:l.length≤100000):bB Tryz.prog O 176 [vI l,vi now] (vI (t6 l now)):=uD (aAt O l now hb)
theorem pN (O:aV) (l:List fH) (k a now:Int) (hb:l.length≤100000):bB Tryz.prog O 93 [vI l,vi k,vi a,vi now] (vb (aPq l k a now)):=by
 refine dD Tryz.func93 ?_;refine aB [0,1,2,3] ?_;refine aA fun _ Z1=>aA fun _ Z2=>bL [0,1,2,3] ?_;refine fF (zW _ l now aN) ?_;refine Z2 _ (aD (aT [1,2,13,14,15] (fun n ρ=> ∃i,n=(t6 l now).length-i∧(i≤(t6 l now).length)∧(aPq l k a now=((t6 l now).drop i).any fun f=>f.fKind==k&&f.fAt==a)∧ρ=cO O [(1,vi k),(2,vi a),(13,vI (t6 l now)),(14,vi ((t6 l now).length:Nat)),(15,vi (i:Nat))]) _ ⟨0,rfl,?_,?_,?_⟩ ?_))
 ·exact bE
 ·rfl
 ·exact b9
 rintro n ρ ⟨i,rfl,l0_0,l0_1,rfl⟩ _ Z3;have hx:(t6 l now).length≤l.length:=cCf _ _;refine aB [1,2,13,14,15] ?_;refine aA fun _ Z5=>aL (fun c0=>?_) fun c0=>?_
 ·refine aC (Z5 _ (aA fun _ Z6=>aD (aB [1,2,13,14,15] ?_)));refine aB [1,2,10,13,14,15] ?_;refine aL (fun c1=>?_) fun c1=>?_
  ·refine aB [] ?_;refine aG (bU 8 (xb ?_))
   (rw[l0_1,bK default c0,cEc,show (((t6 l now).getD i default).fKind==k&&((t6 l now).getD i default).fAt==a)=true by simp only[bZi,cCe];omega];rfl)
  refine aC (Z6 _ (bA [1,2,13,14,15] ?_));refine Z3 _ _ bE ⟨i+1,rfl,bE,?_,b9⟩
  ·rw[l0_1,bK default c0,cEc,show (((t6 l now).getD i default).fKind==k&&((t6 l now).getD i default).fAt==a)=false by rw[cDz,cCr,cCr];omega,cCl]
 refine aY (Z1 _ (aB [] ?_));refine aG (bU 8 (xb ?_))
 (rw[l0_1,cT c0];rfl)
attribute [-go_sem] gcG
theorem bMo {P:Program} {ρ:aV} {k:Nat} {g:Bool} {fv:DV} {gs:Prop} {f:FuncId} {l:List DV} {K:aV→Prop} {r:DV} (h:g=true→bB P ρ f l r) (hp:g=true→gd fv∧gs∧aO P f=true) (hr:lO r=true) (hk:K (set ρ k (.cond g r))):gcG P ρ (some k) g fv gs (some (f,l)) K:=
 ⟨r,hr,fun hg=>⟨hp hg,h hg⟩,hk⟩
theorem vU (O:aV) (l:List fH) (oc:List Bool) (now:Int) (hb:l.length≤1000) (ho:oc.length≤1000):bB Tryz.prog O 42 [vI l,cL oc,vi now] (cL (sQ l now 0 oc)):=by
 refine dD Tryz.func42 ?_;refine aB [0,1,2] ?_;refine aB [0,1,2] ?_;refine aA fun _ Z2=>aB [0,1,2,7] ?_;refine aD (dF 7 4 1 eB rfl rfl ?_);refine aT [0,2,7,10,11,12] (fun n ρ=> ∃i,∃out,n=oc.length-i∧(i≤oc.length)∧(out++sQ l now i (oc.drop i)=sQ l now 0 oc)∧(out.length≤i)∧ρ=cO O [(0,vI l),(2,vi now),(7,bNe out),(10,cL oc),(11,vi (oc.length:Nat)),(12,vi (i:Nat))]) _ ⟨0,[],rfl,?_,?_,?_,?_⟩ ?_
 ·exact bE
 ·rfl
 ·exact bE
 ·exact b9
 rintro n ρ ⟨i,out,rfl,l0_0,l0_1,l0_2,rfl⟩ _ Z4;refine aB [0,1,2,7,10,11,12] ?_;refine aA fun _ Z6=>aL (fun c0=>?_) fun c0=>?_
 ·refine aC (Z6 _ (aA fun _ Z7=>aD (aB [0,1,2,7,10,11,12] ?_)));refine bL [0,1,2,7,8,9,10,11,12] ?_;refine bMo (fun g0=>pN _ l 1 i now aN) ?_ rfl ?_
  ·intro g0;exact ⟨by first|trivial|simp only[go_sem,seval],by first|simpa using g0|(simp only[go_sem,seval];simpa using g0),by rfl⟩
  refine stz ?_;refine Z7 _ (bA [0,1,2,7,10,11,12] ?_);refine Z4 _ _ bE ⟨i+1,out++[(oc.getD i default||aPq l 1 i now)],rfl,bE,?_,?_,b9⟩
  ·unfold sQ at*;rw[← l0_1,bK default c0,aIc];simp
  ·simp;omega
 refine aY (Z2 _ (aA fun _ Z9=>cB 7 _ rfl rfl ?_));refine bA [7] ?_;refine Z9 _ (aG (bU 6 ?_));exact cG.encL rfl (by rw[cT c0] at l0_1;rw[← l0_1];simp[aIc])
attribute [go_sem] gcG
theorem zC (O:aV) (l:List fH) (oc:List Int) (now:Int) (hb:l.length≤1000) (ho:oc.length≤1000):bB Tryz.prog O 43 [vI l,bT oc,vi now] (bT (qN l now 0 oc)):=by
 refine dD Tryz.func43 ?_;refine aB [0,1,2] ?_;refine aB [0,1,2] ?_;refine aA fun _ Z2=>aB [0,1,2,7] ?_;refine aD (dF 7 3 1 eI rfl rfl ?_);refine aT [0,2,7,10,11,12] (fun n ρ=> ∃i,∃out,n=oc.length-i∧(i≤oc.length)∧(out++qN l now i (oc.drop i)=qN l now 0 oc)∧(out.length≤i)∧ρ=cO O [(0,vI l),(2,vi now),(7,x8 out),(10,bT oc),(11,vi (oc.length:Nat)),(12,vi (i:Nat))]) _ ⟨0,[],rfl,?_,?_,?_,?_⟩ ?_
 ·exact bE
 ·rfl
 ·exact bE
 ·exact b9
 rintro n ρ ⟨i,out,rfl,l0_0,l0_1,l0_2,rfl⟩ _ Z4;refine aB [0,1,2,7,10,11,12] ?_;refine aA fun _ Z6=>aL (fun c0=>?_) fun c0=>?_
 ·refine aC (Z6 _ (aA fun _ Z7=>aD (aB [0,1,2,7,10,11,12] ?_)));refine aA fun _ Z9=>aA fun _ Z10=>bL [0,1,2,7,8,9,10,11,12] ?_;refine fF (pN _ l 2 i now aN) ?_;refine Z10 _ (aL (fun c1=>?_) fun c1=>?_)
  ·refine bA [0,1,2,7,10,11,12] ?_;refine Z9 _ (bA [0,1,2,7,9,10,11,12] ?_);refine Z7 _ (bA [0,1,2,7,10,11,12] ?_);refine Z4 _ _ bE ⟨i+1,out++[0],rfl,bE,?_,?_,b9⟩
   ·unfold qN at*;rw[← l0_1,bK default c0,aCn,if_pos c1];simp
   ·simp;omega
  refine aC (Z9 _ (bA [0,1,2,7,9,10,11,12] ?_));refine Z7 _ (bA [0,1,2,7,10,11,12] ?_);refine Z4 _ _ bE ⟨i+1,out++[oc.getD i default],rfl,bE,?_,?_,b9⟩
  ·unfold qN at*;rw[← l0_1,bK default c0,aCn,if_neg (by rw[c1];simp)];simp
  ·simp;omega
 refine aY (Z2 _ (aA fun _ Z11=>cB 7 _ rfl rfl ?_));refine bA [7] ?_;refine Z11 _ (aG (bU 6 ?_));exact cG.encL rfl (by rw[cT c0] at l0_1;rw[← l0_1];simp[aCn])
theorem aJa (O:aV) (l:List Int) (hb:l.length≤100000):bB Tryz.prog O 174 [bT l] (rowL 3 1 eI (mk l)):=by
 refine dD Tryz.func174 ?_;refine aB [0] ?_;refine aA fun _ Z1=>bL [0] ?_;refine fF (mB _ l aN) ?_;refine Z1 _ (aA fun _ Z2=>bL [3] ?_);refine ⟨_,aCa (s:=3) rfl Tryz.slices_Sort_int_none (fun blk off cap zs w h1 h2 h3=>Tryz.slices_Sort_int blk off cap zs w h1 h2 h3) aN,?_⟩;rintro O1 r1 ⟨rfl,rfl⟩;refine stz ?_;refine Z2 _ (aA fun _ Z3=>bL [3] ?_);refine ⟨_,aEo (s:=3) (l:=srt l) rfl Tryz.slices_Compact_int_empty (fun blk off cap zs w h1 h2 h3=>Tryz.slices_Compact_int blk off cap zs w h1 h2 h3) (Lib.compact_length_le _),?_⟩;rintro O1 r1 ⟨rfl,rfl⟩;refine stz ?_;refine Z3 _ (aG (bU 2 (cG.cut rfl aN rfl ?_ ?_)))
 ·simp
 simp[mk]
theorem aEi (O:aV) (l:List Int) (hb:l.length≤100000):bB Tryz.prog O 174 [bT l] (bT (mk l)):=uD (aJa O l hb)
theorem vF (O:aV) (l:List Int) (x:Int):bB Tryz.prog O 88 [bT l,vi x] (vb (l.contains x)):=by
 refine dD Tryz.func88 ?_;refine aB [0,1] ?_;refine aA fun _ Z1=>bL [0,1] ?_;refine fF (oS _ l x) ?_;refine Z1 _ (aG (bU 4 ?_));exact xd
theorem oT (O:aV) (f:fH) (now:Int):bB Tryz.prog O 173 [.agg [vi f.fKind,vi f.fAt,vi f.fUntil,vi now]] (vb (decide (now≤f.fUntil))):=by
 refine dD Tryz.func173 ?_;refine aB [0] ?_;refine aB [1] ?_;refine aG (bU 2 ?_);exact xd
theorem nU (O:aV) (l:List fH) (k now:Int) (hb:l.length≤100000):bB Tryz.prog O 86 [vI l,vi k,vi now] (bT (mk (plc l k now))):=by
 refine dD Tryz.func86 ?_;refine aB [0,1,2] ?_;refine aB [0,1,2] ?_;refine aA fun _ Z2=>aB [0,1,2,7] ?_;refine aD (dF 7 3 1 eI rfl rfl ?_);refine aT [1,2,7,11,12,13] (fun n ρ=> ∃i,∃out,n=l.length-i∧(i≤l.length)∧(out++plc (l.drop i) k now=plc l k now)∧(out.length≤i)∧ρ=cO O [(1,vi k),(2,vi now),(7,x8 out),(11,vI l),(12,vi (l.length:Nat)),(13,vi (i:Nat))]) _ ⟨0,[],rfl,?_,?_,?_,?_⟩ ?_
 ·exact bE
 ·rfl
 ·exact bE
 ·exact b9
 rintro n ρ ⟨i,out,rfl,l0_0,l0_1,l0_2,rfl⟩ _ Z4;refine aB [0,1,2,7,11,12,13] ?_;refine aA fun _ Z6=>aL (fun c0=>?_) fun c0=>?_
 ·refine aC (Z6 _ (aA fun _ Z7=>aD (aB [0,1,2,7,11,12,13] ?_)));refine aB [0,1,2,7,9,11,12,13] ?_;refine aA fun _ Z10=>bL [0,1,2,7,9,10,11,12,13,19] ?_;refine i0 (fun g0=>oT _ (l.getD i default) now) ?_;refine Z10 _ (aL (fun c1=>?_) fun c1=>?_)
  ·refine bA [0,1,2,7,9,11,12,13] ?_;refine Z7 _ (bA [0,1,2,7,11,12,13] ?_);refine Z4 _ _ bE ⟨i+1,out++[(l.getD i default).fAt],rfl,bE,?_,?_,b9⟩
   ·rw[← l0_1,bK default c0];unfold plc;rw[cFc,if_pos (by simpa using c1)];simp
   ·simp;omega
  refine aC (Z7 _ (bA [0,1,2,7,11,12,13] ?_));refine Z4 _ _ bE ⟨i+1,out,rfl,bE,?_,bE,b9⟩
  ·rw[← l0_1,bK default c0];unfold plc;rw[cFc,if_neg (by simp only[bZi,cCe,cFp];rintro ⟨h1,h2⟩;rcases c1 with e|e;exact e h1;omega)]
 refine aY (Z2 _ (aA fun _ Z11=>cB 7 _ rfl rfl ?_));refine bL [7] ?_;refine fF (aEi _ _ (by first|assumption|omega|decide)) ?_;refine Z11 _ (aG (bU 6 ?_));exact cG.encL rfl (by rw[cT c0] at l0_1;rw[← l0_1];simp[plc])
theorem sM (O:aV) (l:List Bool) (hb:l.length≤1000000):bB Tryz.prog O 87 [cL l] (bNe l):=by
 refine dD Tryz.func87 ?_;refine aB [0] ?_;refine aA fun _ Z1=>aA fun _ Z2=>bL [0] ?_;intro β hβ;refine Z2 _ (aL (fun c0=>?_) fun c0=>?_)
 ·obtain rfl:l=[]:=by
   cases l with
   |nil=>rfl
   |cons x l=>have:=hβ b7;simp_all
  refine aB [] ?_;refine aG (bU 2 ?_);exact cG.nilrow _ _ (by simp (config := { maxSteps := 2000000 }) (disch:=omega) only[go_sem,seval])
 refine aC (Z1 _ (aB [0] ?_));refine aG (bU 2 ?_);exact cG.rowL rfl (by rfl)
theorem tY (O:aV) (l:List fH) (oc:List Bool) (now:Int) (hb:l.length≤1000) (ho:oc.length≤1000):bB Tryz.prog O 36 [vI l,cL oc,vi now] (cL (sQ l now 0 oc)):=by
 refine dD Tryz.func36 ?_;refine aB [0,1,2] ?_;refine aA fun _ Z1=>bL [0,1,2] ?_;refine fF (nU _ l 1 now aN) ?_;refine Z1 _ (aA fun _ Z2=>bL [1,7] ?_);refine fF (sM _ oc aN) ?_;refine Z2 _ (aA fun _ Z3=>aB [7,8] ?_);refine aD (aT [7,8,16,17] (fun n ρ=> ∃i,∃c,n=oc.length-i∧(i≤oc.length)∧(c.length=oc.length)∧(c.take i++aIc (zI l 1 now) i (c.drop i)=aIc (zI l 1 now) 0 oc)∧ρ=cO O [(7,bT (mk (plc l 1 now))),(8,bNe c),(16,vi (oc.length:Nat)),(17,vi (i:Nat))]) _ ⟨0,oc,rfl,?_,?_,?_,?_⟩ ?_)
 ·exact bE
 ·exact bE
 ·simp
 ·exact b9
 rintro n ρ ⟨i,c,rfl,l0_0,l0_1,l0_2,rfl⟩ _ Z5;refine aB [7,8,16,17] ?_;refine aA fun _ Z7=>aL (fun c0=>?_) fun c0=>?_
 ·refine aC (Z7 _ (aA fun _ Z8=>aD (aB [7,8,16,17] ?_)));refine bL [7,8,9,16,17] ?_;refine i0 (fun g0=>vF _ (mk (plc l 1 now)) i) ?_;refine Z8 _ (bA [7,8,16,17] ?_);refine Z5 _ _ bE ⟨i+1,c.set i (c.getD i default||zI l 1 now i),rfl,bE,?_,?_,b9⟩
  ·rw[cDr];exact l0_1
  ·rw[aTg _ aN,aSd,← l0_2,bK default (show i<c.length by omega),aIc];simp
 refine aY (Z3 _ (aA fun _ Z10=>cB 8 _ rfl rfl ?_));refine bA [8] ?_;refine Z10 _ (aG (bU 6 ?_));exact cG.encL rfl (by rw[← bIw,← l0_2,cT (show c.length≤i by omega),cCi aN];simp[aIc])
theorem xE (O:aV) (l:List fH) (oc:List Int) (now:Int) (hb:l.length≤1000) (ho:oc.length≤1000):bB Tryz.prog O 37 [vI l,bT oc,vi now] (bT (qN l now 0 oc)):=by
 refine dD Tryz.func37 ?_;refine aB [0,1,2] ?_;refine aA fun _ Z1=>bL [0,1,2] ?_;refine fF (nU _ l 2 now aN) ?_;refine Z1 _ (aA fun _ Z2=>bL [1,7] ?_);refine fF (mB _ oc aN) ?_;refine Z2 _ (aA fun _ Z3=>aB [7,8] ?_);refine aD (aT [7,8,16,17] (fun n ρ=> ∃i,∃c,n=oc.length-i∧(i≤oc.length)∧(c.length=oc.length)∧(c.take i++aCn (zI l 2 now) i (c.drop i)=aCn (zI l 2 now) 0 oc)∧ρ=cO O [(7,bT (mk (plc l 2 now))),(8,x8 c),(16,vi (oc.length:Nat)),(17,vi (i:Nat))]) _ ⟨0,oc,rfl,?_,?_,?_,?_⟩ ?_)
 ·exact bE
 ·exact bE
 ·simp
 ·exact b9
 rintro n ρ ⟨i,c,rfl,l0_0,l0_1,l0_2,rfl⟩ _ Z5;refine aB [7,8,16,17] ?_;refine aA fun _ Z7=>aL (fun c0=>?_) fun c0=>?_
 ·refine aC (Z7 _ (aA fun _ Z8=>aD (aB [7,8,16,17] ?_)));refine aA fun _ Z10=>bL [7,8,9,16,17] ?_;refine fF (vF _ (mk (plc l 2 now)) i) ?_;refine Z10 _ (aL (fun c1=>?_) fun c1=>?_)
  ·refine bA [7,8,9,16,17] ?_;refine Z8 _ (bA [7,8,16,17] ?_);refine Z5 _ _ bE ⟨i+1,c.set i 0,rfl,bE,?_,?_,b9⟩
   ·rw[cDr];exact l0_1
   ·rw[aTg _ aN,aSd,← l0_2,bK default (show i<c.length by omega),aCn,if_pos c1];simp
  refine aC (Z8 _ (bA [7,8,16,17] ?_));refine Z5 _ _ bE ⟨i+1,c,rfl,bE,?_,?_,b9⟩
  ·exact l0_1
  ·rw[d9 default (show i<c.length by omega),← l0_2,bK default (show i<c.length by omega),aCn,if_neg (by unfold zI;rw[c1];decide)];simp
 refine aY (Z3 _ (aA fun _ Z11=>cB 8 _ rfl rfl ?_));refine bA [8] ?_;refine Z11 _ (aG (bU 6 ?_));exact cG.encL rfl (by rw[← bEt,← l0_2,cT (show c.length≤i by omega),cCi aN];simp[aCn])
def bHw (w:bS):xO:=⟨sQ w.fFaults w.fNow 0 (mE w),qN w.fFaults w.fNow 0 (lQ w.fMachines),fR w.fLayout.fSections.length (m9 w.fPossessions) 24,fR w.fTable.fRoutes.length (w.fCenter.fTracks.flatMap fun x=>x.fRoutes) 48,fR w.fTable.fRoutes.length (w.fCenter.fTracks.flatMap fun x=>x.fDone) 48,[],[]⟩
theorem aBg (w:bS):(mE w).length=w.fLayout.fSections.length:=iC _ _
theorem aMh (l:List e5):(lQ l).length=l.length:=by unfold lQ;rw[cAr]
def bCx (a b:xO):Bool:=((((((a.fOccupied==b.fOccupied)&&(a.fDetected==b.fDetected))&&(a.fClosed==b.fClosed))&&(a.fClaimed==b.fClaimed))&&(a.fPassed==b.fPassed))&&(a.fCalls==b.fCalls))&&(a.fCancels==b.fCancels)
theorem bIv (a:xO):bCx a a=true:=by unfold bCx;simp
theorem sP (O:aV) (a b:xO):bB Tryz.prog O 11 [.agg (vD a),.agg (vD b)] (vb (bCx a b)):=by
 refine dD Tryz.func11 ?_;refine aB [0,1] ?_;refine aA fun _ Z1=>bL [2,3] ?_;refine fF (jF _ a.fOccupied b.fOccupied) ?_;refine i0 (fun g0=>nH _ a.fDetected b.fDetected) ?_;refine i0 (fun g1=>jF _ a.fClosed b.fClosed) ?_;refine i0 (fun g2=>jF _ a.fClaimed b.fClaimed) ?_;refine i0 (fun g3=>jF _ a.fPassed b.fPassed) ?_;refine i0 (fun g4=>nH _ a.fCalls b.fCalls) ?_;refine i0 (fun g5=>nH _ a.fCancels b.fCancels) ?_;refine Z1 _ (aG (bU 4 ?_));exact xd
set_option maxRecDepth 20000 in
theorem zS (O:aV) (w:bS) (hf:xH w) (hes:kQ w.fLayout=true):bB Tryz.prog O 12 [.agg (dM w)] (.agg [cL (sQ w.fFaults w.fNow 0 (mE w)),bT (qN w.fFaults w.fNow 0 (lQ w.fMachines)),cL (fR w.fLayout.fSections.length (m9 w.fPossessions) 24),cL (fR w.fTable.fRoutes.length (w.fCenter.fTracks.flatMap fun x=>x.fRoutes) 48),cL (fR w.fTable.fRoutes.length (w.fCenter.fTracks.flatMap fun x=>x.fDone) 48),.v (.slice none 0 0),.v (.slice none 0 0)]):=by
 obtain ⟨f1,f2,f3,f4,f5,f6,f7,f8,f9,f10,f11,f12,f13,f14,f15,f16,f17,f18,f19⟩:=id hf;obtain ⟨fl,_⟩:=id f19;have hol:=aBg w;have hdl:=aMh w.fMachines;have hr1: ∀i,i<w.fCenter.fTracks.length→(w.fCenter.fTracks.getD i default).fRoutes.length≤1000:=fun i hi=>by have:=(f18 i hi).1;omega
 have hr2: ∀i,i<w.fCenter.fTracks.length→(w.fCenter.fTracks.getD i default).fDone.length≤1000:=fun i hi=>by have:=(f18 i hi).2;omega
 refine dD Tryz.func12 ?_;refine aB [0] ?_;refine aA fun _ Z1=>sZ 40 [1,2] [1,3,4,5,6,7,8,9,10,11,12,13,14,15,16,17,18,19,20,21,22,23,24,25,26,27,28,29,30,31,32,33,34,35,36,37,38,39,40,41,2] [] [] [[],[0],[],[2],[],[4],[0,1,2,3,4,5],[],[7],[],[9],[0,1,2,3,4,5,6,9,10],[],[12],[0,1,2,3,4,5,6,7,8,9,10,11,12,13],[],[15],[],[17],[17,18],[17,18,19],[0,1,2,3,4,5,6,7,8,9,10,11,12,13,14,15,16,17,18,19,20],[],[22],[22,23],[],[25],[25,26],[25,26,27],[0,1,2,3,4,5,6,7,8,9,10,11,12,13,14,15,16,17,18,19,20,21,22,23,24,25,26,27,28],[],[30],[30,31],[],[33],[33,34],[33,34,35],[0,1,2,3,4,5,6,7,8,9,10,11,12,13,14,15,16,17,18,19,20,21,22,23,24,25,26,27,28,29,30,31,32,33,34,35,36],[0,1,2,3,4,5,6,7,8,9,10,11,12,13,14,15,16,17,18,19,20,21,22,23,24,25,26,27,28,29,30,31,32,33,34,35,36,37],[0,1,2,3,4,5,6,7,8,9,10,11,12,13,14,15,16,17,18,19,20,21,22,23,24,25,26,27,28,29,30,31,32,33,34,35,36,37,38]] [[39],[39],[39],[39],[39],[39],[39],[39],[39],[39],[39],[39],[39],[39],[39],[39],[39],[39],[39],[39],[39],[39],[39],[39],[39],[39],[39],[39],[39],[39],[39],[39],[39],[39],[39],[39],[39],[39],[39],[]] (fun bQ=>cO O [(1,.bx (dM w)),(3,aX (bQ 0) (.bp 1 19)),(4,aX (bQ 1) (encL 3 i6 w.fFaults)),(5,aX (bQ 2) (.agg (dM w))),(6,aX (bQ 3) (cL (mE w))),(7,aX (bQ 4) (.bp 1 29)),(8,aX (bQ 5) (vi w.fNow)),(9,aX (bQ 6) (cL (sQ w.fFaults w.fNow 0 (mE w)))),(10,aX (bQ 7) (.bp 1 19)),(11,aX (bQ 8) (encL 3 i6 w.fFaults)),(12,aX (bQ 9) (.bp 1 13)),(13,aX (bQ 10) (encL 3 fJ w.fMachines)),(14,aX (bQ 11) (bT (lQ w.fMachines))),(15,aX (bQ 12) (.bp 1 29)),(16,aX (bQ 13) (vi w.fNow)),(17,aX (bQ 14) (bT (qN w.fFaults w.fNow 0 (lQ w.fMachines)))),(18,aX (bQ 15) (.bp 1 21)),(19,aX (bQ 16) (encL 4 fI w.fPossessions)),(20,aX (bQ 17) (.bp 1 0)),(21,aX (bQ 18) (.bp 1 1)),(22,aX (bQ 19) (encL 1 eS w.fLayout.fSections)),(23,aX (bQ 20) (vi (w.fLayout.fSections.length:Nat))),(24,aX (bQ 21) (cL (fR w.fLayout.fSections.length (m9 w.fPossessions) 24))),(25,aX (bQ 22) (.bp 1 16)),(26,aX (bQ 23) (.bp 1 16)),(27,aX (bQ 24) (encL 14 jP w.fCenter.fTracks)),(28,aX (bQ 25) (.bp 1 6)),(29,aX (bQ 26) (.bp 1 6)),(30,aX (bQ 27) (encL 14 bR w.fTable.fRoutes)),(31,aX (bQ 28) (vi (w.fTable.fRoutes.length:Nat))),(32,aX (bQ 29) (cL (fR w.fTable.fRoutes.length (w.fCenter.fTracks.flatMap fun x=>x.fRoutes) 48))),(33,aX (bQ 30) (.bp 1 16)),(34,aX (bQ 31) (.bp 1 16)),(35,aX (bQ 32) (encL 14 jP w.fCenter.fTracks)),(36,aX (bQ 33) (.bp 1 6)),(37,aX (bQ 34) (.bp 1 6)),(38,aX (bQ 35) (encL 14 bR w.fTable.fRoutes)),(39,aX (bQ 36) (vi (w.fTable.fRoutes.length:Nat))),(40,aX (bQ 37) (cL (fR w.fTable.fRoutes.length (w.fCenter.fTracks.flatMap fun x=>x.fDone) 48))),(41,aX (bQ 38) (.agg [cL (sQ w.fFaults w.fNow 0 (mE w)),bT (qN w.fFaults w.fNow 0 (lQ w.fMachines)),cL (fR w.fLayout.fSections.length (m9 w.fPossessions) 24),cL (fR w.fTable.fRoutes.length (w.fCenter.fTracks.flatMap fun x=>x.fRoutes) 48),cL (fR w.fTable.fRoutes.length (w.fCenter.fTracks.flatMap fun x=>x.fDone) 48),.v (.slice none 0 0),.v (.slice none 0 0)])),(2,jB (bQ 39) true (.bx [cL (sQ w.fFaults w.fNow 0 (mE w)),bT (qN w.fFaults w.fNow 0 (lQ w.fMachines)),cL (fR w.fLayout.fSections.length (m9 w.fPossessions) 24),cL (fR w.fTable.fRoutes.length (w.fCenter.fTracks.flatMap fun x=>x.fRoutes) 48),cL (fR w.fTable.fRoutes.length (w.fCenter.fTracks.flatMap fun x=>x.fDone) 48),.v (.slice none 0 0),.v (.slice none 0 0)]) (.bx [.v (.slice none 0 0),.v (.slice none 0 0),.v (.slice none 0 0),.v (.slice none 0 0),.v (.slice none 0 0),.v (.slice none 0 0),.v (.slice none 0 0)]))]) (fun iQ hiQ oQ hoQ bQ hbQ KQ hKQ=>?_) ?_
 ·match iQ,hiQ with
  |0,_|1,_|2,_|4,_|5,_|7,_|8,_|9,_|10,_|12,_|13,_|15,_|16,_|17,_|18,_|19,_|20,_|22,_|23,_|24,_|25,_|26,_|27,_|28,_|30,_|31,_|32,_|33,_|34,_|35,_|36,_|38,_|39,_=>
   exact mkp hoQ hbQ hKQ
  |3,_=>
   exact mkc hoQ hbQ hKQ (mV _ w hf hes)
  |6,_=>
   exact mkc hoQ hbQ hKQ (tY _ w.fFaults (mE w) w.fNow aN aN)
  |11,_=>
   exact mkc hoQ hbQ hKQ (vG _ w.fMachines aN)
  |14,_=>
   exact mkc hoQ hbQ hKQ (xE _ w.fFaults (lQ w.fMachines) w.fNow aN aN)
  |21,_=>
   exact mkc hoQ hbQ hKQ (q9 _ w.fPossessions w.fLayout.fSections.length aN aN)
  |29,_=>
   exact mkc hoQ hbQ hKQ (uK _ w.fCenter.fTracks w.fTable.fRoutes.length aN aN hr1)
  |37,_=>
   exact mkc hoQ hbQ hKQ (xX _ w.fCenter.fTracks w.fTable.fRoutes.length aN aN hr2)
 refine stz ?_;refine Z1 _ (aG ?_);refine lZ 2 64 rfl (by simp (config := { maxSteps := 2000000 }) (disch:=omega) only[go_sem,seval]) (by simp (config := { maxSteps := 2000000 }) (disch:=omega) only[go_sem,seval]<;>(rfl)) (by simp (config := { maxSteps := 2000000 }) (disch:=omega) only[go_sem,seval]) (by simp (config := { maxSteps := 2000000 }) (disch:=omega) only[go_sem,seval])
set_option maxRecDepth 20000 in
theorem zO (O:aV) (w:bS) (hf:xH w):bB Tryz.prog O 13 [.agg (dM w)] (.agg [cL (sQ w.fFaults w.fNow 0 (mE w)),bT (qN w.fFaults w.fNow 0 (lQ w.fMachines)),cL (fR w.fLayout.fSections.length (m9 w.fPossessions) 24),cL (fR w.fTable.fRoutes.length (w.fCenter.fTracks.flatMap fun x=>x.fRoutes) 48),cL (fR w.fTable.fRoutes.length (w.fCenter.fTracks.flatMap fun x=>x.fDone) 48),.v (.slice none 0 0),.v (.slice none 0 0)]):=by
 obtain ⟨f1,f2,f3,f4,f5,f6,f7,f8,f9,f10,f11,f12,f13,f14,f15,f16,f17,f18,f19⟩:=id hf;obtain ⟨fl,_⟩:=id f19;have hol:=aBg w;have hdl:=aMh w.fMachines;have hr1: ∀i,i<w.fCenter.fTracks.length→(w.fCenter.fTracks.getD i default).fRoutes.length≤1000:=fun i hi=>by have:=(f18 i hi).1;omega
 have hr2: ∀i,i<w.fCenter.fTracks.length→(w.fCenter.fTracks.getD i default).fDone.length≤1000:=fun i hi=>by have:=(f18 i hi).2;omega
 refine dD Tryz.func13 ?_;refine aB [0] ?_;refine aB [1,2] ?_;refine aA fun _ Z2=>sZ 34 [1,2,3] [1,3,8,9,10,11,12,13,14,15,16,17,18,19,20,21,22,23,24,25,26,27,28,29,30,31,32,33,34,35,36,37,38,39,40,2] [] [] [[],[0],[],[2],[],[4],[0,1,2,3,4,5],[],[7],[],[9],[0,1,2,3,4,5,6,9,10],[],[12],[0,1,2,3,4,5,6,7,8,9,10,11,12,13],[],[15],[],[17],[17,18],[17,18,19],[0,1,2,3,4,5,6,7,8,9,10,11,12,13,14,15,16,17,18,19,20],[],[22],[22,23],[],[0,1,2,3,4,5,6,7,8,9,10,11,12,13,14,15,16,17,18,19,20,21,22,23,24,25],[],[27],[27,28],[],[0,1,2,3,4,5,6,7,8,9,10,11,12,13,14,15,16,17,18,19,20,21,22,23,24,25,26,27,28,29,30],[0,1,2,3,4,5,6,7,8,9,10,11,12,13,14,15,16,17,18,19,20,21,22,23,24,25,26,27,28,29,30,31],[0,1,2,3,4,5,6,7,8,9,10,11,12,13,14,15,16,17,18,19,20,21,22,23,24,25,26,27,28,29,30,31,32]] [[33],[33],[33],[33],[33],[33],[33],[33],[33],[33],[33],[33],[33],[33],[33],[33],[33],[33],[33],[33],[33],[33],[33],[33],[33],[33],[33],[33],[33],[33],[33],[33],[33],[]] (fun bQ=>cO O [(1,.bx (dM w)),(3,vi (w.fTable.fRoutes.length:Nat)),(8,aX (bQ 0) (.bp 1 19)),(9,aX (bQ 1) (encL 3 i6 w.fFaults)),(10,aX (bQ 2) (.agg (dM w))),(11,aX (bQ 3) (cL (mE w))),(12,aX (bQ 4) (.bp 1 29)),(13,aX (bQ 5) (vi w.fNow)),(14,aX (bQ 6) (cL (sQ w.fFaults w.fNow 0 (mE w)))),(15,aX (bQ 7) (.bp 1 19)),(16,aX (bQ 8) (encL 3 i6 w.fFaults)),(17,aX (bQ 9) (.bp 1 13)),(18,aX (bQ 10) (encL 3 fJ w.fMachines)),(19,aX (bQ 11) (bT (lQ w.fMachines))),(20,aX (bQ 12) (.bp 1 29)),(21,aX (bQ 13) (vi w.fNow)),(22,aX (bQ 14) (bT (qN w.fFaults w.fNow 0 (lQ w.fMachines)))),(23,aX (bQ 15) (.bp 1 21)),(24,aX (bQ 16) (encL 4 fI w.fPossessions)),(25,aX (bQ 17) (.bp 1 0)),(26,aX (bQ 18) (.bp 1 1)),(27,aX (bQ 19) (encL 1 eS w.fLayout.fSections)),(28,aX (bQ 20) (vi (w.fLayout.fSections.length:Nat))),(29,aX (bQ 21) (cL (fR w.fLayout.fSections.length (m9 w.fPossessions) 24))),(30,aX (bQ 22) (.bp 1 16)),(31,aX (bQ 23) (.bp 1 16)),(32,aX (bQ 24) (encL 14 jP w.fCenter.fTracks)),(33,aX (bQ 25) (vi (w.fTable.fRoutes.length:Nat))),(34,aX (bQ 26) (cL (fR w.fTable.fRoutes.length (w.fCenter.fTracks.flatMap fun x=>x.fRoutes) 48))),(35,aX (bQ 27) (.bp 1 16)),(36,aX (bQ 28) (.bp 1 16)),(37,aX (bQ 29) (encL 14 jP w.fCenter.fTracks)),(38,aX (bQ 30) (vi (w.fTable.fRoutes.length:Nat))),(39,aX (bQ 31) (cL (fR w.fTable.fRoutes.length (w.fCenter.fTracks.flatMap fun x=>x.fDone) 48))),(40,aX (bQ 32) (.agg [cL (sQ w.fFaults w.fNow 0 (mE w)),bT (qN w.fFaults w.fNow 0 (lQ w.fMachines)),cL (fR w.fLayout.fSections.length (m9 w.fPossessions) 24),cL (fR w.fTable.fRoutes.length (w.fCenter.fTracks.flatMap fun x=>x.fRoutes) 48),cL (fR w.fTable.fRoutes.length (w.fCenter.fTracks.flatMap fun x=>x.fDone) 48),.v (.slice none 0 0),.v (.slice none 0 0)])),(2,jB (bQ 33) true (.bx [cL (sQ w.fFaults w.fNow 0 (mE w)),bT (qN w.fFaults w.fNow 0 (lQ w.fMachines)),cL (fR w.fLayout.fSections.length (m9 w.fPossessions) 24),cL (fR w.fTable.fRoutes.length (w.fCenter.fTracks.flatMap fun x=>x.fRoutes) 48),cL (fR w.fTable.fRoutes.length (w.fCenter.fTracks.flatMap fun x=>x.fDone) 48),.v (.slice none 0 0),.v (.slice none 0 0)]) (.bx [.v (.slice none 0 0),.v (.slice none 0 0),.v (.slice none 0 0),.v (.slice none 0 0),.v (.slice none 0 0),.v (.slice none 0 0),.v (.slice none 0 0)]))]) (fun iQ hiQ oQ hoQ bQ hbQ KQ hKQ=>?_) ?_
 ·match iQ,hiQ with
  |0,_|1,_|2,_|4,_|5,_|7,_|8,_|9,_|10,_|12,_|13,_|15,_|16,_|17,_|18,_|19,_|20,_|22,_|23,_|24,_|25,_|27,_|28,_|29,_|30,_|32,_|33,_=>
   exact mkp hoQ hbQ hKQ
  |3,_=>
   exact mkc hoQ hbQ hKQ (mO _ w hf)
  |6,_=>
   exact mkc hoQ hbQ hKQ (vU _ w.fFaults (mE w) w.fNow aN aN)
  |11,_=>
   exact mkc hoQ hbQ hKQ (vJ _ w.fMachines aN)
  |14,_=>
   exact mkc hoQ hbQ hKQ (zC _ w.fFaults (lQ w.fMachines) w.fNow aN aN)
  |21,_=>
   exact mkc hoQ hbQ hKQ (zM _ w.fPossessions w.fLayout.fSections.length aN aN)
  |26,_=>
   exact mkc hoQ hbQ hKQ (w8 _ w.fCenter.fTracks w.fTable.fRoutes.length aN aN)
  |31,_=>
   exact mkc hoQ hbQ hKQ (zG _ w.fCenter.fTracks w.fTable.fRoutes.length aN aN)
 refine stz ?_;refine Z2 _ (aG ?_);refine lZ 2 64 rfl (by simp (config := { maxSteps := 2000000 }) (disch:=omega) only[go_sem,seval]) (by simp (config := { maxSteps := 2000000 }) (disch:=omega) only[go_sem,seval]<;>(rfl)) (by simp (config := { maxSteps := 2000000 }) (disch:=omega) only[go_sem,seval]) (by simp (config := { maxSteps := 2000000 }) (disch:=omega) only[go_sem,seval])
theorem qQ (O:aV) (w:bS) (x:Int) (hk:oN w) (hal: ∀O,bB Tryz.prog O 6 [] (vb true)):bB Tryz.prog O 3 [.agg (dM w),vi x] (vb true):=by
 refine dD Tryz.func3 ?_;refine aB [0,1] ?_;refine aA fun _ Z1=>aA fun _ Z2=>bL [1,2] ?_;refine fF (aJm _ w hk) ?_;refine i0 (fun g0=>aBb _ w hk (bTc hk (by simpa using g0))) ?_;refine Z2 _ (aL (fun c0=>?_) fun c0=>?_)
 ·refine aA fun _ Z3=>bL [] ?_;refine fF (hal _) ?_;refine Z3 _ (aG (bU 4 ?_));exact xd
 refine aC (Z1 _ (aA fun _ Z4=>?_));have hfz:pA w=true∧aDp w=0:=(by simpa using c0);have hf:=bTc hk hfz.1;have hes:=(rE (bPk hfz.2)).2.1;have hol:=aBg w;obtain ⟨fl,_⟩:=id hf.ly;refine dE [1,2] [(5,18),(6,20)] ?_;refine w4 (mV _ w hf hes) ?_;refine w4 (mO _ w hf) ?_;refine Z4 _ (aA fun _ Z5=>aA fun _ Z6=>dE [1,2,5,6] [] ?_);refine i0 (fun g1=>aEu _ w x) ?_;refine i0 (fun g2=>aFf _ w x hf) ?_;refine Z6 _ (aL (fun c1=>?_) fun c1=>?_)
 ·refine aB [] ?_;refine aG (bU 4 (xb ?_))
  (exact absurd c1 b7)
 refine aC (Z5 _ (aA fun _ Z8=>aB [2,5,6] ?_));refine aD (aT [2,5,6,36,37] (fun n ρ=> ∃i,n=(mE w).length-i∧(i≤(mE w).length)∧ρ=cO O [(2,.bx (dM w)),(5,cL (mE w)),(6,cL (mE w)),(36,vi ((mE w).length:Nat)),(37,vi (i:Nat))]) _ ⟨0,rfl,?_,?_⟩ ?_)
 ·exact bE
 ·exact b9
 rintro n ρ ⟨i,rfl,l0_0,rfl⟩ _ Z10;refine aB [2,5,6,36,37] ?_;refine aA fun _ Z12=>aL (fun c2=>?_) fun c2=>?_
 ·refine aC (Z12 _ (aA fun _ Z13=>aD (aB [2,5,6,36,37] ?_)));refine aA fun _ Z15=>dE [2,5,6,7,36,37] [] ?_;refine Z15 _ (aL (fun c3=>?_) fun c3=>?_)
  ·refine aB [] ?_;refine aG (bU 4 (xb ?_))
   (exact absurd c3 b7)
  refine aC (Z13 _ (bA [2,5,6,36,37] ?_));refine Z10 _ _ bE ⟨i+1,rfl,bE,b9⟩
 refine aY (Z8 _ (aA fun _ Z17=>dE [2] [] ?_));refine w4 (zS _ w hf hes) ?_;refine w4 (zO _ w hf) ?_;refine w4 (oY [.agg (vD (bHw w)),.agg (vD (bHw w))] (.cons (cF.aggL (.cons (cF.refl _) (.cons (cF.refl _) (.cons (cF.refl _) (.cons (cF.refl _) (.cons (cF.refl _) (.cons (cF.nilL _) (.cons (cF.nilL _) .nil)))))))) (.cons (cF.aggL (.cons (cF.refl _) (.cons (cF.refl _) (.cons (cF.refl _) (.cons (cF.refl _) (.cons (cF.refl _) (.cons (cF.nilL _) (.cons (cF.nilL _) .nil)))))))) .nil)) (sP _ (bHw w) (bHw w))) ?_;refine i0 (fun g3=>hal _) ?_;refine Z17 _ (aG (bU 4 (xb ?_)))
 (rw[bIv])
end Go.Sg
namespace Go.Rv
open Go.RowKit Go.Sg
noncomputable section
abbrev noI:Nat→Prop:=fun _=>False
def toD1:RV→DV
 | .bool b=>.v (.bool b)
 | .int k n=>.v (.int k n)
 | .str s=>.v (.string s)
 |_=>.any
def toD:RV→DV
 | .agg cs=>.agg (cs.map toD1)
 |v=>toD1 v
section
variable {E:dX} {w:World}
theorem Rr.toD1 {v:RV} {x:Value} (h:Rr E v x):bN w noI cU (Rv.toD1 v) x:=by
 cases h<;>first|exact .v _ _|exact .any _ _
theorem Rr.toD {v:RV} {x:Value} (h:Rr E v x):bN w noI cU (Rv.toD v) x:=by
 cases h with
 |agg cs vs hl hone hrel=>
  refine .agg _ _ vs (by rw[cAr];exact hl) hone fun j d u hd hu=>?_;rw[cDj,cBa] at hd;obtain ⟨d0,hd0,rfl⟩:=hd;exact (hrel j d0 u hd0 hu).toD1
 |_=>first|exact .v _ _|exact .any _ _
end
def ofD:DV→Option RV
 | .v (.bool b)=>some (.bool b)
 | .v (.int k n)=>some (.int k n)
 | .v (.string s)=>some (.str s)
 |_=>none
theorem aAs {E:dX} {w:World} {d:DV} {v:RV} {x:Value} (h:ofD d=some v) (hr:bN w noI cU d x):Rr E v x:=by
 unfold ofD at h;split at h<;>cases h<;>cases hr
 ·exact .bool _
 ·exact .int _ _
 exact .str _
def aWx (op:BinOp) (k:IntKind) (a:Int) (k':IntKind) (b:Int):Option RV:=
 match op with
 | .add=>bif decide (k=k') then some (.int k (k.wrap (a+b))) else none
 | .sub=>bif decide (k=k') then some (.int k (k.wrap (a-b))) else none
 | .mul=>bif decide (k=k') then some (.int k (k.wrap (a*b))) else none
 | .quo=>bif decide (k=k')&& !decide (b=0) then some (.int k (k.wrap (a.tdiv b))) else none
 | .rem=>bif decide (k=k')&& !decide (b=0) then some (.int k (a.tmod b)) else none
 | .and=>bif decide (k=k') then some (.int k (k.wrap (BitVec.ofInt k.bits a&&&BitVec.ofInt k.bits b).toNat)) else none
 | .or=>bif decide (k=k') then some (.int k (k.wrap (BitVec.ofInt k.bits a|||BitVec.ofInt k.bits b).toNat)) else none
 | .xor=>bif decide (k=k') then some (.int k (k.wrap (BitVec.ofInt k.bits a^^^BitVec.ofInt k.bits b).toNat)) else none
 | .andNot=>bif decide (k=k') then some (.int k (k.wrap (BitVec.ofInt k.bits a&&& ~~~ BitVec.ofInt k.bits b).toNat)) else none
 | .shl=>bif decide (0≤b) then some (.int k (k.wrap (a*2^(min b.toNat k.bits)))) else none
 | .shr=>bif decide (0≤b) then some (.int k (a.fdiv (2^(min b.toNat k.bits)))) else none
 | .eql=>bif decide (k=k') then some (.bool (a==b)) else none
 | .neq=>bif decide (k=k') then some (.bool (a !=b)) else none
 | .lss=>bif decide (k=k') then some (.bool (decide (a<b))) else none
 | .leq=>bif decide (k=k') then some (.bool (decide (a≤b))) else none
 | .gtr=>bif decide (k=k') then some (.bool (decide (b<a))) else none
 | .geq=>bif decide (k=k') then some (.bool (decide (b≤a))) else none
theorem bV {α:Type} {c:Bool} {x y:α} (h:(bif c then some x else none)=some y):c=true∧x=y:=by
 cases c with
 |true=>exact ⟨rfl,bZr h⟩
 |false=>cases h
theorem bY {α:Type} {c:Bool} {x:Option α} {y:α} (h:(bif c then x else none)=some y):c=true∧x=some y:=by
 cases c with
 |true=>exact ⟨rfl,h⟩
 |false=>cases h
theorem aYp {op:BinOp} {k k':IntKind} {a b:Int} {v:RV} (h:aWx op k a k' b=some v):(aLi op k a k' b).1∧ofD (aLi op k a k' b).2=some v:=by
 cases op<;>(unfold aWx at h;obtain ⟨h1,rfl⟩:=bV h;simp at h1;simp only[aLi,ofD,bZk];exact h1)
def aWj (op:BinOp) (a b:ByteArray):Option RV:=
 match op with
 | .add=>bif decide (a.size+b.size≤maxLen) then some (.str (a++b)) else none
 | .eql=>some (.bool (a.toList==b.toList))
 | .neq=>some (.bool !(a.toList==b.toList))
 | .lss=>some (.bool (Op.bytesLess a.toList b.toList))
 | .leq=>some (.bool (Op.bytesLess a.toList b.toList||a.toList==b.toList))
 | .gtr=>some (.bool !(Op.bytesLess a.toList b.toList||a.toList==b.toList))
 | .geq=>some (.bool !(Op.bytesLess a.toList b.toList))
 |_=>none
theorem bDj {op:BinOp} {a b:ByteArray} {v:RV} (h:aWj op a b=some v):(aNy op a b).1∧ofD (aNy op a b).2=some v:=by
 cases op<;>unfold aWj at h<;>first
  |(cases h;done)
  |(cases h;exact ⟨trivial,rfl⟩)
  |(obtain ⟨h1,rfl⟩:=bV h;simp at h1;exact ⟨h1,rfl⟩)
def eqR:List Nat→List RV→List RV→Option Bool
 | [],[],[]=>some true
 |1::ks,.int k a::cs,.int k' b::ds=>bif decide (k=k') then (eqR ks cs ds).map fun r=>(a==b)&&r else none
 |2::ks,.bool a::cs,.bool b::ds=>(eqR ks cs ds).map fun r=>(a==b)&&r
 |3::ks,.str a::cs,.str b::ds=>(eqR ks cs ds).map fun r=>(a==b)&&r
 |_,_,_=>none
theorem bDa: ∀{ks:List Nat} {cs ds:List RV} {r:Bool},eqR ks cs ds=some r→(eqL ks (cs.map toD1) (ds.map toD1)).1∧(eqL ks (cs.map toD1) (ds.map toD1)).2=r:=by
 intro ks cs ds
 fun_induction eqR ks cs ds with
 |case1=>intro r h;cases h;exact ⟨trivial,rfl⟩
 |case2 ks k a cs k' b ds hk ih=>
  intro r h;rw[cBa] at h;obtain ⟨q,hq,rfl⟩:=h;obtain ⟨i1,i2⟩:=ih hq;simp only[cEb,toD1,eqL];exact ⟨⟨cFq hk,i1⟩,by rw[i2]⟩
 |case3=>intro r h;cases h
 |case4 ks a cs b ds ih=>
  intro r h;rw[cBa] at h;obtain ⟨q,hq,rfl⟩:=h;obtain ⟨i1,i2⟩:=ih hq;simp only[cEb,toD1,eqL];exact ⟨i1,by rw[i2]⟩
 |case5 ks a cs b ds ih=>
  intro r h;rw[cBa] at h;obtain ⟨q,hq,rfl⟩:=h;obtain ⟨i1,i2⟩:=ih hq;simp only[cEb,toD1,eqL];exact ⟨i1,by rw[i2]⟩
 |case6=>intro r h;cases h
def bEv (P:Program) (t:TypeId) (op:BinOp) (x y:RV):Option RV:=
 match x,y with
 | .int k a,.int k' b=>aWx op k a k' b
 | .str a,.str b=>aWj op a b
 | .bool a,.bool b=>bif tk P t==3 then (match op with
  | .eql=>some (.bool (a==b))
  | .neq=>some (.bool !(a==b))
  |_=>none) else none
 | .agg cs,.agg ds=>match qR P t with
  |some ks=>(match op with
   | .eql=>(eqR ks cs ds).map .bool
   | .neq=>(eqR ks cs ds).map fun b=>.bool !b
   |_=>none)
  |none=>none
 |_,_=>none
theorem bEw {P:Program} {t:TypeId} {op:BinOp} {x y:RV} {v:RV} (h:bEv P t op x y=some v):(aCz (qR P t) (tk P t) op (toD x) (toD y)).1∧ofD (aCz (qR P t) (tk P t) op (toD x) (toD y)).2=some v:=by
 unfold bEv at h;split at h
 ·exact aYp h
 ·exact bDj h
 ·obtain ⟨h1,h2⟩:=bY h;have h1:tk P t=3:=by simpa using h1
  cases op<;>first|(cases h2;done)|(cases h2;exact ⟨h1,rfl⟩)
 ·rename_i cs ds;simp only[toD,aCz];split at h
  ·rename_i ks hks;rw[hks];split at h
   ·rw[cBa] at h;obtain ⟨r,hr,rfl⟩:=h;obtain ⟨i1,i2⟩:=bDa hr;exact ⟨i1,by simp only[aOm,i2];rfl⟩
   ·rw[cBa] at h;obtain ⟨r,hr,rfl⟩:=h;obtain ⟨i1,i2⟩:=bDa hr;exact ⟨i1,by simp only[aOm,i2];rfl⟩
   cases h
  cases h
 cases h
def aQj (P:Program) (t:TypeId) (x y:RV):Option Bool:=
 match P.underlying t,x,y with
 |some (.slice _),.nils,.nils=>some true
 |some (.slice _),.sl ..,.nils=>some false
 |some (.slice _),.nils,.sl .. =>some false
 |some (.pointer _),.nilp,.nilp=>some true
 |some (.pointer _),.ptr ..,.nilp=>some false
 |some (.pointer _),.nilp,.ptr .. =>some false
 |some (.map _ _),.nilm,.nilm=>some true
 |some (.map _ _),.mp ..,.nilm=>some false
 |some (.map _ _),.nilm,.mp .. =>some false
 |some (.func _ _ _),.nilf,.nilf=>some true
 |some (.func _ _ _),.fn ..,.nilf=>some false
 |some (.func _ _ _),.nilf,.fn .. =>some false
 |_,_,_=>none
def bMu (P:Program) (t:TypeId) (op:BinOp) (x y:RV):Option RV:=
 match op with
 | .eql=>(aQj P t x y).map .bool
 | .neq=>(aQj P t x y).map fun b=>.bool !b
 |_=>none
theorem aLy {P:Program} {E:dX} {w:World} {t:TypeId} {x y:RV} {u v:Value} {b:Bool} (hx:Rr E x u) (hy:Rr E y v) (h:aQj P t x y=some b):(Op.equal t u v).run P w=.ok b w∧(∀op xo yo,eqGuard op t xo yo u v=(pure ():Sem Unit))∧binOp .eql t u v=(do pure (.bool (← Op.equal t u v)))∧binOp .neq t u v=(do pure (.bool (!(← Op.equal t u v)))):=by
 have e:Op.equal t u v=Op.equalIn (9999+1) t u v:=rfl;rw[e];unfold aQj at h;split at h<;>try cases h
 all_goals
  rename_i hu;cases hx;cases hy;refine ⟨?_,fun op xo yo=>by cases op<;>rfl,rfl,rfl⟩;unfold Op.equalIn;simp[run_underlying hu]
theorem bAh {P:Program} {E:dX} {w:World} {t:TypeId} {op:BinOp} {x y:RV} {u v:Value} {r:RV} (hx:Rr E x u) (hy:Rr E y v) (h:bMu P t op x y=some r) (xo yo:Operand): ∃q,(eqGuard op t xo yo u v>>=fun _=>binOp op t u v).run P w=.ok q w∧Rr E r q:=by
 unfold bMu at h;split at h
 ·rw[cBa] at h;obtain ⟨b,hb,rfl⟩:=h;obtain ⟨h1,h2,h3,_⟩:=aLy (w:=w) hx hy hb;exact ⟨.bool b,by rw[h2,h3];simp[h1],.bool _⟩
 ·rw[cBa] at h;obtain ⟨b,hb,rfl⟩:=h;obtain ⟨h1,h2,_,h3⟩:=aLy (w:=w) hx hy hb;exact ⟨.bool !b,by rw[h2,h3];simp[h1],.bool _⟩
 cases h
def cv1:Value→RV
 | .bool b=>.bool b
 | .int k n=>.int k n
 | .string s=>.str s
 | .pointer none=>.nilp
 | .slice none 0 0=>.nils
 | .map none=>.nilm
 | .nilFunc=>.nilf
 | .nilIface=>.nili
 |_=>.und
def cvR:Value→RV
 | .agg cs=>.agg (cs.toList.map cv1)
 |v=>cv1 v
theorem wF (E:dX) (x:Value):Rr E (cv1 x) x:=by
 unfold cv1;split<;>first|exact .bool _|exact .int _ _|exact .str _|exact .nilp|exact .nils|exact .nilm|exact .nilf|exact .nili|exact .und _
theorem bLe (E:dX) (x:Value) (hx: ∀cs,x≠ .agg cs):Rr E (cvR x) x:=by
 have:=wF E x;cases x<;>first|exact this|exact absurd rfl (hx _)
def eN (t:Tr RV):Operand→RV
 | .tmp i=>(t.get i).getD .nov
 | .const v=>cvR v
 | .global g=>.gp g 0
 | .func f=>.fn f [] []
section
variable {P:Program} {nt:Nat} {E:dX} {t:Tr RV} {a:Act} {w:World} {h:Hp} {n m:Nat}
theorem bAd (o:Operand) (ho:iE nt o=true) (hs: ∀i,o=.tmp i→Rr E ((t.get i).getD .nov) (a.tmps.getD i undef)):Rr E (eN t o) (a.eval o):=by
 cases o with
 |tmp i=>exact hs i rfl
 |const v=>
  by_cases hv: ∃cs,v=.agg cs
  ·obtain ⟨cs,rfl⟩:=hv;have ho:cs.toList.all (·.oneCell')=true:=ho;rw[cCk] at ho;refine Rr.agg _ cs b7 ho fun j d u hd hu=>?_;rw[cDj,cBa] at hd;obtain ⟨y,hy,rfl⟩:=hd;rw[cAg,hu] at hy;cases hy;exact wF E u
  exact bLe E v fun cs h=>hv ⟨cs,h⟩
 |global g=>exact .gp g 0
 |func f=>exact .fn f [] [] #[] #[] rfl rfl b7 b7
theorem SS.opd (hs:SS nt E t a) (o:Operand) (ho:iE nt o=true):Rr E (eN t o) (a.eval o):=bAd o ho fun i hi=>hs.slot i (by subst hi;simpa[iE] using ho)
def bFf (ld:Option Nat) (off:Nat) (cs:List RV):Option RV:=
 match ld with
 |none=>cs[off]?
 |some k=>bif decide (off+k≤cs.length) then some (.agg ((cs.drop off).take k)) else none
def bEm:RV→Option (Nat×Nat)
 | .ptr b off=>some (b,off)
 | .gp g off=>bif decide (g<NG) then some (g,off) else none
 |_=>none
theorem bHm {x:RV} {b off:Nat} (hp:bEm x=some (b,off)) {hs:HS E h n m w} (hb:h b≠none) {u:Value} (hx:Rr E x u): ∃g s,E b=some (g,s)∧u=.pointer (some ⟨g,off,none⟩):=by
 unfold bEm at hp;split at hp<;>try cases hp
 ·cases hx with
  |ptr _ _ g s hE=>exact ⟨g,s,hE,rfl⟩
 obtain ⟨h1,h2⟩:=bV hp;cases h2;cases hx;obtain ⟨s,hE⟩:=hs.glob _ (cFq h1) hb;exact ⟨_,s,hE,rfl⟩
def tA (P:Program) (h:Hp) (t:TypeId) (x:RV):Option RV:=
 match bEm x with
 |some (b,off)=>match h b with
  |some (.cells _ cs)=>(match cW P t with
   |some ld=>bFf ld off cs
   |none=>none)
  |_=>none
 |none=>none
theorem aGb (hs:HS E h n m w) {t:TypeId} {x:RV} {u:Value} (hx:Rr E x u) {v:RV} (hl:tA P h t x=some v): ∃y,(Instr.loadAt t u).run P w=.ok y w∧Rr E v y:=by
 unfold tA at hl;split at hl<;>try cases hl
 rename_i b off hpt;split at hl<;>try cases hl
 rename_i e cs hb;split at hl<;>try cases hl
 rename_i ld hld;obtain ⟨g,s,hE,us,hg,hsz,hlen,hrel⟩:=hs.blk b _ hb;obtain ⟨g',s',hE',rfl⟩:=bHm hpt (hs:=hs) (by rw[hb];simp) hx;rw[hE] at hE';cases hE';unfold bFf at hl;unfold cW at hld;have hcell: ∀j,j<cs.length→w.cell? ⟨g,j,none⟩=some (us.getD j undef):=fun j hj=>by
  unfold World.cell?;simp only[hg];simp[cAt (show j<us.size by omega)]
 cases ld with
 |none=>
  simp only at hl;have hlt:off<cs.length:=by
   rcases cBd off cs.length with h|h
   ·exact h
   rw[cAw h] at hl;cases hl
  refine ⟨us.getD off undef,?_,(hrel off v _ hl (by simp[cAt (show off<us.size by omega)])).2⟩;have h2:=hcell off hlt;split at hld<;>simp at hld;rename_i i d n1 n2 hi hu
  cases d<;>first
   |exact absurd rfl (n1 _)
   |exact absurd rfl (n2 _ _)
   |simp[Instr.loadAt,Instr.sureAddr,loadVar,isAgg,run_underlying hu,h2]
 |some k=>
  obtain ⟨h1,rfl⟩:=bV hl;have h1:off+k≤cs.length:=cFq h1;have key:(loadCells ⟨g,off,none⟩ k).run P w=.ok ((List.range k).map fun j=>us.getD (off+j) undef).toArray w:=
   run_loadCells w _ k (fun j=>us.getD (off+j) undef) fun j hj=>by
    rw[Addr.add_lit];exact hcell (off+j) aN
  refine ⟨.agg ((List.range k).map fun j=>us.getD (off+j) undef).toArray,?_,?_⟩
  ·split at hld<;>simp at hld
   ·rename_i i fs hi hu;subst hld;simp[Instr.loadAt,Instr.sureAddr,loadVar,isAgg,run_underlying hu,run_sizeOf w hi,Program.cellsOf,hi,key]
   rename_i i m' e' hi hu;subst hld;simp[Instr.loadAt,Instr.sureAddr,loadVar,isAgg,run_underlying hu,run_sizeOf w hi,Program.cellsOf,hi,key]
  have hkl:((cs.drop off).take k).length=k:=by simp;omega
  refine .agg _ _ (by simp;omega) (fun u hu=>?_) fun j d u hd hu=>?_
  ·simp at hu;obtain ⟨j,hj,rfl⟩:=hu;rw[cAt (show off+j<us.size by omega)];exact (hrel (off+j) _ _ (cEn aN) (cAt (show off+j<us.size by omega))).1
  have hj:j<k:=by
   rcases cBd j k with h|h
   ·exact h
   rw[cAw aN] at hd;cases hd
  rw[cEl,if_pos hj,cCg] at hd;simp only[cEu,cDj,cBs hj,cBj,cAx] at hu;subst hu;exact (hrel _ d _ hd (by simp[cAt (show off+j<us.size by omega)])).2
def bOs (P:Program) (s f:Nat) (x:RV):Option RV:=
 match x with
 | .ptr b off=>(bG P s f).map fun o=>.ptr b (off+o)
 | .gp b off=>(bG P s f).map fun o=>.gp b (off+o)
 |_=>none
theorem bAz {s f:Nat} {x:RV} {u:Value} (hx:Rr E x u) {v:RV} (h:bOs P s f x=some v): ∃y,(Instr.fieldAt s u f).run P w=.ok y w∧Rr E v y:=by
 unfold bOs at h;split at h<;>try cases h
 rename_i b off;rw[cBa] at h;obtain ⟨o,ho,rfl⟩:=h;cases hx with
 |ptr _ _ g s' hE=>
  obtain ⟨y,h1,h2⟩:=qH (P:=P) (w:=w) (I:=noI) (A:=fun i=>if i=0 then some (some g,0) else none) (s:=s) (f:=f) (d:=.bp 0 off) (.bp _ 0 off g 0 b7) (by rw[ho];exact trivial);rw[ho] at h2;simp only[aOn] at h2;generalize hA:(fun i=>if i=0 then some (some g,0) else none:cY)=A at h2;cases h2 with
  |bp _ _ _ g2 c2 h2=>
   subst hA;simp at h2;obtain ⟨rfl,_⟩:=h2;exact ⟨_,h1,.ptr b _ g s' hE⟩
 rename_i g off;rw[cBa] at h;obtain ⟨o,ho,rfl⟩:=h;cases hx with
 |gp _ _=>
  obtain ⟨y,h1,h2⟩:=qH (P:=P) (w:=w) (I:=noI) (A:=fun i=>if i=0 then some (some g,0) else none) (s:=s) (f:=f) (d:=.bp 0 off) (.bp _ 0 off g 0 b7) (by rw[ho];exact trivial);rw[ho] at h2;simp only[aOn] at h2;generalize hA:(fun i=>if i=0 then some (some g,0) else none:cY)=A at h2;cases h2 with
  |bp _ _ _ g2 c2 h2=>
   subst hA;simp at h2;obtain ⟨rfl,_⟩:=h2;exact ⟨_,h1,.gp _ _⟩
def bOz (P:Program) (t:TypeId) (x i:RV):Option RV:=
 match x,i with
 | .sl b off len _ _ _,.int _ k=>(match d4 P t with
  |some (none,z)=>bif decide (0≤k)&&decide (k.toNat<len) then some (.ptr b (off+k.toNat*z)) else none
  |_=>none)
 | .ptr b off,.int _ k=>(match d4 P t with
  |some (some l,z)=>bif decide (0≤k)&&decide (k.toNat<l) then some (.ptr b (off+k.toNat*z)) else none
  |_=>none)
 | .gp b off,.int _ k=>(match d4 P t with
  |some (some l,z)=>bif decide (0≤k)&&decide (k.toNat<l) then some (.gp b (off+k.toNat*z)) else none
  |_=>none)
 |_,_=>none
theorem bCo {t:TypeId} {x i:RV} {u q:Value} (hx:Rr E x u) (hi:Rr E i q) {v:RV} (h:bOz P t x i=some v): ∃y,(Instr.indexAt t u q).run P w=.ok y w∧Rr E v y:=by
 unfold bOz at h;split at h
 ·rename_i b off len z0 cap full kk k;split at h<;>try cases h
  rename_i z hel;obtain ⟨h1,rfl⟩:=bV h;simp only[bZi,cFp] at h1;cases hi;cases hx with
  |sl _ _ _ _ _ _ g s c hE hl hm hs' hf hc=>
   unfold d4 at hel;split at hel<;>simp at hel;rename_i e' hu;obtain ⟨i,hi,hz⟩:=hel;refine ⟨_,?_,.ptr b _ g s hE⟩;simp[Instr.indexAt,asIntOf,run_underlying hu,h1.1,(show k<(len:Int) by omega),run_sizeOf w hi,Program.cellsOf,hi,hz,Addr.add_lit]
 ·rename_i b off kk k;split at h<;>try cases h
  rename_i l z hel;obtain ⟨h1,rfl⟩:=bV h;simp only[bZi,cFp] at h1;cases hi;cases hx with
  |ptr _ _ g s hE=>
   unfold d4 at hel;split at hel<;>simp at hel;rename_i m' e' hu;obtain ⟨i,hi,rfl,hz⟩:=hel;refine ⟨_,?_,.ptr b _ g s hE⟩;simp[Instr.indexAt,Instr.sureAddr,asIntOf,run_underlying hu,h1.1,(show k<(m':Int) by omega),run_sizeOf w hi,Program.cellsOf,hi,hz,Addr.add_lit]
 ·rename_i b off kk k;split at h<;>try cases h
  rename_i l z hel;obtain ⟨h1,rfl⟩:=bV h;simp only[bZi,cFp] at h1;cases hi;cases hx with
  |gp _ _=>
   unfold d4 at hel;split at hel<;>simp at hel;rename_i m' e' hu;obtain ⟨i,hi,rfl,hz⟩:=hel;refine ⟨_,?_,.gp b _⟩;simp[Instr.indexAt,Instr.sureAddr,asIntOf,run_underlying hu,h1.1,(show k<(m':Int) by omega),run_sizeOf w hi,Program.cellsOf,hi,hz,Addr.add_lit]
 cases h
def atA (P:Program) (t:TypeId) (cs:List RV) (k:Int):Option RV:=
 match P.underlying t with
 |some (.array n e)=>(match P.info? e,aFj P 40 e,P.underlying e with
  |some i,some a,some d=>bif decide (0≤k)&&decide (k.toNat<n)&&decide (i.size=a.length)&&decide (k.toNat*i.size+a.length≤cs.length) then
    (match d with
    | .struct _=>some (.agg ((cs.drop (k.toNat*i.size)).take a.length))
    |_=>bif decide (a.length=1) then cs[k.toNat*i.size]? else none) else none
  |_,_,_=>none)
 |_=>none
theorem bIz {t:TypeId} {cs:List RV} {u:Value} {kk:IntKind} {k:Int} (hx:Rr E (.agg cs) u) {v:RV} (h:atA P t cs k=some v): ∃y,(Instr.index t u (.int kk k)).run P w=.ok y w∧Rr E v y:=by
 unfold atA at h;split at h<;>try cases h
 rename_i n e hu;split at h<;>try cases h
 rename_i i a d hi ha hd;obtain ⟨h1,h2⟩:=bY h;simp only[bZi,cFp] at h1;obtain ⟨⟨⟨q1,q2⟩,q3⟩,q4⟩:=h1;cases hx with
 |agg _ vs hl hone hrel=>
  have hp:=p8 (P:=P) (w:=w) (X:=vs) (off:=k.toNat*i.size) ha hi q3 aN;refine ⟨_,by simp[Instr.index,asIntOf,run_underlying hu,q1,show k<(n:Int) by omega,run_sizeOf w hi,Program.cellsOf,hi];exact hp,?_⟩;have hat: ∀j,j<a.length→((vs.toList.drop (k.toNat*i.size)).take a.length)[j]?=vs[k.toNat*i.size+j]?:=fun j hj=>by
   rw[cEl,if_pos hj,cCg,cAg]
  split at h2
  ·rename_i fs;cases h2;unfold vOf;rw[hd];refine .agg _ _ (by simp;omega) (fun x hx=>hone x ?_) fun j d' u' hd' hu'=>?_
   ·exact cCn (cDo (by simpa using hx))
   have hj:j<a.length:=by
    have:=(cBz.1 hd').1;simp at this;omega
   rw[cEl,if_pos hj,cCg] at hd';have hu2:((vs.toList.drop (k.toNat*i.size)).take a.length)[j]?=some u':=by simpa using hu'
   rw[hat j hj] at hu2;exact hrel _ d' u' hd' hu2
  rename_i hns;obtain ⟨r1,r2⟩:=bY h2;have r1:=cFq r1;have hvo:vOf P e ((vs.toList.drop (k.toNat*i.size)).take a.length)=((vs.toList.drop (k.toNat*i.size)).take a.length).headD undef:=by
   unfold vOf;rw[hd];split
   ·rename_i fs he;cases he;exact absurd rfl (hns fs)
   rfl
  rw[hvo];have hlt:k.toNat*i.size<vs.size:=by omega
  have h0:=hat 0 aN;rw[cAh,cAt hlt] at h0;have:((vs.toList.drop (k.toNat*i.size)).take a.length).headD undef=vs[k.toNat*i.size]:=by
   cases hq:(vs.toList.drop (k.toNat*i.size)).take a.length with
   |nil=>rw[hq] at h0;cases h0
   |cons x l=>rw[hq] at h0;exact bZr h0
  rw[this];exact hrel _ v _ r2 (cAt hlt)
def atR (P:Program) (t:TypeId) (x i:RV):Option RV:=
 match x,i with
 | .agg cs,.int _ k=>atA P t cs k
 | .str s,.int _ k=>bif (tk P t==1)&&decide (0≤k)&&decide (k<s.size) then some (.int .u8 (s.data.getD k.toNat 0).toNat) else none
 |_,_=>none
theorem bFr {t:TypeId} {x i:RV} {u q:Value} (hx:Rr E x u) (hi:Rr E i q) {v:RV} (h:atR P t x i=some v): ∃y,(Instr.index t u q).run P w=.ok y w∧Rr E v y:=by
 unfold atR at h;split at h<;>try cases h
 ·rename_i cs kk k;cases hi;exact bIz hx h
 rename_i s kk k;obtain ⟨h1,rfl⟩:=bV h;simp only[bZi,cFp,cCe] at h1;obtain ⟨y,h2,h3⟩:=aTo (P:=P) (w:=w) (I:=noI) (A:=cU) (t:=t) (el:=none) (ld:=none) (d:=.v (.string s)) (e:=.v (.int kk k)) (u:=u) (v:=q) (by cases hx;exact .v _ _) (by cases hi;exact .v _ _) ⟨h1.1.1,h1.1.2,h1.2⟩;exact ⟨y,h2,aAs (d:=.v (.int .u8 (s.data.getD k.toNat 0).toNat)) rfl h3⟩
def bdR (o:Option RV) (d:Nat):Option Nat:=match o with
 |none=>some d
 |some (.int _ k)=>bif decide (0≤k) then some k.toNat else none
 |some _=>none
theorem kW {o:Option RV} {ov:Option Value} {d l:Nat} (h:bdR o d=some l) (ho: ∀e,o=some e→ ∃v,ov=some v∧Rr E e v) (hn:o=none→ov=none):bnd ov l d:=by
 unfold bdR at h;split at h
 ·cases h;exact .inl ⟨hn rfl,rfl⟩
 ·rename_i k i;obtain ⟨h1,rfl⟩:=bV h;obtain ⟨v,rfl,hv⟩:=ho _ rfl;cases hv;exact .inr ⟨_,_,rfl,cFq h1,rfl⟩
 cases h
def bNb (P:Program) (t:TypeId) (x:RV) (lo hi:Option RV):Option RV:=
 match x with
 | .str s=>(match bdR lo 0,bdR hi s.size with
  |some l,some h=>bif (tk P t==1)&&decide (l≤h)&&decide (h≤s.size) then some (.str (s.extract l h)) else none
  |_,_=>none)
 | .sl b off len z cap full=>(match d4 P t,bdR lo 0,bdR hi len with
  |some (none,z'),some l,some h=>bif decide (z'=z)&&decide (l≤h) then
    (bif decide (l<len)&&decide (h≤len) then some (.sl b (off+l*z) (h-l) z (cap.map (· - l)) full)
     else match cap with
     |some c=>bif decide (l<c)&&decide (h≤c) then some (.sl b (off+l*z) (h-l) z (some (c-l)) full) else bif decide (l=h)&&decide (h≤c) then some .em else none
     |none=>bif decide (l=h)&&decide (h≤len) then some .em else none) else none
  |_,_,_=>none)
 | .nils=>(match d4 P t,bdR lo 0,bdR hi 0 with
  |some (none,_),some 0,some 0=>some .nils
  |_,_,_=>none)
 | .em=>(match d4 P t,bdR lo 0,bdR hi 0 with
  |some (none,_),some 0,some 0=>some .em
  |_,_,_=>none)
 |_=>none
theorem aWk {t:TypeId} {x:RV} {u:Value} {lo hi:Option RV} {lv hv:Option Value} (hx:Rr E x u) (hlo: ∀e,lo=some e→ ∃v,lv=some v∧Rr E e v) (hlo':lo=none→lv=none)
  (hhi: ∀e,hi=some e→ ∃v,hv=some v∧Rr E e v) (hhi':hi=none→hv=none) {v:RV} (h:bNb P t x lo hi=some v): ∃y,(Instr.sliceAt t u lv hv none).run P w=.ok y w∧Rr E v y:=by
 have key: ∀{z:Nat},d4 P t=some (none,z)→ ∀(b:Option Addr) (len c l h:Nat),bnd lv l 0→bnd hv h len→l≤h→h≤c→
   (Instr.sliceAt t (.slice b len c) lv hv none).run P w=.ok (.slice (if c=l then b else b.map (·.add (l*z))) (h-l) (c-l)) w:=fun {z} hel b len c l h h1 h2 h3 h4=>by
  unfold d4 at hel;split at hel<;>simp at hel;rename_i e hu';obtain ⟨i,hi,hz⟩:=hel;simp[Instr.sliceAt,Instr.slice,run_underlying hu',jU (P:=P) (w:=w) (sl:=true) h1 h2 h3 h4,run_sizeOf w hi,Program.cellsOf,hi,hz]
 unfold bNb at h;split at h
 ·rename_i s;split at h<;>try cases h
  rename_i l hh e1 e2;obtain ⟨h1,rfl⟩:=bV h;simp only[bZi,cFp,cCe] at h1;cases hx;exact ⟨_,mR h1.1.1 (kW e1 hlo hlo') (kW e2 hhi hhi') h1.1.2 h1.2,.str _⟩
 ·rename_i b off len z cap full;split at h<;>try cases h
  rename_i z' l hh hel e1 e2;obtain ⟨h1,h2⟩:=bY h;simp only[bZi,cFp] at h1;obtain ⟨rfl,h1⟩:=h1;cases hx with
  |sl _ _ _ _ _ _ g s c hE hl hm hs' hf hc=>
   have mk: ∀(cap':Option Nat),l<c→hh≤c→(∀k,cap'=some k→c-l=k)→ ∃y,(Instr.sliceAt t (.slice (some ⟨g,off,none⟩) len c) lv hv none).run P w=.ok y w∧Rr E (.sl b (off+l*z') (hh-l) z' cap' full) y:=fun cap' h3 h4 h5=>by
    refine ⟨_,key hel _ len c l hh (kW e1 hlo hlo') (kW e2 hhi hhi') h1 h4,?_⟩;rw[if_neg aN];simp only[cBj,Addr.add_lit];have hmul:l*z'+(c-l)*z'=c*z':=by rw[← cCp];congr 1;omega
    exact .sl b _ _ z' cap' full g s (c-l) hE aN aN aN (fun hft=>by have:=hf hft;omega) h5
   have me:l=hh→hh≤c→ ∃y,(Instr.sliceAt t (.slice (some ⟨g,off,none⟩) len c) lv hv none).run P w=.ok y w∧Rr E .em y:=fun h3 h4=>by
    refine ⟨_,key hel _ len c l hh (kW e1 hlo hlo') (kW e2 hhi hhi') h1 h4,?_⟩;subst h3;rw[Nat.sub_self];exact .em _ _
   cases hcd:decide (l<len)&&decide (hh≤len) with
   |true=>
    rw[hcd] at h2;simp only[bZi,cFp] at hcd;obtain rfl:=bZr h2;refine mk _ aN aN fun k hk=>?_;rw[cBa] at hk;obtain ⟨k',hk',rfl⟩:=hk;rw[hc k' hk']
   |false=>
    rw[hcd] at h2;simp only[cDq] at h2;split at h2
    ·rename_i c';have hcc:=hc c' rfl;subst hcc;cases hcd2:decide (l<c)&&decide (hh≤c) with
     |true=>
      rw[hcd2] at h2;simp only[bZi,cFp] at hcd2;obtain rfl:=bZr h2;exact mk _ hcd2.1 hcd2.2 fun k hk=>by cases hk;rfl
     |false=>
      rw[hcd2] at h2;simp only[cDq] at h2;obtain ⟨h3,rfl⟩:=bV h2;simp only[bZi,cFp] at h3;exact me h3.1 h3.2
    obtain ⟨h3,rfl⟩:=bV h2;simp only[bZi,cFp] at h3;exact me h3.1 aN
 ·split at h<;>try cases h
  rename_i z hel e1 e2;cases hx;refine ⟨_,key hel none 0 0 0 0 (kW e1 hlo hlo') (kW e2 hhi hhi') (cCq _) (cCq _),?_⟩;simp only[if_pos,Nat.sub_zero];exact .nils
 ·split at h<;>try cases h
  rename_i z hel e1 e2;cases hx with
  |em b c=>
   refine ⟨_,key hel b 0 c 0 0 (kW e1 hlo hlo') (kW e2 hhi hhi') (cCq _) (bZt _),?_⟩;simp only[Nat.sub_zero];exact .em _ _
 cases h
def bMe (P:Program) (h:Hp) (t:TypeId) (x:RV) (lo hi:Option RV):Option RV:=
 match x with
 | .ptr b off=>(match h b,d4 P t with
  |some (.cells _ cs),some (some k,z)=>(match bdR lo 0,bdR hi k with
   |some l,some h=>bif decide (l≤h)&&(decide (h≤k)&&(decide (l<k)&&(decide (off+k*z≤cs.length)&&decide (k≤maxLen)))) then some (.sl b (off+l*z) (h-l) z (some (k-l)) false) else none
   |_,_=>none)
  |_,_=>none)
 |_=>none
theorem aZe (hs:HS E h n m w) {t:TypeId} {x:RV} {u:Value} {lo hi:Option RV} {lv hv:Option Value} (hx:Rr E x u) (hlo: ∀e,lo=some e→ ∃v,lv=some v∧Rr E e v) (hlo':lo=none→lv=none)
  (hhi: ∀e,hi=some e→ ∃v,hv=some v∧Rr E e v) (hhi':hi=none→hv=none) {v:RV} (hr:bMe P h t x lo hi=some v): ∃y,(Instr.sliceAt t u lv hv none).run P w=.ok y w∧Rr E v y:=by
 unfold bMe at hr;split at hr<;>try cases hr
 rename_i b off;split at hr<;>try cases hr
 rename_i e cs k z hb hel;split at hr<;>try cases hr
 rename_i l hh e1 e2;obtain ⟨h1,rfl⟩:=bV hr;simp only[bZi,cFp] at h1;obtain ⟨h1,h2,h3,h4,h5⟩:=h1;obtain ⟨g,s,hE,us,hg,hus,hlen,hrel⟩:=hs.blk b _ hb;cases hx with
 |ptr _ _ g2 s2 hE2=>
  rw[hE] at hE2;cases hE2;unfold d4 at hel;split at hel<;>simp at hel;rename_i k' e' hu;obtain ⟨i,hi,rfl,hz⟩:=hel;refine ⟨.slice (some ⟨g,off+l*z,none⟩) (hh-l) (k'-l),?_,?_⟩
  ·simp[Instr.sliceAt,Instr.sureAddr,run_underlying hu,jU (P:=P) (w:=w) (sl:=false) (kW e1 hlo hlo') (kW e2 hhi hhi') h1 h2,run_sizeOf w hi,Program.cellsOf,hi,hz,show ¬k'=l by omega,Addr.add_lit]
  have hmul:l*z+(k'-l)*z=k'*z:=by rw[← cCp];congr 1;omega
  exact .sl b _ _ z _ false g s (k'-l) hE aN aN aN (fun h=>by cases h) (fun q hq=>by cases hq;rfl)
def bMv (P:Program) (h:Hp) (t:TypeId) (x:RV):Option RV:=
 match x with
 | .str s=>bif tk P t==1 then some (.int .i64 s.size) else none
 | .sl _ _ n _ _ _=>bif tk P t==2 then some (.int .i64 n) else none
 | .nils=>bif tk P t==2 then some (.int .i64 0) else none
 | .em=>bif tk P t==2 then some (.int .i64 0) else none
 |_=>none
theorem aYn {t ty:TypeId} {x:RV} {u:Value} (hx:Rr E x u) {v:RV} (hl:bMv P h t x=some v): ∃y,(Builtin.len_ #[t] ty #[u]).run P w=.ok y w∧Rr E v y:=by
 unfold bMv at hl;split at hl<;>try cases hl
 all_goals
  obtain ⟨h1,rfl⟩:=bV hl;have h1:=eq_of_beq h1
 ·cases hx;exact ⟨_,by simp[Builtin.len_,run_underlying (nO h1)];rfl,.int _ _⟩
 ·obtain ⟨e,he⟩:=jG h1;cases hx;exact ⟨_,by simp[Builtin.len_,run_underlying he];rfl,.int _ _⟩
 ·obtain ⟨e,he⟩:=jG h1;cases hx;exact ⟨_,by simp[Builtin.len_,run_underlying he];rfl,.int _ _⟩
 obtain ⟨e,he⟩:=jG h1;cases hx;exact ⟨_,by simp[Builtin.len_,run_underlying he];rfl,.int _ _⟩
def bPj (P:Program) (t:TypeId) (x:RV):Option RV:=
 match x with
 | .sl _ _ _ _ (some c) _=>bif tk P t==2 then some (.int .i64 c) else none
 | .nils=>bif tk P t==2 then some (.int .i64 0) else none
 |_=>none
theorem aYi {t ty:TypeId} {x:RV} {u:Value} (hx:Rr E x u) {v:RV} (hl:bPj P t x=some v): ∃y,(Builtin.cap_ #[t] ty #[u]).run P w=.ok y w∧Rr E v y:=by
 unfold bPj at hl;split at hl<;>try cases hl
 all_goals
  obtain ⟨h1,rfl⟩:=bV hl;have h1:=eq_of_beq h1;obtain ⟨e,he⟩:=jG h1
 ·cases hx with
  |sl _ _ _ _ _ _ g s c hE hl hm hs hf hc=>
   obtain rfl:=hc _ rfl;exact ⟨_,by simp[Builtin.cap_,run_underlying he];rfl,.int _ _⟩
 cases hx;exact ⟨_,by simp[Builtin.cap_,run_underlying he];rfl,.int _ _⟩
def aZp:RV→Option Value
 | .bool b=>some (.bool b)
 | .int k n=>some (.int k n)
 | .str s=>some (.string s)
 |_=>none
def bFs:List RV→Option (List Value)
 | []=>some []
 |c::cs=>(match aZp c,bFs cs with
  |some a,some l=>some (a::l)
  |_,_=>none)
def bCs:RV→Option Value
 | .agg cs=>(match bFs cs with
  |some l=>some (.agg l.toArray)
  |none=>none)
 |v=>aZp v
theorem aKg {d:RV} {x v:Value} (h:aZp d=some v) (hr:Rr E d x):x=v:=by
 cases d<;>cases h<;>cases hr<;>rfl
theorem aTl: ∀{cs:List RV} {l vs:List Value},bFs cs=some l→cs.length=vs.length→(∀(j:Nat) (d:RV) (u:Value),cs[j]?=some d→vs[j]?=some u→Rr E d u)→vs=l
 | [],l,vs,h,hl,hr=>by cases h;exact cEj hl.symm
 |c::cs,l,[],h,hl,hr=>by simp at hl
 |c::cs,l,v::vs,h,hl,hr=>by
  unfold bFs at h;split at h<;>cases h;rename_i a l' h1 h2;have e2:=aTl (vs:=vs) h2 (by simpa using hl) fun j d u hd hu=>hr (j+1) d u (by simpa using hd) (by simpa using hu);rw[aKg h1 (hr 0 c v rfl rfl),e2]
theorem aHy {d:RV} {x v:Value} (h:bCs d=some v) (hr:Rr E d x):x=v:=by
 unfold bCs at h;split at h
 ·split at h<;>cases h;rename_i cs l hl;cases hr with
  |agg _ vs hl2 hone hrel=>
   have:=aTl (E:=E) (vs:=vs.toList) hl (by simpa using hl2) fun j d u hd hu=>hrel j d u hd (by simpa using hu);congr 1;apply cCh;simpa using this
 exact aKg h hr
def bGg (h:Hp):RV→Option (List (Value×RV×Nat))
 | .nilm=>some []
 | .mp b=>(match h b with
  |some (.map es _)=>some es
  |_=>none)
 |_=>none
def zvR:Value→Option RV
 | .agg cs=>bif cs.toList.all (·.oneCell') then some (.agg (cs.toList.map cv1)) else none
 |v=>some (cv1 v)
theorem bQu (E:dX) {z:Value} {d:RV} (h:zvR z=some d):Rr E d z:=by
 unfold zvR at h;split at h
 ·rename_i cs;obtain ⟨h1,rfl⟩:=bV h;refine .agg _ _ b7 (fun u hu=>cCk.1 h1 u hu) fun j d u hd hu=>?_;rw[cDj,cAg,hu] at hd;cases hd;exact wF E u
 cases h;exact wF E z
def aYw (P:Program) (h:Hp) (t:TypeId) (x k:RV) (ok:Bool):Option RV:=
 match P.underlying t with
 |some (.map kt e)=>(match bGg h x,bCs k with
  |some es,some kv=>(match aKk P kt kv es with
   |some (some (_,d,_))=>some (bif ok then .tup [d,.bool true] else d)
   |some none=>(match P.info? e with
    |some i=>(match i.zero with
     |some z=>(match zvR z with
      |some d=>some (bif ok then .tup [d,.bool false] else d)
      |none=>none)
     |none=>none)
    |none=>none)
   |none=>none)
  |_,_=>none)
 |_=>none
theorem aVd (hs:HS E h n m w) {t:TypeId} {x k:RV} {ok:Bool} {u q:Value} (hx:Rr E x u) (hk:Rr E k q) {v:RV} (hl:aYw P h t x k ok=some v): ∃y,(Instr.lookup t u q ok).run P w=.ok y w∧Rr E v y:=by
 unfold aYw at hl;split at hl<;>try cases hl
 rename_i kt e hu;split at hl<;>try cases hl
 rename_i es kv hent hkv;obtain rfl:=aHy hkv hk;obtain ⟨vs,hvs,hget⟩: ∃vs:List MapEntry,ER E es vs∧((u=.map none∧vs=[])∨ ∃r cl,u=.map (some r)∧w.heap[r]?=some (.map vs.toArray cl)):=by
  unfold bGg at hent;split at hent<;>try cases hent
  ·cases hx;exact ⟨[],⟨rfl,fun j e m he=>by simp at he⟩,.inl ⟨rfl,rfl⟩⟩
  split at hent<;>cases hent;rename_i b es' cl hb;cases hx with
  |mp _ g s hE=>
   obtain ⟨g2,s2,hE2,vs,h1,h2,h3⟩:=hs.blk b _ hb;rw[hE] at hE2;cases hE2;exact ⟨vs,⟨h2,h3⟩,.inr ⟨_,_,rfl,h1⟩⟩
 have pairOk: ∀{d:RV} {y:Value} {b:Bool},Rr E d y→Rr E (bif ok then .tup [d,.bool b] else d) (if ok then .tuple #[y,.bool b] else y):=fun {d y b} hd=>by
  cases ok with
  |false=>exact hd
  |true=>
   refine .tup _ _ rfl fun j d' u' h1 h2=>?_;rcases j with _|_|j
   ·simp at h1 h2;subst h1;subst h2;exact hd
   ·simp at h1 h2;subst h1;subst h2;exact .bool _
   simp at h1
 split at hl
 ·rename_i j d c hf;cases hl;obtain ⟨c1,c2,mm,c3,c4,c5,c6,c7⟩:=wA hf hvs w;refine ⟨_,?_,pairOk c6⟩;rcases hget with ⟨rfl,rfl⟩|⟨r,cl,rfl,hg⟩
  ·simp at c4
  simp[Instr.lookup,run_underlying hu,MapKept.run_getObj_map hg,c1,c3]
 ·rename_i hf;split at hl<;>try cases hl
  rename_i i hi;split at hl<;>try cases hl
  rename_i z hz;split at hl<;>try cases hl
  rename_i d hd;obtain ⟨c1,c2,c3⟩:=wA hf hvs w;refine ⟨_,?_,pairOk (bQu E hd)⟩;rcases hget with ⟨rfl,rfl⟩|⟨r,cl,rfl,hg⟩
  ·simp[Instr.lookup,run_underlying hu,c1,c3,zeroValue,typeInfo,hi,hz]
  simp[Instr.lookup,run_underlying hu,MapKept.run_getObj_map hg,c1,c3,zeroValue,typeInfo,hi,hz]
 cases hl
def aZb (P:Program) (h:Hp) (t:TypeId) (x:RV):Option RV:=
 match P.underlying t with
 |some (.map _ _)=>(match bGg h x with
  |some es=>some (.int .i64 es.length)
  |none=>none)
 |_=>none
theorem aVy (hs:HS E h n m w) {t ty:TypeId} {x:RV} {u:Value} (hx:Rr E x u) {v:RV} (hl:aZb P h t x=some v): ∃y,(Builtin.len_ #[t] ty #[u]).run P w=.ok y w∧Rr E v y:=by
 unfold aZb at hl;split at hl<;>try cases hl
 rename_i kt e hu;split at hl<;>cases hl;rename_i es hent;unfold bGg at hent;split at hent<;>try cases hent
 ·cases hx;exact ⟨_,by simp[Builtin.len_,run_underlying hu];rfl,.int _ _⟩
 split at hent<;>cases hent;rename_i b _ cl hb;cases hx with
 |mp _ g s hE=>
  obtain ⟨g2,s2,hE2,vs,h1,h2,h3⟩:=hs.blk b _ hb;rw[hE] at hE2;cases hE2;exact ⟨goInt vs.length,by simp[Builtin.len_,run_underlying hu,MapKept.run_getObj_map h1],by rw[h2];exact .int _ _⟩
def gW (want:Bool):RV→Option Bool
 | .bool b=>some (b==want)
 | .nov=>some false
 |_=>none
def puR (P:Program) (t:Tr RV) (h:Hp) (op:Op):Option RV:=
 match op with
 | .move x=>some (eN t x)
 | .assign x=>some (eN t x)
 | .pick c x y=>(match eN t c with
  | .bool b=>some (bif b then eN t x else eN t y)
  |_=>none)
 | .load ty x=>tA P h ty (eN t x)
 | .nilCheck x=>(match eN t x with
  | .ptr b o=>some (.ptr b o)
  | .gp b o=>some (.gp b o)
  | .yl b=>some (.yl b)
  | .fn f a b=>some (.fn f a b)
  |_=>none)
 | .binOp op ty x y _=>(match bEv P ty op (eN t x) (eN t y) with
  |some v=>some v
  |none=>bMu P ty op (eN t x) (eN t y))
 | .unOp op _ x=>(match op,eN t x with
  | .not,.bool b=>some (.bool !b)
  | .neg,.int k n=>some (.int k (k.wrap (0-n)))
  |_,_=>none)
 | .convert s ty x=>(match aMt P ty,eN t x with
  |some k,.int _ n=>bif (P.underlying s).isSome then some (.int k (k.wrap n)) else none
  |_,_=>none)
 | .fieldAddr s x f=>bOs P s f (eN t x)
 | .indexAddr ty x i=>bOz P ty (eN t x) (eN t i)
 | .index ty x i=>atR P ty (eN t x) (eN t i)
 | .slice ty x lo hi none=>(match bMe P h ty (eN t x) (lo.map (eN t)) (hi.map (eN t)) with
  |some v=>some v
  |none=>bNb P ty (eN t x) (lo.map (eN t)) (hi.map (eN t)))
 | .lookup ty x k ok=>aYw P h ty (eN t x) (eN t k) ok
 | .extract x i=>(match eN t x with
  | .tup cs=>cs[i]?
  |_=>none)
 | .makeFunc (.func f) first captured=>some (.fn f (first.toList.map (eN t)) (captured.toList.map (eN t)))
 | .call ⟨.builtin b,args,ts⟩=>(match b,args.toList,ts.toList with
  | .len,[x],[ty]=>(match bMv P h ty (eN t x) with
   |some v=>some v
   |none=>aZb P h ty (eN t x))
  | .cap,[x],[ty]=>bPj P ty (eN t x)
  | .max,[x,y],_=>(match eN t x,eN t y with
   | .int k p,.int k' q=>bif decide (k=k') then some (.int k (if q>p then q else p)) else none
   |_,_=>none)
  | .min,[x,y],_=>(match eN t x,eN t y with
   | .int k p,.int k' q=>bif decide (k=k') then some (.int k (if q<p then q else p)) else none
   |_,_=>none)
  |_,_,_=>none)
 |_=>none
def mY (E:dX) (t:Tr RV) (a:Act) (o:Oper):Prop:= ∀x∈o.op.operands,Rr E (eN t x) (a.eval x)
theorem SS.opds (hs:SS nt E t a) {o:Oper} (hok:dP nt o=true):mY E t a o:=fun x hx=>hs.opd x (bO hok hx)
theorem aZc (hh:HS E h n m w) (o:Oper) (hop:mY E t a o) {v:RV} (hv:puR P t h o.op=some v):
  ∃y,(execOp a.eval o).run P w=.ok (.value y) w∧Rr E v y:=by
 unfold mY at hop;cases ho:o.op with
 |move x=>
  rw[ho] at hv hop;cases hv;exact ⟨a.eval x,by simp[execOp,ho],hop x (by simp[Op.operands])⟩
 |assign x=>
  rw[ho] at hv hop;cases hv;exact ⟨a.eval x,by simp[execOp,ho],hop x (by simp[Op.operands])⟩
 |pick c x y=>
  rw[ho] at hv hop;have hc:=hop c (by simp[Op.operands]);have hx:=hop x (by simp[Op.operands]);have hy:=hop y (by simp[Op.operands]);simp only[puR] at hv;split at hv<;>try cases hv
  rename_i b hb;rw[hb] at hc;generalize hq:a.eval c=q at hc;cases hc;cases b with
  |true=>exact ⟨a.eval x,by simp[execOp,ho,hq,asBool],hx⟩
  |false=>exact ⟨a.eval y,by simp[execOp,ho,hq,asBool],hy⟩
 |load ty x=>
  rw[ho] at hv hop;obtain ⟨y,h1,h2⟩:=aGb hh (hop x (by simp[Op.operands])) hv;exact ⟨y,by simp[execOp,ho,h1],h2⟩
 |nilCheck x=>
  rw[ho] at hv hop;have hx:=hop x (by simp[Op.operands]);simp only[puR] at hv;unfold execOp;simp only[ho];generalize a.eval x=u at*;split at hv<;>try cases hv
  ·rename_i b off hb;rw[hb] at hx;cases hx with
   |ptr _ _ g s hE=>exact ⟨_,by simp,.ptr _ _ g s hE⟩
  ·rename_i b off hb;rw[hb] at hx;cases hx with
   |gp _ _=>exact ⟨_,by simp,.gp _ _⟩
  ·rename_i b hb;rw[hb] at hx;cases hx with
   |yl _ g s hE=>exact ⟨_,by simp,.yl _ g s hE⟩
  rename_i f fs cs hb;rw[hb] at hx;cases hx with
  |fn _ _ _ us vs hf hc hfr hcr=>exact ⟨_,by simp,.fn _ _ _ us vs hf hc hfr hcr⟩
 |binOp op ty x y t'=>
  rw[ho] at hv hop;simp only[puR] at hv;cases hbr:bEv P ty op (eN t x) (eN t y) with
  |none=>
   rw[hbr] at hv;obtain ⟨r,h3,h4⟩:=bAh (P:=P) (w:=w) (hop x (by simp[Op.operands])) (hop y (by simp[Op.operands])) hv x y;exact ⟨r,by simp only[execOp,ho,Sem.run_bind] at h3 ⊢;rw[h3];rfl,h4⟩
  |some v'=>
  rw[hbr] at hv;obtain rfl:v'=v:=bZr hv;obtain ⟨h1,h2⟩:=bEw hbr;obtain ⟨r,h3,h4⟩:=aLw (P:=P) (w:=w) (I:=noI) (A:=cU) op ty x y (hop x (by simp[Op.operands])).toD (hop y (by simp[Op.operands])).toD h1;exact ⟨r,by simp only[execOp,ho,Sem.run_bind] at h3 ⊢;rw[h3];rfl,aAs h2 h4⟩
 |unOp op ty x=>
  rw[ho] at hv hop;have hx:=hop x (by simp[Op.operands]);simp only[puR] at hv;split at hv<;>try cases hv
  ·rename_i b hb;rw[hb] at hx;generalize hq:a.eval x=q at hx;cases hx;exact ⟨_,by simp[execOp,ho,hq,Op.unary],.bool _⟩
  rename_i k n hb;rw[hb] at hx;generalize hq:a.eval x=q at hx;cases hx;exact ⟨_,by simp[execOp,ho,hq,Op.unary,Op.intArith],.int _ _⟩
 |convert s ty x=>
  rw[ho] at hv hop;have hx:=hop x (by simp[Op.operands]);simp only[puR] at hv;split at hv<;>try cases hv
  rename_i k k' n hk hb;obtain ⟨h1,rfl⟩:=bV hv;rw[hb] at hx;obtain ⟨r,h3,h4⟩:=aGr (P:=P) (w:=w) (I:=noI) (A:=cU) (s:=s) (t:=ty) (d:=.v (.int k' n)) (u:=a.eval x) h1 (hx.toD (w:=w)) (by rw[hk];exact trivial);rw[hk] at h4;exact ⟨r,by simp[execOp,ho,h3],aAs (d:=.v (.int k (k.wrap n))) rfl h4⟩
 |fieldAddr s x f=>
  rw[ho] at hv hop;obtain ⟨y,h1,h2⟩:=bAz (w:=w) (hop x (by simp[Op.operands])) hv;exact ⟨y,by simp[execOp,ho,h1],h2⟩
 |indexAddr ty x i=>
  rw[ho] at hv hop;obtain ⟨y,h1,h2⟩:=bCo (w:=w) (hop x (by simp[Op.operands])) (hop i (by simp[Op.operands])) hv;exact ⟨y,by simp[execOp,ho,h1],h2⟩
 |index ty x i=>
  rw[ho] at hv hop;obtain ⟨y,h1,h2⟩:=bFr (w:=w) (hop x (by simp[Op.operands])) (hop i (by simp[Op.operands])) hv;exact ⟨y,by simp[execOp,ho,h1],h2⟩
 |slice ty x lo hi mx=>
  rw[ho] at hv hop;cases mx with
  |some m=>
   cases hv
  |none=>
   simp only[puR] at hv;split at hv
   ·rename_i v' hsa;cases hv
    obtain ⟨y,h1,h2⟩:=aZe (P:=P) (w:=w) hh (t:=ty) (lo:=lo.map (eN t)) (hi:=hi.map (eN t)) (lv:=lo.map a.eval) (hv:=hi.map a.eval) (hop x (by simp[Op.operands]))
     (fun e he=>by
      obtain ⟨y,hy,rfl⟩:=cBa.1 he;exact ⟨_,by rw[hy];rfl,hop y (by simp[Op.operands,hy])⟩)
     (fun he=>by simpa using he)
     (fun e he=>by
      obtain ⟨y,hy,rfl⟩:=cBa.1 he;exact ⟨_,by rw[hy];rfl,hop y (by simp[Op.operands,hy])⟩)
     (fun he=>by simpa using he) hsa
    exact ⟨y,by simp[execOp,ho,h1],h2⟩
   obtain ⟨y,h1,h2⟩:=aWk (P:=P) (w:=w) (t:=ty) (lo:=lo.map (eN t)) (hi:=hi.map (eN t)) (lv:=lo.map a.eval) (hv:=hi.map a.eval) (hop x (by simp[Op.operands]))
    (fun e he=>by
     obtain ⟨y,hy,rfl⟩:=cBa.1 he;exact ⟨_,by rw[hy];rfl,hop y (by simp[Op.operands,hy])⟩)
    (fun he=>by simpa using he)
    (fun e he=>by
     obtain ⟨y,hy,rfl⟩:=cBa.1 he;exact ⟨_,by rw[hy];rfl,hop y (by simp[Op.operands,hy])⟩)
    (fun he=>by simpa using he) hv
   exact ⟨y,by simp[execOp,ho,h1],h2⟩
 |lookup ty x k ok=>
  rw[ho] at hv hop;obtain ⟨y,h1,h2⟩:=aVd hh (hop x (by simp[Op.operands])) (hop k (by simp[Op.operands])) hv;exact ⟨y,by simp[execOp,ho,h1],h2⟩
 |extract x i=>
  rw[ho] at hv hop;have hx:=hop x (by simp[Op.operands]);simp only[puR] at hv;split at hv<;>try cases hv
  rename_i cs hb;rw[hb] at hx;generalize hq:a.eval x=q at hx;cases hx with
  |tup _ vs hl hrel=>
   have hi:i<cs.length:=by
    rcases cBd i cs.length with h|h
    ·exact h
    rw[cAw h] at hv;cases hv
   have hvs:vs[i]?=some (vs[i]'(by omega)):=cAt aN;exact ⟨vs[i]'(by omega),by simp[execOp,ho,hq,Instr.extract,hvs],hrel i _ _ hv hvs⟩
 |makeFunc fn first captured=>
  rw[ho] at hv hop;cases fn with
  |func f=>
   cases hv;refine ⟨.func (.func f) (first.map a.eval) (captured.map a.eval),by simp[execOp,ho,Instr.makeFunc],?_⟩;refine .fn f _ _ _ _ b7 b7 (fun j d u hd hu=>?_) fun j d u hd hu=>?_
   ·simp only[cDj,cBa,cAg,cDv] at hd hu;obtain ⟨x,hx,rfl⟩:=hd;rw[hx] at hu;simp at hu;subst hu;exact hop x (by simp[Op.operands];exact .inl (cBu hx))
   simp only[cDj,cBa,cAg,cDv] at hd hu;obtain ⟨x,hx,rfl⟩:=hd;rw[hx] at hu;simp at hu;subst hu;exact hop x (by simp[Op.operands];exact .inr (cBu hx))
  |_=>cases hv
 |call c=>
  rw[ho] at hv hop;obtain ⟨callee,args,ts⟩:=c;cases callee with
  |builtin b=>
   simp only[puR] at hv;split at hv
   ·rename_i x ty hargs hts;obtain rfl:args= #[x]:=by apply cCh;simpa using hargs
    obtain rfl:ts= #[ty]:=by apply cCh;simpa using hts
    split at hv
    ·rename_i v' hv';cases hv;obtain ⟨r,h1,h2⟩:=aYn (P:=P) (w:=w) (t:=ty) (ty:=o.type) (hop x (by simp[Op.operands,Call.operands])) hv';exact ⟨r,by simp[execOp,ho,resolve,invoke,builtin,h1],h2⟩
    obtain ⟨r,h1,h2⟩:=aVy (ty:=o.type) hh (hop x (by simp[Op.operands,Call.operands])) hv;exact ⟨r,by simp[execOp,ho,resolve,invoke,builtin,h1],h2⟩
   ·rename_i x ty hargs hts;obtain rfl:args= #[x]:=by apply cCh;simpa using hargs
    obtain rfl:ts= #[ty]:=by apply cCh;simpa using hts
    obtain ⟨r,h1,h2⟩:=aYi (P:=P) (w:=w) (t:=ty) (ty:=o.type) (hop x (by simp[Op.operands,Call.operands])) hv;exact ⟨r,by simp[execOp,ho,resolve,invoke,builtin,h1],h2⟩
   ·rename_i x y hargs;obtain rfl:args= #[x,y]:=by apply cCh;simpa using hargs
    have hx:=hop x (by simp[Op.operands,Call.operands]);have hy:=hop y (by simp[Op.operands,Call.operands]);split at hv<;>try cases hv
    rename_i k p k' q e1 e2;obtain ⟨h1,rfl⟩:=bV hv;rw[e1] at hx;rw[e2] at hy;obtain ⟨r,h2,h3⟩:=aLc (P:=P) (w:=w) (I:=noI) (A:=cU) (ts:=ts) (t:=o.type) (d:=.v (.int k p)) (e:=.v (.int k' q)) (hx.toD (w:=w)) (hy.toD (w:=w)) (show k=k' from cFq h1);exact ⟨r,by simp[execOp,ho,resolve,invoke,builtin,h2],aAs (d:=.v (.int k (if q>p then q else p))) rfl h3⟩
   ·rename_i x y hargs;obtain rfl:args= #[x,y]:=by apply cCh;simpa using hargs
    have hx:=hop x (by simp[Op.operands,Call.operands]);have hy:=hop y (by simp[Op.operands,Call.operands]);split at hv<;>try cases hv
    rename_i k p k' q e1 e2;obtain ⟨h1,rfl⟩:=bV hv;rw[e1] at hx;rw[e2] at hy;obtain ⟨r,h2,h3⟩:=aKz (P:=P) (w:=w) (I:=noI) (A:=cU) (ts:=ts) (t:=o.type) (d:=.v (.int k p)) (e:=.v (.int k' q)) (hx.toD (w:=w)) (hy.toD (w:=w)) (show k=k' from cFq h1);exact ⟨r,by simp[execOp,ho,resolve,invoke,builtin,h2],aAs (d:=.v (.int k (if q<p then q else p))) rfl h3⟩
   cases hv
  |_=>cases hv
 |_=>rw[ho] at hv;cases hv
end
end
end Go.Rv
namespace Go.Rv
open Go.RowKit Go.Sg
noncomputable section
section
variable {P:Program} {E:dX} {h:Hp} {n m:Nat} {w:World} {nt:Nat} {t:Tr RV} {a:Act}
def bQt (P:Program) (ty f:Nat) (x:RV):Option RV:=
 match P.underlying ty,x with
 |some (.struct fs),.agg cs=>(match fs[f]? with
  |some fi=>(match cW P fi.type with
   |some ld=>bFf ld fi.offset cs
   |none=>none)
  |none=>none)
 |_,_=>none
theorem bBy {ty f:Nat} {x:RV} {u:Value} (hx:Rr E x u) {v:RV} (hv:bQt P ty f x=some v): ∃y,(Instr.field ty u f).run P w=.ok y w∧Rr E v y:=by
 unfold bQt at hv;split at hv<;>try cases hv
 rename_i fs cs hu;split at hv<;>try cases hv
 rename_i fi hfi;split at hv<;>try cases hv
 rename_i ld hld;cases hx with
 |agg _ vs hl hone hrel=>
  have hpart: ∀y,(part fi.type vs fi.offset).run P w=.ok y w→(Instr.field ty (.agg vs) f).run P w=.ok y w:=fun y hy=>by
   simp[Instr.field,run_underlying hu,hfi,asAgg,hy]
  unfold bFf at hv;unfold cW at hld;cases ld with
  |none=>
   simp only at hv;have hlt:fi.offset<cs.length:=by
    rcases cBd fi.offset cs.length with h|h
    ·exact h
    rw[cAw h] at hv;cases hv
   have hlt':fi.offset<vs.size:=by omega
   refine ⟨vs[fi.offset],hpart _ ?_,hrel _ _ _ hv (cAt hlt')⟩;split at hld<;>simp at hld;rename_i i d n1 n2 hi hu2
   cases d<;>first
    |exact absurd rfl (n1 _)
    |exact absurd rfl (n2 _ _)
    |simp[part,isAgg,run_underlying hu2,cAt hlt']
  |some k=>
   obtain ⟨h1,rfl⟩:=bV hv;have h1:fi.offset+k≤cs.length:=cFq h1;refine ⟨.agg (vs.extract fi.offset (fi.offset+k)),hpart _ ?_,?_⟩
   ·split at hld<;>simp at hld
    ·rename_i i fs2 hi hu2;subst hld;simp[part,isAgg,run_underlying hu2,run_sizeOf w hi,Program.cellsOf,hi]
    rename_i i m' e' hi hu2;subst hld;simp[part,isAgg,run_underlying hu2,run_sizeOf w hi,Program.cellsOf,hi]
   refine .agg _ _ (by simp;omega) (fun q hq=>hone q ?_) fun j d' u' hd' hu'=>?_
   ·exact cCn (cDo (by simpa using hq))
   have hj:j<k:=by
    rcases cBd j k with h|h
    ·exact h
    rw[cAw (by simp;omega)] at hd';cases hd'
   rw[cEl,if_pos hj,cCg] at hd';rw[Array.getElem?_extract] at hu';split at hu'
   ·exact hrel _ _ _ hd' hu'
   cases hu'
def xtR (P:Program) (t:Tr RV) (op:Op):Option RV:=
 match op with
 | .field ty x f=>bQt P ty f (eN t x)
 |_=>none
theorem bOb (hh:HS E h n m w) (o:Oper) (hop:mY E t a o) {v:RV} (hv:xtR P t o.op=some v):
  ∃y,(execOp a.eval o).run P w=.ok (.value y) w∧Rr E v y:=by
 unfold mY at hop;cases ho:o.op with
 |field ty x f=>
  rw[ho] at hv hop;obtain ⟨y,h1,h2⟩:=bBy (w:=w) (hop x (by simp[Op.operands])) hv;exact ⟨y,by simp[execOp,ho,h1],h2⟩
 |_=>rw[ho] at hv;cases hv
end
end
end Go.Rv
