/- Several texts as one. -/
import Derived.Test.YtdgbckchckaagaaGreatDoorP6
import Derived.Laws.BytesArg
import Derived.Lib.ItoaLen
import Derived.Lib.ItoaMem
set_option linter.unusedSectionVars false
set_option linter.unusedVariables false
set_option linter.unusedSimpArgs false
set_option maxRecDepth 20000
set_option maxHeartbeats 16000000
namespace Go.Sg
open Go.Proofs
theorem aOp {t:bP} {l:List aM} (hp:qC t=true) (h:aOs t l=true): ∀x∈l,0≤plI t x.fEl∧plI t x.fEl<t.fHomes.length:=fun x hx=>by
 obtain ⟨i,hi,rfl⟩:=cAo.1 hx;have h1:=aFx h hi;unfold sgB at h1;have h2:=(cFq h1).1;have e:sN l i=l[i]:=by unfold sN;rw[cFk,cEn hi];rfl
 rw[e] at h2;unfold qC at hp;rw[bZi,cFp] at hp;have h3:=aXx t.fPoints l[i].fEl t.fPoints.length (cCq _);unfold plI at h2 ⊢;omega
theorem bFv {t:bP} (hp:qC t=true):t.fHomes.length=t.fPoints.length:=by
 unfold qC at hp;rw[bZi,cFp] at hp;exact hp.1
theorem bKa {t:bP} {s:dO} (h:ftB t s=true):((chk t=0∧s.fRoutes.length=t.fRoutes.length)∧s.fLies.length=t.fPoints.length)∧ ∀i,i<s.fRoutes.length→aOo t s i=true:=by
 unfold ftB ftA at h;simp only[bZi,cFp] at h;exact ⟨h.1,fun i hi=>aFx h.2.1 hi⟩
theorem bKs {t:bP} {s:dO} (hf:aUl t s) (h:ftB t s=true) {a:Nat} (ha:a<t.fRoutes.length):aFu t s (a:Int):=by
 obtain ⟨⟨⟨h1,h2⟩,h3⟩,h4⟩:=bKa h;obtain ⟨_,k2,_,k4,_,_⟩:=bKf h1;have hr:=hf.rs a ha;have hs:seB t (t.fRoutes.getD a default)=true:=pF k4 ha;unfold seB at hs;simp only[bZi] at hs;have hfit:=h4 a aN;have e1:rtN t (a:Int)=t.fRoutes.getD a default:=rfl;have e2:rsN s (a:Int)=s.fRoutes.getD a default:=rfl;have hsl:(g9 (t.fRoutes.getD a default)).length≤90:=by simp only[g9,cAb];omega
 refine ⟨⟨by omega,by omega,by omega,fun h0=>?_,by rw[e1];omega,by rw[e1];omega⟩,?_,by rw[e1];omega,?_⟩
 ·rw[e1,e2];rw[e2] at h0;exact bHl hfit h0 aN
 ·rw[e1];intro x hx;simp only[g9,cEh] at hx;rcases hx with (hx|hx)|hx
  ·exact aOp k2 hs.1.1 x hx
  ·exact aOp k2 hs.1.2 x hx
  exact aOp k2 hs.2 x hx
 unfold zB;rw[e1];have:=aIr (msS (g9 (t.fRoutes.getD a default))) (msS (g9 (t.fRoutes.getD a default))).length;rw[aIk] at this;unfold eK;rw[aIk];omega
def aUf (t:bP) (s:dO) (x:aM):Bool:=decide (s.fLies.getD (plI t x.fEl).toNat default=x.fPos)
def aWb (t:bP) (s:dO) (a b:Nat):Bool:=decide (a=b)||bHi t s (a:Int) (b:Int)
def aKi (t:bP) (s:dO) (a:Nat):Bool:=(lX t s (a:Int)).all (aUf t s)&&(List.range t.fRoutes.length).all (aWb t s a)
def aVp (t:bP) (s:dO):Bool:=ftB t s&&(List.range t.fRoutes.length).all (aKi t s)
theorem bOl {t:bP} {s:dO} {r:Int} (h:aFu t s r) {i:Nat} (hi:i<(lX t s r).length):0≤plI t ((lX t s r).getD i default).fEl∧plI t ((lX t s r).getD i default).fEl<t.fHomes.length:=by
 have hm:(lX t s r).getD i default∈lX t s r:=by rw[cFk,cEn hi];exact cDh _
 generalize (lX t s r).getD i default=x at hm ⊢;unfold lX at hm;split at hm
 ·cases hm
 exact h.pl _ ((jD _ _).1 (cFh.1 hm).1)
theorem bFe {t:bP} {s:dO} {r:Int} (h:aFu t s r):(lX t s r).length≤240:=by
 unfold lX;split
 ·simp
 exact cBc (cCf _ _) h.al
theorem aDw (O:aV) (t:bP) (s:dO) (hf:aUl t s):bB Tryz.prog O 20 [.agg (bW t),.agg (iT s)] (vb (aVp t s)):=by
 obtain ⟨f1,f2,f3,f4,f5⟩:=id hf;refine dD Tryz.func20 ?_;refine aB [0,1] ?_;refine aA fun _ Z1=>aA fun _ Z2=>bL [2,3] ?_;refine fF (aFb _ t s hf) ?_;refine Z2 _ (aL (fun c0=>?_) fun c0=>?_)
 ·refine aB [] ?_;refine aG (bU 4 (xb ?_))
  (rw[aVp,show ftB t s=false by simpa using c0];rfl)
 refine aC (Z1 _ (aA fun _ Z4=>aA fun _ Z5=>?_));have hft:ftB t s=true:=by simpa using c0
 obtain ⟨⟨⟨hck,hlr⟩,hll⟩,_⟩:=bKa hft;have hpl:=bFv (bKf hck).2.1;refine bA [2,3] ?_;refine Z5 _ (aD (aT [2,3,5] (fun n ρ=> ∃a,n=t.fRoutes.length-a∧(a≤t.fRoutes.length)∧(gK (aKi t s) a)∧ρ=cO O [(2,.bx (bW t)),(3,.bx (iT s)),(5,vi (a:Nat))]) _ ⟨0,rfl,?_,?_,?_⟩ ?_))
 ·exact bE
 ·exact eD _
 ·exact b9
 rintro n ρ ⟨a,rfl,l0_0,l0_1,rfl⟩ _ Z6;refine aA fun _ Z7=>aB [2,3,5] ?_;refine aL (fun c1=>?_) fun c1=>?_
 ·refine aC (Z7 _ (aA fun _ Z9=>aD (aA fun _ Z10=>?_)));have hta:=bKs hf hft c1;have hbl:=bFe hta;refine bL [2,3,5] ?_;refine fF (aCi _ t s (a:Int) hta) ?_;refine Z10 _ (aA fun _ Z11=>aB [2,3,5,6] ?_);refine aD (aT [2,3,5,6,7] (fun n ρ=> ∃i,n=(lX t s (a:Int)).length-i∧(i≤(lX t s (a:Int)).length)∧((lX t s (a:Int)).all (aUf t s)=((lX t s (a:Int)).drop i).all (aUf t s))∧ρ=cO O [(2,.bx (bW t)),(3,.bx (iT s)),(5,vi (a:Nat)),(6,dJ (lX t s (a:Int))),(7,vi (i:Nat))]) _ ⟨0,rfl,?_,?_,?_⟩ ?_)
  ·exact bE
  ·rfl
  ·exact b9
  rintro n ρ ⟨i,rfl,l1_0,l1_1,rfl⟩ _ Z13;refine aA fun _ Z14=>aB [2,3,5,6,7] ?_;refine aL (fun c2=>?_) fun c2=>?_
  ·refine aC (Z14 _ (aA fun _ Z16=>aD (aA fun _ Z17=>?_)));have hbp:=bOl hta c2;refine dE [2,3,5,6,7] [] ?_;refine w4 (l9 _ t ((lX t s (a:Int)).getD i default).fEl) ?_;refine Z17 _ (aL (fun c3=>?_) fun c3=>?_)
   ·refine aB [] ?_;refine aG (bU 4 (xb ?_))
    (rw[aVp,kK c1 (show aKi t s a=false by unfold aKi;rw[l1_1,bK default c2,cCm,show aUf t s ((lX t s (a:Int)).getD i default)=false from cFs c3,cBl,cBl]),cBw])
   refine aC (Z16 _ (bA [2,3,5,6,7] ?_));refine Z13 _ _ bE ⟨i+1,rfl,bE,?_,b9⟩
   ·rw[l1_1,bK default c2,cCm,show aUf t s ((lX t s (a:Int)).getD i default)=true from cFr c3,cDm]
  refine aY (Z11 _ (aB [2,3,5] ?_));refine aD ?_;have hlb:(lX t s (a:Int)).all (aUf t s)=true:=by rw[l1_1,cT c2];rfl
  refine aT [2,3,5,8] (fun n ρ=> ∃b,n=t.fRoutes.length-b∧(b≤t.fRoutes.length)∧(gK (aWb t s a) b)∧ρ=cO O [(2,.bx (bW t)),(3,.bx (iT s)),(5,vi (a:Nat)),(8,vi (b:Nat))]) _ ⟨0,rfl,?_,?_,?_⟩ ?_
  ·exact bE
  ·exact eD _
  ·exact b9
  rintro n ρ ⟨b,rfl,l2_0,l2_1,rfl⟩ _ Z20;refine aA fun _ Z21=>aB [2,3,5,8] ?_;refine aL (fun c4=>?_) fun c4=>?_
  ·refine aC (Z21 _ (aA fun _ Z23=>aD (aA fun _ Z24=>?_)));have htb:=bKs hf hft c4;refine bL [2,3,5,8] ?_;refine i0 (fun g0=>aAk _ t s (a:Int) (b:Int) hta.ir htb.ir) ?_;refine Z24 _ (aL (fun c5=>?_) fun c5=>?_)
   ·refine aB [] ?_;refine aG (bU 4 (xb ?_))
    (rw[aVp,kK c1 (show aKi t s a=false by unfold aKi;rw[kK c4 (show aWb t s a b=false by unfold aWb;rw[cFs aN,c5.2];rfl),cBw]),cBw])
   refine aC (Z23 _ (bA [2,3,5,8] ?_));refine Z20 _ _ bE ⟨b+1,rfl,bE,?_,b9⟩
   ·exact eA l2_1 (show aWb t s a b=true by unfold aWb;rw[cEx,cFp];rcases c5 with h|h;exact .inl aN;exact .inr h)
  refine aY (Z9 _ (bA [2,3,5] ?_));refine Z6 _ _ bE ⟨a+1,rfl,bE,?_,b9⟩
  ·exact eA l0_1 (show aKi t s a=true by unfold aKi;rw[hlb,jT l2_1 aN];rfl)
 refine aY (Z4 _ (aB [] ?_));refine aG (bU 4 (xb ?_))
 (rw[aVp,hft,jT l0_1 aN];rfl)
abbrev St0:aM:=⟨0,0⟩
def awS (r:bI) (f:cP):Option aM:=if (cS 2 f.fSide 0).2=false∨ndR r ⟨f.fEl,(cS 2 f.fSide 0).1⟩=true then none else some ⟨f.fEl,3-(cS 2 f.fSide 0).1⟩
theorem bSx {r:bI} {f:cP} (h:(cS 2 f.fSide 0).2=false∨ndR r ⟨f.fEl,(cS 2 f.fSide 0).1⟩=true):awS r f=none:=by unfold awS;rw[if_pos h]
def yS (l:aE) (r:bI):Nat→cP→Option (aM×Int)
 |0,_=>none
 |n+1,e=>if (aK l e).2=false then some (St0,-1) else if 0≤sL l (aK l e).1 then some (St0,sL l (aK l e).1) else if (fP r.fPath (aK l e).1.fEl||fP r.fOver (aK l e).1.fEl)=true then some (St0,-1)
  else if (aK l e).1.fEl<0∨(l.fElements.length:Int)≤(aK l e).1.fEl then none else if (eP l (aK l e).1.fEl.toNat).fKind=2 then (awS r (aK l e).1).map fun s=>(s,-1)
  else if (dK (eP l (aK l e).1.fEl.toNat).fKind (aK l e).1.fSide).length=0 then none else yS l r n ⟨(aK l e).1.fEl,(dK (eP l (aK l e).1.fEl.toNat).fKind (aK l e).1.fSide).getD 0 default⟩
section
variable {l:aE} {r:bI} {n:Nat} {e:cP}
theorem aYc (h1:(aK l e).2=false):yS l r (n+1) e=some (St0,-1):=by rw[yS,if_pos h1]
theorem bAi (h1:(aK l e).2=true) (h2:0≤sL l (aK l e).1):yS l r (n+1) e=some (St0,sL l (aK l e).1):=by rw[yS,if_neg (by rw[h1];simp),if_pos h2]
theorem aXr (h1:(aK l e).2=true) (h2: ¬0≤sL l (aK l e).1) (h3:(fP r.fPath (aK l e).1.fEl||fP r.fOver (aK l e).1.fEl)=true):yS l r (n+1) e=some (St0,-1):=by rw[yS,if_neg (by rw[h1];simp),if_neg h2,if_pos h3]
theorem aGv (h1:(aK l e).2=true) (h2: ¬0≤sL l (aK l e).1) (h3:(fP r.fPath (aK l e).1.fEl||fP r.fOver (aK l e).1.fEl)=false) (h4: ¬((aK l e).1.fEl<0∨(l.fElements.length:Int)≤(aK l e).1.fEl)) (h5:(eP l (aK l e).1.fEl.toNat).fKind=2):yS l r (n+1) e=(awS r (aK l e).1).map fun s=>(s,-1):=by rw[yS,if_neg (by rw[h1];simp),if_neg h2,if_neg (by rw[h3];simp),if_neg h4,if_pos h5]
theorem bVe (h1:(aK l e).2=true) (h2: ¬0≤sL l (aK l e).1) (h3:(fP r.fPath (aK l e).1.fEl||fP r.fOver (aK l e).1.fEl)=false) (h4: ¬((aK l e).1.fEl<0∨(l.fElements.length:Int)≤(aK l e).1.fEl)) (h5: ¬(eP l (aK l e).1.fEl.toNat).fKind=2) (h6: ¬(dK (eP l (aK l e).1.fEl.toNat).fKind (aK l e).1.fSide).length=0):yS l r (n+1) e=yS l r n ⟨(aK l e).1.fEl,(dK (eP l (aK l e).1.fEl.toNat).fKind (aK l e).1.fSide).getD 0 default⟩:=by rw[yS,if_neg (by rw[h1];simp),if_neg h2,if_neg (by rw[h3];simp),if_neg h4,if_neg h5,if_neg h6]
end
def bsN (s:bF) (n:Nat):List cP:=((List.range n).filter fun (i:Nat)=>decide ((i:Int)≠s.fIn∧(i:Int)≠s.fOut)).map fun i=>⟨s.fEl,(i:Nat)⟩
theorem bKh (s:bF) (n:Nat):bsN s (n+1)=bsN s n++if (n:Int)≠s.fIn∧(n:Int)≠s.fOut then [⟨s.fEl,(n:Nat)⟩] else []:=by
 unfold bsN;rw[cBy,cDu,cAl];congr 1;by_cases h:(n:Int)≠s.fIn∧(n:Int)≠s.fOut
 ·rw[if_pos h,List.filter_cons_of_pos (by simpa using h)];rfl
 rw[if_neg h,List.filter_cons_of_neg (by simpa using h)];rfl
theorem aSw (s:bF) (n:Nat):(bsN s n).length≤n:=by
 unfold bsN;rw[cAr];exact cBc (cCf _ _) b7
def sdN (l:aE) (s:bF):Nat:=(fS (eP l s.fEl.toNat).fKind).toNat
def pX (l:aE) (s:bF):List cP:=if (jI l s).2=true then bsN s (sdN l s) else []
theorem bSe {l:aE} {s:bF} (h:(jI l s).2=false):pX l s=[]:=by unfold pX;rw[if_neg (by rw[h];simp)]
theorem bQw {l:aE} {s:bF} (h:s.fEl<0∨(l.fElements.length:Int)≤s.fEl):pX l s=[]:=bSe (by rw[aJf (bTx.2 aN)])
theorem bAo (l:aE) (s:bF):sdN l s≤4:=by unfold sdN;have:=aTi (eP l s.fEl.toNat).fKind;omega
theorem aJi (l:aE) (s:bF):(pX l s).length≤4:=by
 unfold pX;split
 ·exact cBc (aSw _ _) (bAo l s)
 simp
def cI (l:aE) (q:List bF):List cP:=q.flatMap (pX l)
theorem bOf (l:aE) {q:List bF} {i:Nat} (h:i<q.length):cI l (q.take (i+1))=cI l (q.take i)++pX l (q.getD i default):=by
 rw[d9 default h];unfold cI;rw[cAk];simp
theorem aBh (l:aE) (q:List bF):(cI l q).length≤4*q.length:=by
 unfold cI
 induction q with
 |nil=>simp
 |cons a q ih=>rw[cAj,cAb,cDx];have:=aJi l a;omega
abbrev aZr (l:List cP):DV:=rowL 152 2 cN l
def oV (k i p:Int):Nat→Int×Bool
 |0=>(0,false)
 |n+1=>if (cS k i ((4-(n+1):Nat):Int)).2=true∧((cS k i ((4-(n+1):Nat):Int)).1=0∨(cS k i ((4-(n+1):Nat):Int)).1=p) then (((4-(n+1):Nat):Int),true) else oV k i p n
theorem aNw {k i p:Int} {j:Nat} (h:j<4):oV k i p (4-j)=if (cS k i (j:Int)).2=true∧((cS k i (j:Int)).1=0∨(cS k i (j:Int)).1=p) then ((j:Int),true) else oV k i p (4-(j+1)):=by
 rw[show 4-j=(4-(j+1))+1 by omega,oV,show 4-(4-(j+1)+1)=j by omega]
def aId (r:bI) (f:cP):aM×Int×Bool:=if ndR r ⟨f.fEl,if f.fSide=2 then 2 else 1⟩=true then (St0,-1,false) else (⟨f.fEl,if f.fSide=2 then 1 else 2⟩,-1,true)
def prT (p:Option (aM×Int)):aM×Int×Bool:=match p with
 |some (s,g)=>(s,g,true)
 |none=>(St0,-1,false)
theorem bNu {r:bI} {f:cP} (h:f.fSide=1∨f.fSide=2):aId r f=prT ((awS r f).map fun s=>(s,-1)):=by
 unfold aId awS;rcases h with h|h
 ·rw[h];have:cS 2 1 0=(1,true):=rfl;rw[this];by_cases hn:ndR r ⟨f.fEl,1⟩=true
  ·simp[hn,prT]
  simp[hn,prT]
 rw[h];have:cS 2 2 0=(2,true):=rfl;rw[this];by_cases hn:ndR r ⟨f.fEl,2⟩=true
 ·simp[hn,prT]
 simp[hn,prT]
structure Vld (l:aE):Prop where
 few:hM l
 els:kQ l=true
 jo: ∀e,(aK l e).2=true→exB l (aK l e).1=true
theorem uJ {l:aE} (hv:Vld l) {e:cP} (h:(aK l e).2=true):(0≤(aK l e).1.fEl∧(aK l e).1.fEl<(l.fElements.length:Int))∧0≤(aK l e).1.fSide∧(aK l e).1.fSide<fS (eP l (aK l e).1.fEl.toNat).fKind∧1≤(eP l (aK l e).1.fEl.toNat).fKind∧(eP l (aK l e).1.fEl.toNat).fKind≤3:=by
 have h1:=hv.jo e h;unfold exB at h1;rw[bZi,cFp,cFp] at h1;have:=pF (f:=yG l) hv.els (i:=(aK l e).1.fEl.toNat) aN;unfold yG at this;have:=cFq this;exact ⟨by omega,by omega,by omega,this.1.1,this.1.2⟩
theorem aXz {k i:Int} (hk:k=1∨k=3) (h0:0≤i) (h1:i<fS k):(oV k i 0 4).1=(dK k i).getD 0 default∧(dK k i).length≠0:=by
 rcases hk with rfl|rfl
 ·have:i=0∨i=1:=by have:fS 1=2:=rfl;omega
  rcases this with rfl|rfl<;>decide
 have:i=0∨i=1∨i=2∨i=3:=by have:fS 3=4:=rfl;omega
 rcases this with rfl|rfl|rfl|rfl<;>decide
theorem aIw (O:aV) (k i p:Int):bB Tryz.prog O 186 [vi k,vi i,vi p] (.tup [vi (oV k i p 4).1,vb (oV k i p 4).2]):=by
 refine dD Tryz.func186 ?_;refine aB [0,1,2] ?_;refine aA fun _ Z1=>aB [0,1,2] ?_;refine aD (aT [0,1,2,8] (fun n ρ=> ∃j,n=4-j∧(j≤4)∧(oV k i p 4=oV k i p (4-j))∧ρ=cO O [(0,vi k),(1,vi i),(2,vi p),(8,vi (j:Nat))]) _ ⟨0,rfl,?_,?_,?_⟩ ?_)
 ·exact bE
 ·rfl
 ·exact b9
 rintro n ρ ⟨j,rfl,l0_0,l0_1,rfl⟩ _ Z3;refine aA fun _ Z4=>aB [0,1,2,8] ?_;refine aL (fun c0=>?_) fun c0=>?_
 ·refine aC (Z4 _ (aA fun _ Z6=>aD (aA fun _ Z7=>bL [0,1,2,8] ?_)));refine fF (jZ _ k i (j:Nat)) ?_;refine Z7 _ (aB [0,1,2,8,9,10] ?_);refine aL (fun c1=>?_) fun c1=>?_
  ·have hcc:(cS k i (j:Int)).2=true∧((cS k i (j:Int)).1=0∨(cS k i (j:Int)).1=p):=(by simpa using c1);refine aB [8] ?_;refine aG (yJ (.cons ?_ (.cons ?_ .nil)))
   ·exact kD (by simp (disch:=omega) only[go_sem,seval]<;>((rw[l0_1,aNw c0,if_pos hcc]))) rfl rfl
   exact kD (by simp (disch:=omega) only[go_sem,seval]<;>((rw[l0_1,aNw c0,if_pos hcc]))) rfl rfl
  have hcc: ¬((cS k i (j:Int)).2=true∧((cS k i (j:Int)).1=0∨(cS k i (j:Int)).1=p)):=(by rintro ⟨h1,h2⟩;(try simp at c1);rcases c1 with c1|c1;rw[h1] at c1;cases c1;omega);refine aC (Z6 _ (bA [0,1,2,8] ?_));refine Z3 _ _ bE ⟨j+1,rfl,bE,?_,b9⟩
  ·rw[l0_1,aNw c0,if_neg hcc]
 refine aY (Z1 _ (aB [] ?_));refine aG (yJ (.cons ?_ (.cons ?_ .nil)))
 ·exact kD (by simp (disch:=omega) only[go_sem,seval]<;>((rw[l0_1,show 4-j=0 by omega];rfl))) rfl rfl
 exact kD (by simp (disch:=omega) only[go_sem,seval]<;>((rw[l0_1,show 4-j=0 by omega];rfl))) rfl rfl
theorem aIo (O:aV) (r:bI) (f:cP):bB Tryz.prog O 185 [.agg (bR r),.agg (cN f)] (.tup [.agg (bJ (aId r f).1),vi (aId r f).2.1,vb (aId r f).2.2]):=by
 refine dD Tryz.func185 ?_;refine aB [0,1] ?_;refine aB [2,3,4] ?_;refine aB [2,3,4,7] ?_;refine aQl [2,4,7,8] (fun ρ=>ρ=cO O [(2,.bx (bR r)),(4,.bx [vi 0,vi 0]),(7,.bx [vi f.fEl,vi (if f.fSide=2 then 2 else 1)]),(8,.bx [vi f.fEl,vi (if f.fSide=2 then 1 else 2)])]) (fun _ Z3=>?_) ?_
 ·skip
  refine aB [2,3,4,7,8] ?_;refine aL (fun c0=>?_) fun c0=>?_
  ·refine aB [2,3,4,7,8] ?_;refine bA [2,3,4,7,8] ?_;refine Z3 _ ?_;simp (disch:=omega) only[go_sem,seval]<;>first|(rw[if_pos c0,if_pos c0];done)|(rw[if_pos c0,if_pos c0];rfl)
  refine aC (Z3 _ ?_);simp (disch:=omega) only[go_sem,seval]<;>first|(rw[if_neg c0,if_neg c0];done)|(rw[if_neg c0,if_neg c0];rfl)
 rintro ρ rfl;refine aA fun _ Z6=>aA fun _ Z7=>bL [2,4,7,8] ?_;refine fF (aBz _ r ⟨f.fEl,if f.fSide=2 then 2 else 1⟩) ?_;refine Z7 _ (aL (fun c1=>?_) fun c1=>?_)
 ·have hlr:aId r f=(St0,-1,false):=(by unfold aId;rw[if_pos (by simpa using c1)]);refine aB [4] ?_;refine aG (yJ (.cons ?_ (.cons ?_ (.cons ?_ .nil))))
  ·exact roC (by simp (disch:=omega) only[go_sem,seval]<;>rfl) (by simp (disch:=omega) only[go_sem,seval]<;>(first|(rw[hlr];done)|(rw[hlr];rfl))) aZ (by first|rfl|(simp (disch:=omega) only[go_sem,seval]))
  ·exact kD (by simp (disch:=omega) only[go_sem,seval]<;>(first|(rw[hlr];done)|(rw[hlr];rfl))) rfl rfl
  exact kD (by simp (disch:=omega) only[go_sem,seval]<;>(first|(rw[hlr];done)|(rw[hlr];rfl))) rfl rfl
 have hlr:aId r f=(⟨f.fEl,if f.fSide=2 then 1 else 2⟩,-1,true):=(by unfold aId;rw[if_neg (by rw[c1];simp)]);refine aC (Z6 _ (aB [4,8] ?_));refine aG (yJ (.cons ?_ (.cons ?_ (.cons ?_ .nil))))
 ·exact roC (by simp (disch:=omega) only[go_sem,seval]<;>rfl) (by simp (disch:=omega) only[go_sem,seval]<;>(first|(rw[hlr];done)|(rw[hlr];rfl))) aZ (by first|rfl|(simp (disch:=omega) only[go_sem,seval]))
 ·exact kD (by simp (disch:=omega) only[go_sem,seval]<;>(first|(rw[hlr];done)|(rw[hlr];rfl))) rfl rfl
 exact kD (by simp (disch:=omega) only[go_sem,seval]<;>(first|(rw[hlr];done)|(rw[hlr];rfl))) rfl rfl
theorem pK (O:aV) (l:aE) (s:bF) (hl:hM l):bB Tryz.prog O 182 [.agg (aQ l),.agg (cM s)] (lF (pX l s)):=by
 have hl1:=hl.sec;have hl2:=hl.el;have hl3:=hl.jo;have hl4:=hl.sg;have hl5:=hl.bl;have hsl:=bAo l s;have hsb:=aTi (eP l s.fEl.toNat).fKind;refine aW 0 rfl (.agg (d:=lD l.fElements) (by simp[aQ]) (.sl _ _ _)) fun he=>?_;refine dD Tryz.func182 ?_;refine aB [0,1] ?_;refine aA fun _ Z1=>aB [2,3] ?_;refine aL (fun c0=>?_) fun c0=>?_
 ·refine aB [] ?_;refine kC 4 2 cN rfl rfl ?_;refine aG (bU 4 ?_);exact cG.encL rfl (by (rw[bQw aN]))
 refine aC (Z1 _ (aA fun _ Z4=>?_));have hxe:pQ l s.fEl=true:=iI.2 aN;refine bA [2,3] ?_;refine Z4 _ (aA fun _ Z5=>bL [3,5] ?_);refine fF (jZ _ (eP l s.fEl.toNat).fKind s.fIn s.fOut) ?_;refine Z5 _ (aB [3,5,7] ?_);refine aA fun _ Z7=>aB [3,5,7,8] ?_;refine aD (dF 8 152 2 cN rfl rfl ?_);refine aT [3,5,7,8,9] (fun n ρ=> ∃i,n=sdN l s-i∧(i≤sdN l s)∧ρ=cO O [(3,.bx (cM s)),(5,vi (eP l s.fEl.toNat).fKind),(7,vb (jI l s).2),(8,aZr (if (jI l s).2=true then bsN s i else [])),(9,vi (i:Nat))]) _ ⟨0,rfl,?_,?_⟩ ?_
 ·exact bE
 ·simp (disch:=omega) only[go_sem,seval]<;>(rw[aAp hxe];cases (cS (eP l s.fEl.toNat).fKind s.fIn s.fOut).2<;>rfl)
 rintro n ρ ⟨i,rfl,l0_0,rfl⟩ _ Z9;have hbl:=aSw s i;have hbl2:(if (jI l s).2=true then bsN s i else []).length≤i:=(by split;exact hbl;simp);have hsd:fS (eP l s.fEl.toNat).fKind=((sdN l s:Nat):Int):=(by unfold sdN;omega);refine aA fun _ Z10=>aA fun _ Z11=>bL [3,5,7,8,9] ?_;refine fF (rM _ (eP l s.fEl.toNat).fKind) ?_;refine Z11 _ (aL (fun c1=>?_) fun c1=>?_)
 ·refine aC (Z10 _ (aA fun _ Z12=>aD (aB [3,5,7,8,9] ?_)));refine aL (fun c2=>?_) fun c2=>?_
  ·have hcc:((jI l s).2=true∧(i:Int)≠s.fIn)∧(i:Int)≠s.fOut:=(by simpa using c2);refine bA [3,5,7,8,9] ?_;refine Z12 _ (bA [3,5,7,8,9] ?_);refine Z9 _ _ bE ⟨i+1,rfl,bE,?_⟩;simp (disch:=omega) only[go_sem,seval]<;>(rw[if_pos hcc.1.1,if_pos hcc.1.1,bKh,if_pos ⟨hcc.1.2,hcc.2⟩];first|rfl|simp)
  have hcc: ¬(((jI l s).2=true∧(i:Int)≠s.fIn)∧(i:Int)≠s.fOut):=(by rintro ⟨⟨h1,h2⟩,h3⟩;(try simp at c2);rcases c2 with (c2|c2)|c2;rw[h1] at c2;cases c2;exact h2 c2;exact h3 c2);refine aC (Z12 _ (bA [3,5,7,8,9] ?_));refine Z9 _ _ bE ⟨i+1,rfl,bE,?_⟩;simp (disch:=omega) only[go_sem,seval]<;>(split;rename_i hp;rw[bKh,if_neg (fun h=>hcc ⟨⟨hp,h.1⟩,h.2⟩),cEw];rfl;rfl)
 refine aY (Z7 _ (aA fun _ Z14=>cB 8 _ rfl rfl ?_));refine bA [8] ?_;refine Z14 _ (aG (bU 4 ?_));exact cG.encL rfl (by (rw[show i=sdN l s by omega];rfl))
section
variable (l:aE)
theorem bYf:(aQ l).length=6:=rfl
theorem bYg:nM (fun x=>x+100000) (aQ l)=aQ l:=rfl
theorem bYj (p:Nat→Bool):eQ p (aQ l)=true:=rfl
theorem bYb:List.take 6 (aQ l)=aQ l:=rfl
theorem bYz:(aQ l).getD 0 .any=vs l.fName:=rfl
theorem bZa:(aQ l).getD 1 .any=encL 1 eS l.fSections:=rfl
theorem bYt:(aQ l).getD 2 .any=encL 7 iD l.fElements:=rfl
theorem bYn:(aQ l).getD 3 .any=encL 4 xB l.fJoints:=rfl
theorem bZc:(aQ l).getD 4 .any=encL 4 fC l.fSignals:=rfl
theorem bYq:(aQ l).getD 5 .any=encL 3 rO l.fBalises:=rfl
end
section
variable (r:bI)
theorem bYi:(bR r).length=14:=rfl
theorem bYd:nM (fun x=>x+100000) (bR r)=bR r:=rfl
theorem bYe (p:Nat→Bool):eQ p (bR r)=true:=rfl
theorem bYc:List.take 14 (bR r)=bR r:=rfl
theorem bYo:(bR r).getD 0 .any=vs r.fName:=rfl
theorem bYv:(bR r).getD 1 .any=vi r.fEntry:=rfl
theorem bYp:(bR r).getD 2 .any=vi r.fExit:=rfl
theorem bYr:(bR r).getD 3 .any=encL 3 cM r.fPath:=rfl
theorem bZb:(bR r).getD 4 .any=encL 2 bJ r.fPoints:=rfl
theorem bYu:(bR r).getD 5 .any=encL 1 eI r.fSections:=rfl
theorem bYy:(bR r).getD 6 .any=vi r.fApproach:=rfl
theorem bYw:(bR r).getD 7 .any=vi r.fLength:=rfl
theorem bYs:(bR r).getD 8 .any=encL 3 cM r.fOver:=rfl
theorem bYx:(bR r).getD 9 .any=encL 2 bJ r.fOverPoints:=rfl
theorem bYl:(bR r).getD 10 .any=encL 1 eI r.fOverSections:=rfl
theorem bYm:(bR r).getD 11 .any=encL 2 bJ r.fFlank:=rfl
theorem bYk:(bR r).getD 12 .any=encL 1 eI r.fGuards:=rfl
theorem bYh:(bR r).getD 13 .any=encL 2 cN r.fGaps:=rfl
end
abbrev exQ (l:aE) (q:List bF):Int:=sL l (bKt q)
def nmQ (l:aE) (x:Int):ByteArray:=if 0≤x then (l.fSignals.getD x.toNat default).fName else ⟨#[101,110,100]⟩
def bNq (l:aE) (a:Int) (q:List bF):bI:=⟨(l.fSignals.getD a.toNat default).fName++⟨#[45]⟩++nmQ l (exQ l q),a,exQ l q,q,pV l q,dC l q,cJ l (l.fSignals.getD a.toNat default).fAt.fEl,fQ l q,[],[],[],[],[],[]⟩
theorem bNt {l:aE} (hs: ∀i,i<l.fSignals.length→(l.fSignals.getD i default).fName.size≤1000) {x:Int} (hx:x<(l.fSignals.length:Int)):(nmQ l x).size≤1000:=by
 unfold nmQ;split
 ·exact hs _ aN
 decide
theorem bGj {q:List hZ} {e:cP}: ∀{n:Nat},wH q e n<((n+q.length:Nat):Int)∧ -1≤wH q e n:=by
 induction q with
 |nil=>intro n;unfold wH;simp;omega
 |cons a q ih=>
  intro n;unfold wH;split
  ·simp;omega
  have:=ih (n:=n+1);rw[cDx];omega
theorem aRb (l:aE) (q:List bF):exQ l q<(l.fSignals.length:Int)∧ -1≤exQ l q:=by
 have:=bGj (q:=l.fSignals) (e:=bKt q) (n:=0);unfold exQ;rw[cFa] at this;exact this
def bs (l:List UInt8):ByteArray:=⟨l.toArray⟩
def fmt (n:Int):ByteArray:=bs (Lib.itoa n)
theorem bLg (a b:List UInt8):bs a++bs b=bs (a++b):=by
 apply ByteArray.ext;simp[bs]
theorem aSu (l:List UInt8):(bs l).size=l.length:=by simp[bs,ByteArray.size]
def dgt (d:Nat):UInt8:=UInt8.ofNat (48+d)
theorem bFd (u:Nat) (h:u<18446744073709551616):(Lib.decDigits u).length≤20:=by
 rw[Lib.decDigits_length];exact Lib.nDigits_le20 u h
theorem aNi (u:Nat) (h: ¬u<10):Lib.decDigits u=Lib.decDigits (u/10)++[dgt (u%10)]:=by
 rw[Lib.decDigits,dif_neg h];rfl
theorem aTf (u:Nat) (h:u<10):Lib.decDigits u=[dgt u]:=by
 rw[Lib.decDigits,dif_pos h];rfl
def aYg (n m:Int) (s:List UInt8):Prop:=(s=[]∧m=n)∨(s≠[]∧((m=0∧s=Lib.decDigits n.natAbs)∨(m≠0∧Lib.decDigits m.natAbs++s=Lib.decDigits n.natAbs)))
theorem pZ (m:Int):(m.tdiv 10).natAbs=m.natAbs/10:=by
 rw[Int.natAbs_tdiv];rfl
theorem aKe (m:Int):(m.tmod 10).natAbs=m.natAbs%10:=by
 rw[Int.natAbs_tmod];rfl
theorem bEa {n m:Int} {s:List UInt8} (h:aYg n m s) (hc:m≠0∨s=[]):aYg n (m.tdiv 10) (dgt (m.tmod 10).natAbs::s):=by
 refine .inr ⟨by simp,?_⟩;rw[aKe];have hz:m.tdiv 10=0↔m.natAbs<10:=by rw[← Int.natAbs_eq_zero,pZ];omega
 rcases h with ⟨rfl,rfl⟩|⟨h1,h2⟩
 ·by_cases h10:m.natAbs<10
  ·exact .inl ⟨hz.2 h10,by rw[aTf _ h10,cCd h10]⟩
  exact .inr ⟨fun e=>h10 (hz.1 e),by rw[pZ,aNi _ h10]⟩
 rcases h2 with ⟨h3,_⟩|⟨h3,h4⟩
 ·rcases hc with h|h
  ·exact absurd h3 h
  exact absurd h h1
 by_cases h10:m.natAbs<10
 ·exact .inl ⟨hz.2 h10,by rw[← h4,aTf _ h10,cCd h10];rfl⟩
 exact .inr ⟨fun e=>h10 (hz.1 e),by rw[← h4,pZ,aNi _ h10];simp⟩
theorem bHr {n m:Int} {s:List UInt8} (h:aYg n m s) (h0: -9223372036854775808≤n) (h1:n≤9223372036854775807):s.length≤20:=by
 have hd:=bFd n.natAbs aN;rcases h with ⟨h1,_⟩|⟨_,⟨_,h2⟩|⟨_,h2⟩⟩
 ·subst h1;simp
 ·rw[h2];exact hd
 rw[← h2,cAb] at hd;omega
theorem bFt {n:Int} (h: ¬n<0):fmt n=bs (Lib.decDigits n.natAbs):=by
 rw[fmt,Lib.itoa,if_neg h];congr 2;omega
theorem bCn (n:Int) (h0: -9223372036854775808≤n) (h1:n≤9223372036854775807):(fmt n).size≤21:=by
 rw[fmt,aSu];exact Lib.itoa_length_le n h0 h1
theorem bIk {m:Int} (h: ¬m.tmod 10<0): ∃d:Nat,m.tmod 10=(d:Int)∧d<10∧d=(m.tmod 10).natAbs:=by
 have h9:=aKe m;exact ⟨(m.tmod 10).natAbs,by omega,by omega,rfl⟩
theorem aRf {m:Int} (h0: -9223372036854775808≤m) (h1:m≤9223372036854775807): -9223372036854775808≤m.tdiv 10∧m.tdiv 10≤9223372036854775807:=by
 have h:=pZ m;omega
end Go.Sg
namespace Go.Sg
open Go.RowKit
def bNp (P:Program) (s t:TypeId):Bool:=
 match P.underlying s,P.underlying t with
 |some (.slice e),some .string=>(match P.underlying e with|some (.int .u8)=>true|_=>false)
 |_,_=>false
theorem aVe {P:Program} {s t:TypeId} (h:bNp P s t=true): ∃e,P.underlying s=some (.slice e)∧P.underlying e=some (.int .u8)∧P.underlying t=some .string:=by
 unfold bNp at h;split at h
 ·rename_i e h1 h2;split at h
  ·rename_i h3;exact ⟨e,h1,h3,h2⟩
  exact absurd h gS
 exact absurd h gS
theorem bAe {P:Program} {nt:Nat} {ops:Array Oper} {ρ:aV} {o:Oper} {K:aV→Prop} {s t:TypeId} {x:Operand} {d:Nat} {f:Nat→List DV} {c:Int}
  (hop:o.op=.convert s t x) (hg:o.guard=none) (hdst:o.dst=some d) (hd:d3 nt o=true) (ho:dP nt o=true) (hc:bNp P s t=true)
  (h1:gd (ev ρ x)) (hx:un (ev ρ x)=.sl 1 1 f) (hf:f 0=[.v (.int .u8 c)]) (hK:K (putD ρ (some d) (.v (.string (strOfNums [c]))))):OW P nt ops o K ρ:=by
 obtain ⟨e,hs',he,ht⟩:=aVe hc;refine fU hg fun I A a w hs=>?_;have hrl:=hs.opd x (bO ho (x:=x) (by rw[hop];simp[Op.operands])) h1;rw[hx] at hrl;rw[← hdst] at hK;generalize hv:a.eval x=v at hrl;cases hrl with
 |sl _ z n f b o' c' us hn hc hm hI hz hcell hone hrel=>
  have hr:=hrel 0 0 (.v (.int .u8 c)) aN (by rw[hf];rfl);have hu:us 0 0=.int .u8 c:=by
   generalize us 0 0=q at hr;cases hr;rfl
  have hrun:(execOp a.eval o).run P w=.ok (.value (.string (strOfNums [c]))) w:=by
   have:=run_convert_bytes_arg (P:=P) w s e hs' he b o' 1 c' [c] rfl (fun i hi=>by
    obtain rfl:i=0:=by omega
    have:=hcell 0 0 aN aN;rw[hu] at this;simpa using this) t ht
   simp only[execOp,hop,hv,Sem.run_bind,this,Result.andThen_ok,Sem.run_pure]
  exact ⟨_,w,I,A,_,hrun,hs.putV hd (.v A _),e8.refl _ _ _,hK⟩
end Go.Sg
namespace Go.Sg
open Go.Proofs
theorem bIf (a:UInt8) (l:List UInt8):bs [a]++bs l=bs (a::l):=bLg [a] l
theorem bIy (d:Nat) (h:d<10):strOfNums [48+(d:Int)]=bs [dgt d]:=by
 match d,h with
 |0,_=>rfl
 |1,_=>rfl
 |2,_=>rfl
 |3,_=>rfl
 |4,_=>rfl
 |5,_=>rfl
 |6,_=>rfl
 |7,_=>rfl
 |8,_=>rfl
 |9,_=>rfl
theorem bDw (d:Nat) (h:d<10):IntKind.u8.wrap (48+(d:Int))=48+(d:Int):=by
 match d,h with
 |0,_=>rfl
 |1,_=>rfl
 |2,_=>rfl
 |3,_=>rfl
 |4,_=>rfl
 |5,_=>rfl
 |6,_=>rfl
 |7,_=>rfl
 |8,_=>rfl
 |9,_=>rfl
theorem bFm {z m:Int} {s:List UInt8} (h:aYg z m s) (h0:0<z) (hm:m=0):bs s=fmt z:=by
 subst hm;rw[bFt aN];rcases h with ⟨_,h⟩|⟨_,⟨_,h⟩|⟨h,_⟩⟩
 ·omega
 ·rw[h]
 exact absurd rfl h
attribute [go_sem] aSu bIf aCq
set_option maxRecDepth 20000 in
theorem xN (O:aV) (z:Int) (h0:0<z) (h1:z≤9223372036854775807):bB Tryz.prog O 181 [vi z] (vs (fmt z)):=by
 refine dD Tryz.func181 ?_;refine aB [0] ?_;refine aB [0] ?_;refine aA fun _ Z2=>aD (aT [0,3] (fun n ρ=> ∃(m:Int),∃(s:List UInt8),n=m.natAbs∧(aYg z m s)∧(0≤m)∧(m≤9223372036854775807)∧ρ=cO O [(0,vi m),(3,vs (bs s))]) _ ⟨z,[],rfl,?_,?_,?_,?_⟩ ?_)
 ·exact .inl ⟨rfl,rfl⟩
 ·exact bE
 ·exact bE
 ·exact b9
 rintro n ρ ⟨m,s,rfl,l0_0,l0_1,l0_2,rfl⟩ _ Z3;have hsl:=bHr l0_0 aN h1;refine aA fun _ Z4=>aB [0,3] ?_;refine aL (fun c0=>?_) fun c0=>?_
 ·obtain ⟨d,hd,hd9,hda⟩:=bIk (m:=m) (bZu.2 (Int.tmod_nonneg 10 l0_1));obtain ⟨htd,hte⟩:=aRf (m:=m) aN l0_2;refine aC (Z4 _ (aD (aA fun _ Z6=>dY (Le.keepC [0,3] _) ?_)));refine rP ?_;refine ez ?_;refine ez ?_;refine ez ?_;refine ez ?_;show OW _ _ _ _ _ _;refine aOl (e:=5) (z:=1) (by_:=1) (zs:=[.int .u8 0]) rfl rfl rfl gS aZ aZ aZ gS gS gS rfl (by ((try simp only[go_sem,seval]);try simp (disch:=omega) only[go_sem,seval])) ?_
  try ((try simp only[go_sem,seval]);try simp (disch:=omega) only[go_sem,seval])
  show OW _ _ _ _ _ _;refine bAe (f:=fun i=>[[.v (.int .u8 (48+(d:Int)))]].getD i []) (c:=48+(d:Int)) rfl rfl rfl aZ aZ aZ (by ((try simp only[go_sem,seval]);try simp (disch:=omega) only[go_sem,seval])) (by ((try simp only[go_sem,seval]);try simp (disch:=omega) only[go_sem,seval])<;>(rw[hd,bDw d hd9])) rfl ?_;rw[bIy d hd9]
  try ((try simp only[go_sem,seval]);try simp (disch:=omega) only[go_sem,seval])
  refine ez ?_;show OW _ _ _ _ _ _;refine cC rfl aZ aZ ?_;((try simp only[go_sem,seval]);try simp (disch:=omega) only[go_sem,seval]);refine ⟨(by have:maxLen=9223372036854775807:=rfl;omega),?_⟩;refine ez ?_;refine Z6 _ (bA [0,3] ?_);refine Z3 _ _ ?_ ⟨m.tdiv 10,dgt d::s,rfl,?_,?_,?_,b9⟩
  ·(have:=pZ m;omega)
  ·(rw[hda];exact bEa l0_0 (.inl aN))
  ·exact Int.tdiv_nonneg l0_1 gS
  ·exact (aRf aN l0_2).2
 refine aY (Z2 _ (aB [3] ?_));refine aG (bU 2 ?_);exact cG.is (by ((try simp only[go_sem,seval]);try simp (disch:=omega) only[go_sem,seval])<;>((rw[bFm l0_0 h0 aN]))) rfl rfl
def kI {α:Type} (nm:α→ByteArray) (P:List α) (x:ByteArray):Nat:=P.countP (fun p=>decide (nm p=x))
theorem x9 {α:Type} (nm:α→ByteArray) (P:List α) (p:α) (x:ByteArray):kI nm (P++[p]) x=kI nm P x+(if nm p=x then 1 else 0):=by
 unfold kI;rw[List.countP_append];by_cases h:nm p=x<;>simp[h]
theorem aQv {α:Type} (nm:α→ByteArray) (P:List α) (x:ByteArray):kI nm P x≤P.length:=List.countP_le_length
def gZ (l:aE) (i:Int) (q:List bF):ByteArray:=(bNq l i q).fName
def nR (r:bI) (c:Nat):bI:=if 1<c then {r with fName:=r.fName++(⟨#[46]⟩++fmt (c:Nat))} else r
def nbR (l:aE) (i:Int) (P:List (List bF)) (k:Nat):bI:=nR (bNq l i (P.getD k [])) (kI (gZ l i) (P.take (k+1)) (gZ l i (P.getD k [])))
def sS (l:aE) (i:Int) (P:List (List bF)) (n:Nat):List bI:=(List.range n).map (nbR l i P)
theorem aIm (l:aE) (i:Int) (P:List (List bF)) (n:Nat):sS l i P (n+1)=sS l i P n++[nbR l i P n]:=by
 unfold sS;rw[cBy,cAl];rfl
theorem aF (l:aE) (i:Int) (P:List (List bF)) (n:Nat):(sS l i P n).length=n:=by simp[sS]
def eZ (p:aE→cP→cP→List (List bF)) (l:aE) (i:Int):List bI:=
 if i<0∨(l.fSignals.length:Int)≤i then [] else
 let f:=(l.fSignals.getD i.toNat default).fAt
 if (aK l f).2=false then [] else sS l i (p l f (aK l f).1) (p l f (aK l f).1).length
def kP (q:List aM) (s:aM):Nat:=(q.takeWhile fun x=>decide (x.fEl≤s.fEl)).length
def tX (q:List aM) (s:aM):List aM:=if eL q s=true then q else q.take (kP q s)++[s]++q.drop (kP q s)
theorem bBn {p:aM→Bool}: ∀{l:List aM} {x:aM},x∈l.takeWhile p→p x=true
 | [],_,h=>by simp at h
 |a::l,x,h=>by
  rw[cCs] at h;cases ha:p a with
  |false=>rw[ha] at h;simp at h
  |true=>
   rw[ha,if_pos rfl] at h;rcases cDt.1 h with rfl|h
   ·exact ha
   exact bBn h
theorem bKi {q:List aM} {s:aM} {i:Nat} (h:i<kP q s):(q.getD i default).fEl≤s.fEl:=by
 unfold kP at h;have hm: ∀x∈q.takeWhile (fun x=>decide (x.fEl≤s.fEl)),x.fEl≤s.fEl:=fun x hx=>by
  exact cFq (bBn hx)
 have hp:=List.takeWhile_prefix (fun x:aM=>decide (x.fEl≤s.fEl)) (l:=q);have:q.getD i default=(q.takeWhile fun x=>decide (x.fEl≤s.fEl))[i]:=by
  rw[cFk,cEn (cDi h hp.length_le),bZy];exact (hp.getElem h).symm
 rw[this];exact hm _ (cDh h)
theorem aZu {q:List aM} {s:aM} (h:kP q s<q.length):s.fEl<(q.getD (kP q s) default).fEl:=by
 unfold kP at*
 induction q with
 |nil=>simp at h
 |cons a q ih=>
  rw[cCs] at*;by_cases ha:a.fEl≤s.fEl
  ·rw[cFr ha] at*;simp only[if_pos,cDx] at*;have:=ih aN;simpa using this
  rw[cFs ha] at*;simp at*;omega
def tM (q:List aM) (s:aM) (i:Nat):List aM:=if kP q s<i then q.take (kP q s)++[s]++(q.take i).drop (kP q s) else q.take i
theorem aYh (q:List aM) (s:aM) (i:Nat) (hi:i≤q.length):(tM q s i).length≤i+1:=by
 unfold tM;split
 ·simp only[cAb,cCw,cEk,bZp];omega
 rw[cCw];omega
theorem aXv {q:List aM} {s:aM} {i:Nat} (hi:i<q.length) (h: ¬kP q s<i) (h2:s.fEl<(q.getD i default).fEl):tM q s (i+1)=tM q s i++[s]++[q.getD i default]∧kP q s=i:=by
 have hk:kP q s=i:=by
  rcases cBd i (kP q s) with h3|h3
  ·have:=bKi h3;omega
  omega
 refine ⟨?_,hk⟩;unfold tM;rw[hk,if_pos aN,if_neg aN,d9 default hi,List.drop_append_of_le_length (by rw[cCw];omega),cDf (by rw[cCw];omega)];simp
theorem bDt {q:List aM} {s:aM} {i:Nat} (hi:i<q.length) (h: ¬(¬kP q s<i∧s.fEl<(q.getD i default).fEl)):tM q s (i+1)=tM q s i++[q.getD i default]:=by
 unfold tM;by_cases h1:kP q s<i
 ·rw[if_pos aN,if_pos h1,d9 default hi,List.drop_append_of_le_length (by rw[cCw];omega)];simp
 have h2: ¬kP q s<i+1:=fun h3=>h ⟨h1,by
  have hk:kP q s=i:=by omega
  have:=aZu (q:=q) (s:=s) aN;rw[hk] at this;exact this⟩
 rw[if_neg h2,if_neg h1,d9 default hi]
theorem bGc {q:List aM} {s:aM} (hn:eL q s=false) (h:kP q s<q.length):tX q s=tM q s q.length:=by
 unfold tX tM;rw[if_neg (by rw[hn];simp),if_pos h,cBn]
theorem bIg {q:List aM} {s:aM} (hn:eL q s=false) (h: ¬kP q s<q.length):tX q s=tM q s q.length++[s]:=by
 unfold tX tM;rw[if_neg (by rw[hn];simp),if_neg h,cDf aN,cCi (show q.length≤kP q s by omega),cBn];simp
theorem bMp (q:List aM) (s:aM):tM q s 0=[]:=by unfold tM;rw[if_neg aN];simp
section
attribute [local go_sem] cBv
theorem aJe (O:aV) (q:List aM) (s:aM) (hb:q.length≤1000):bB Tryz.prog O 108 [dJ q,.agg (bJ s)] (dJ (tX q s)):=by
 refine aW 0 rfl (.sl _ _ _) fun hql=>?_;refine dD Tryz.func108 ?_;refine aA fun _ Z0=>aU [0,1] aZ ?_;simp (config := { maxSteps := 2000000 }) (disch:=omega) only[go_sem,seval,bYf,bYg,bYj,bYb,bYz,bZa,bYt,bYn,bZc,bYq,bYi,bYd,bYe,bYc,bYo,bYv,bYp,bYr,bZb,bYu,bYy,bYw,bYs,bYx,bYl,bYm,bYk,bYh]
 repeat refine bZh bM ?_
 refine Z0 _ (aA fun _ Z1=>aA fun _ Z2=>aU [0,3] aZ ?_);simp (config := { maxSteps := 2000000 }) (disch:=omega) only[go_sem,seval,bYf,bYg,bYj,bYb,bYz,bZa,bYt,bYn,bZc,bYq,bYi,bYd,bYe,bYc,bYo,bYv,bYp,bYr,bZb,bYu,bYy,bYw,bYs,bYx,bYl,bYm,bYk,bYh]
 repeat refine bZh bM ?_
 refine eF _ (lI _ q s) ?_
 try simp (config := { maxSteps := 2000000 }) (disch:=omega) only[go_sem,seval,bYf,bYg,bYj,bYb,bYz,bZa,bYt,bYn,bZc,bYq,bYi,bYd,bYe,bYc,bYo,bYv,bYp,bYr,bZb,bYu,bYy,bYw,bYs,bYx,bYl,bYm,bYk,bYh]
 repeat refine bZh bM ?_
 refine Z2 _ (aL (fun c0=>?_) fun c0=>?_)
 ·refine aA fun _ Z3=>aU [0] aZ ?_;simp (config := { maxSteps := 2000000 }) (disch:=omega) only[go_sem,seval,bYf,bYg,bYj,bYb,bYz,bZa,bYt,bYn,bZc,bYq,bYi,bYd,bYe,bYc,bYo,bYv,bYp,bYr,bZb,bYu,bYy,bYw,bYs,bYx,bYl,bYm,bYk,bYh]
  repeat refine bZh bM ?_
  refine Z3 _ (aG (d5 4 rfl (by simp (config := { maxSteps := 2000000 }) (disch:=omega) only[go_sem,seval,bYf,bYg,bYj,bYb,bYz,bZa,bYt,bYn,bZc,bYq,bYi,bYd,bYe,bYc,bYo,bYv,bYp,bYr,bZb,bYu,bYy,bYw,bYs,bYx,bYl,bYm,bYk,bYh]) ?_));exact cG.encL rfl (by (unfold tX;rw[if_pos (by simpa using c0)]))
 have hn:eL q s=false:=(by simpa using c0);refine aC (Z1 _ (aA fun _ Z4=>aU [0,3] aZ ?_));simp (config := { maxSteps := 2000000 }) (disch:=omega) only[go_sem,seval,bYf,bYg,bYj,bYb,bYz,bZa,bYt,bYn,bZc,bYq,bYi,bYd,bYe,bYc,bYo,bYv,bYp,bYr,bZb,bYu,bYy,bYw,bYs,bYx,bYl,bYm,bYk,bYh]
 repeat refine bZh bM ?_
 refine Z4 _ (aA fun _ Z5=>aU [0,3,5] aZ ?_);simp (config := { maxSteps := 2000000 }) (disch:=omega) only[go_sem,seval,bYf,bYg,bYj,bYb,bYz,bZa,bYt,bYn,bZc,bYq,bYi,bYd,bYe,bYc,bYo,bYv,bYp,bYr,bZb,bYu,bYy,bYw,bYs,bYx,bYl,bYm,bYk,bYh]
 repeat refine bZh bM ?_
 refine Z5 _ (aA fun _ Z6=>aA fun _ Z7=>aU [0,3,5,6] aZ ?_);simp (config := { maxSteps := 2000000 }) (disch:=omega) only[go_sem,seval,bYf,bYg,bYj,bYb,bYz,bZa,bYt,bYn,bZc,bYq,bYi,bYd,bYe,bYc,bYo,bYv,bYp,bYr,bZb,bYu,bYy,bYw,bYs,bYx,bYl,bYm,bYk,bYh]
 repeat refine bZh bM ?_
 refine Z7 _ (aD (dF 5 131 2 bJ rfl rfl ?_));refine aT [0,3,5,6,7] (fun n ρ=> ∃i,n=q.length-i∧(i≤q.length)∧ρ=cO O [(0,dJ q),(3,.bx (bJ s)),(5,aNu (tM q s i)),(6,vb (decide (kP q s<i))),(7,vi (i:Nat))]) _ ⟨0,rfl,?_,?_⟩ ?_
 ·exact bE
 ·simp (config := { maxSteps := 2000000 }) (disch:=omega) only[go_sem,seval,bYf,bYg,bYj,bYb,bYz,bZa,bYt,bYn,bZc,bYq,bYi,bYd,bYe,bYc,bYo,bYv,bYp,bYr,bZb,bYu,bYy,bYw,bYs,bYx,bYl,bYm,bYk,bYh]<;>(rw[bMp];first|rfl|simp)
 rintro n ρ ⟨i,rfl,l0_0,rfl⟩ _ Z8;have hpl:=aYh q s i l0_0;refine aA fun _ Z9=>aA fun _ Z10=>aU [0,3,5,6,7] aZ ?_;simp (config := { maxSteps := 2000000 }) (disch:=omega) only[go_sem,seval,bYf,bYg,bYj,bYb,bYz,bZa,bYt,bYn,bZc,bYq,bYi,bYd,bYe,bYc,bYo,bYv,bYp,bYr,bZb,bYu,bYy,bYw,bYs,bYx,bYl,bYm,bYk,bYh]
 repeat refine bZh bM ?_
 refine Z10 _ (aL (fun c1=>?_) fun c1=>?_)
 ·refine aC (Z9 _ (aA fun _ Z11=>aD (aA fun _ Z12=>aA fun _ Z13=>eC [0,3,5,6,7] [] eG aZ ?_)));simp (config := { maxSteps := 2000000 }) (disch:=omega) only[go_sem,seval,bYf,bYg,bYj,bYb,bYz,bZa,bYt,bYn,bZc,bYq,bYi,bYd,bYe,bYc,bYo,bYv,bYp,bYr,bZb,bYu,bYy,bYw,bYs,bYx,bYl,bYm,bYk,bYh]
  repeat refine bZh bM ?_
  refine Z13 _ (aL (fun c2=>?_) fun c2=>?_)
  ·have hcc: ¬kP q s<i∧s.fEl<(q.getD i default).fEl:=(by simpa using c2);obtain ⟨hnow,hki⟩:=aXv c1 hcc.1 hcc.2;refine aA fun _ Z14=>aU [0,3,5,7] aZ ?_;simp (config := { maxSteps := 2000000 }) (disch:=omega) only[go_sem,seval,bYf,bYg,bYj,bYb,bYz,bZa,bYt,bYn,bZc,bYq,bYi,bYd,bYe,bYc,bYo,bYv,bYp,bYr,bZb,bYu,bYy,bYw,bYs,bYx,bYl,bYm,bYk,bYh]
   repeat refine bZh bM ?_
   refine Z14 _ (aU [0,3,5,7] aZ ?_);simp (config := { maxSteps := 2000000 }) (disch:=omega) only[go_sem,seval,bYf,bYg,bYj,bYb,bYz,bZa,bYt,bYn,bZc,bYq,bYi,bYd,bYe,bYc,bYo,bYv,bYp,bYr,bZb,bYu,bYy,bYw,bYs,bYx,bYl,bYm,bYk,bYh]
   repeat refine bZh bM ?_
   refine Z12 _ (aU [0,3,5,6,7] aZ ?_);simp (config := { maxSteps := 2000000 }) (disch:=omega) only[go_sem,seval,bYf,bYg,bYj,bYb,bYz,bZa,bYt,bYn,bZc,bYq,bYi,bYd,bYe,bYc,bYo,bYv,bYp,bYr,bZb,bYu,bYy,bYw,bYs,bYx,bYl,bYm,bYk,bYh]
   repeat refine bZh bM ?_
   refine Z11 _ (aU [0,3,5,6,7] aZ ?_);simp (config := { maxSteps := 2000000 }) (disch:=omega) only[go_sem,seval,bYf,bYg,bYj,bYb,bYz,bZa,bYt,bYn,bZc,bYq,bYi,bYd,bYe,bYc,bYo,bYv,bYp,bYr,bZb,bYu,bYy,bYw,bYs,bYx,bYl,bYm,bYk,bYh]
   repeat refine bZh bM ?_
   refine Z8 _ _ bE ⟨i+1,rfl,bE,?_⟩;simp (config := { maxSteps := 2000000 }) (disch:=omega) only[go_sem,seval,bYf,bYg,bYj,bYb,bYz,bZa,bYt,bYn,bZc,bYq,bYi,bYd,bYe,bYc,bYo,bYv,bYp,bYr,bZb,bYu,bYy,bYw,bYs,bYx,bYl,bYm,bYk,bYh]<;>(rw[hnow,cFr (show kP q s<i+1 by omega),cAl,cAl];first|rfl|simp)
  have hcc: ¬(¬kP q s<i∧s.fEl<(q.getD i default).fEl):=(by rintro ⟨h1,h2⟩;first|omega|(rcases c2 with c2|c2<;>omega)|(simp at c2;omega));have hdn:kP q s<i+1↔kP q s<i:=(by
   constructor
   ·intro h3;refine cEt fun h4=>hcc ⟨h4,?_⟩;have hk:kP q s=i:=by omega
    have:=aZu (q:=q) (s:=s) aN;rw[hk] at this;exact this
   omega)
  refine aC (Z12 _ (aU [0,3,5,6,7] aZ ?_));simp (config := { maxSteps := 2000000 }) (disch:=omega) only[go_sem,seval,bYf,bYg,bYj,bYb,bYz,bZa,bYt,bYn,bZc,bYq,bYi,bYd,bYe,bYc,bYo,bYv,bYp,bYr,bZb,bYu,bYy,bYw,bYs,bYx,bYl,bYm,bYk,bYh]
  repeat refine bZh bM ?_
  refine Z11 _ (aU [0,3,5,6,7] aZ ?_);simp (config := { maxSteps := 2000000 }) (disch:=omega) only[go_sem,seval,bYf,bYg,bYj,bYb,bYz,bZa,bYt,bYn,bZc,bYq,bYi,bYd,bYe,bYc,bYo,bYv,bYp,bYr,bZb,bYu,bYy,bYw,bYs,bYx,bYl,bYm,bYk,bYh]
  repeat refine bZh bM ?_
  refine Z8 _ _ bE ⟨i+1,rfl,bE,?_⟩;simp (config := { maxSteps := 2000000 }) (disch:=omega) only[go_sem,seval,bYf,bYg,bYj,bYb,bYz,bZa,bYt,bYn,bZc,bYq,bYi,bYd,bYe,bYc,bYo,bYv,bYp,bYr,bZb,bYu,bYy,bYw,bYs,bYx,bYl,bYm,bYk,bYh]<;>(rw[bDt c1 hcc,cAd.2 hdn,cAl];first|rfl|simp)
 refine aY (Z6 _ (aA fun _ Z15=>aA fun _ Z16=>aU [3,5,6] aZ ?_));simp (config := { maxSteps := 2000000 }) (disch:=omega) only[go_sem,seval,bYf,bYg,bYj,bYb,bYz,bZa,bYt,bYn,bZc,bYq,bYi,bYd,bYe,bYc,bYo,bYv,bYp,bYr,bZb,bYu,bYy,bYw,bYs,bYx,bYl,bYm,bYk,bYh]
 repeat refine bZh bM ?_
 refine Z16 _ (aL (fun c3=>?_) fun c3=>?_)
 ·obtain rfl:i=q.length:=aN;have hkk: ¬kP q s<q.length:=(by simpa using c3);refine aU [3,5] aZ ?_;simp (config := { maxSteps := 2000000 }) (disch:=omega) only[go_sem,seval,bYf,bYg,bYj,bYb,bYz,bZa,bYt,bYn,bZc,bYq,bYi,bYd,bYe,bYc,bYo,bYv,bYp,bYr,bZb,bYu,bYy,bYw,bYs,bYx,bYl,bYm,bYk,bYh]
  repeat refine bZh bM ?_
  refine Z15 _ (aA fun _ Z17=>cB 5 _ rfl rfl ?_);refine aU [5] aZ ?_;simp (config := { maxSteps := 2000000 }) (disch:=omega) only[go_sem,seval,bYf,bYg,bYj,bYb,bYz,bZa,bYt,bYn,bZc,bYq,bYi,bYd,bYe,bYc,bYo,bYv,bYp,bYr,bZb,bYu,bYy,bYw,bYs,bYx,bYl,bYm,bYk,bYh]
  repeat refine bZh bM ?_
  refine Z17 _ (aG (d5 4 rfl (by simp (config := { maxSteps := 2000000 }) (disch:=omega) only[go_sem,seval,bYf,bYg,bYj,bYb,bYz,bZa,bYt,bYn,bZc,bYq,bYi,bYd,bYe,bYc,bYo,bYv,bYp,bYr,bZb,bYu,bYy,bYw,bYs,bYx,bYl,bYm,bYk,bYh]) ?_));exact cG.encL rfl (by (rw[bIg hn hkk]))
 obtain rfl:i=q.length:=aN;have hkk:kP q s<q.length:=(by simpa using c3);refine aC (Z15 _ (aA fun _ Z18=>cB 5 _ rfl rfl ?_));refine aU [5] aZ ?_;simp (config := { maxSteps := 2000000 }) (disch:=omega) only[go_sem,seval,bYf,bYg,bYj,bYb,bYz,bZa,bYt,bYn,bZc,bYq,bYi,bYd,bYe,bYc,bYo,bYv,bYp,bYr,bZb,bYu,bYy,bYw,bYs,bYx,bYl,bYm,bYk,bYh]
 repeat refine bZh bM ?_
 refine Z18 _ (aG (d5 4 rfl (by simp (config := { maxSteps := 2000000 }) (disch:=omega) only[go_sem,seval,bYf,bYg,bYj,bYb,bYz,bZa,bYt,bYn,bZc,bYq,bYi,bYd,bYe,bYc,bYo,bYv,bYp,bYr,bZb,bYu,bYy,bYw,bYs,bYx,bYl,bYm,bYk,bYh]) ?_));exact cG.encL rfl (by (rw[bGc hn hkk]))
end
def mk (l:List Int):List Int:=Lib.compact (srt l)
abbrev SS (l:List Int):Prop:=l.Pairwise (· < ·)
theorem aZo: ∀{a b:List Int},SS a→SS b→(∀x,x∈a↔x∈b)→a=b
 | [],[],_,_,_=>rfl
 | [],y::b,_,_,h=>by have:=(h y).2 b7;simp at this
 |x::a,[],_,_,h=>by have:=(h x).1 b7;simp at this
 |x::a,y::b,ha,hb,h=>by
  rw[SS,cBi] at ha hb;have hxy:x=y:=by
   have h1:=(h x).1 b7;have h2:=(h y).2 b7;rcases cDt.1 h1 with e|e
   ·exact e
   rcases cDt.1 h2 with e2|e2
   ·exact e2.symm
   have:=ha.1 y e2;have:=hb.1 x e;omega
  subst hxy;rw[aZo ha.2 hb.2 fun z=>by
   constructor
   ·intro hz;have:=(h z).1 (by simp[hz]);rcases cDt.1 this with e|e
    ·subst e;exact absurd (ha.1 z hz) (Int.lt_irrefl _)
    exact e
   intro hz;have:=(h z).2 (by simp[hz]);rcases cDt.1 this with e|e
   ·subst e;exact absurd (hb.1 z hz) (Int.lt_irrefl _)
   exact e]
theorem aDa (x:Int): ∀(s:List Int) (y:Int),y∈uH x s↔y=x∨y∈s
 | [],y=>by simp[uH]
 |z::s,y=>by
  unfold uH;split
  ·simp
  simp[aDa x s y,or_left_comm]
theorem aRz (x:Int): ∀(s:List Int),SS s→x∉s→SS (uH x s)
 | [],_,_=>by simp[uH,SS]
 |z::s,h,hn=>by
  rw[SS,cBi] at h;unfold uH;split
  ·rename_i hlt;refine cBi.2 ⟨fun y hy=>?_,cBi.2 h⟩;rcases cDt.1 hy with e|e
   ·rw[e];exact hlt
   exact Int.lt_trans hlt (h.1 y e)
  rename_i hlt;refine cBi.2 ⟨fun y hy=>?_,aRz x s h.2 fun hx=>hn (by simp[hx])⟩;rcases (aDa x s y).1 hy with e|e
  ·have:z≠x:=fun e2=>hn (by simp[e2]);omega
  exact h.1 y e
theorem aWr (s:List Int) (x y:Int):y∈jJ s x↔y=x∨y∈s:=by
 unfold jJ;split
 ·rename_i h;have h:x∈s:=by simpa using h
  constructor
  ·exact .inr
  rintro (e|e)
  ·rw[e];exact h
  exact e
 exact aDa x s y
theorem bEl (s:List Int) (x:Int) (h:SS s):SS (jJ s x):=by
 unfold jJ;split
 ·exact h
 rename_i hn;exact aRz x s h (by simpa using hn)
theorem aMu: ∀(l s:List Int) (y:Int),y∈l.foldl jJ s↔y∈s∨y∈l
 | [],s,y=>by simp
 |x::l,s,y=>by rw[cAm,aMu l _ y,aWr,cDt,or_comm (a:=y=x),or_assoc]
theorem aRn: ∀(l s:List Int),SS s→SS (l.foldl jJ s)
 | [],_,h=>h
 |x::l,s,h=>aRn l _ (bEl s x h)
theorem aSg (l:List Int) (y:Int):y∈y7 l↔y∈l:=by unfold y7;rw[aMu];simp
theorem bCt (l:List Int):SS (y7 l):=aRn l [] .nil
theorem bHn (l:List Int) (y:Int):y∈srt l↔y∈l:=by unfold srt;simp
theorem s9 (s:List Int) (j:Nat) (hj:j<s.length):Lib.keeps s.toArray j=(j==0||s.getD j 0 !=s.getD (j-1) 0):=by
 unfold Lib.keeps;have h1:s.toArray[j]! =s.getD j 0:=by simp[cFk,cEn hj,cFw,hj]
 have h2:s.toArray[j-1]! =s.getD (j-1) 0:=by
  have:j-1<s.length:=by omega
  simp[cFk,cEn this,cFw,this]
 rw[h1,h2];rcases bZl j with e|e
 ·simp[e]
 have h0:(j==0)=false:=by simp;omega
 rw[h0,cCl];by_cases h:s.getD j 0=s.getD (j-1) 0<;>simp[h,show j≠0 by omega,bne]<;>simp_all
theorem aPd (s:List Int):Lib.compact s=((List.range s.length).filter (Lib.keeps s.toArray)).map fun j=>s.getD j 0:=by
 unfold Lib.compact Lib.compactUpTo;apply cEe;intro j hj;have hj:j<s.length:=by simpa using (cFh.1 hj).1
 simp[cFk,cEn hj,cFw,hj]
theorem aMj (s:List Int) (y:Int):y∈Lib.compact s↔y∈s:=by
 rw[aPd];constructor
 ·intro h;obtain ⟨j,hj,rfl⟩:=cAy.1 h;have hj:j<s.length:=by simpa using (cFh.1 hj).1
  rw[cFk,cEn hj];exact cDh hj
 intro h;have key: ∀j,j<s.length→s.getD j 0=y→ ∃i,i<s.length∧s.getD i 0=y∧Lib.keeps s.toArray i=true:=by
  intro j
  induction j with
  |zero=>intro hj e;exact ⟨0,hj,e,by rw[s9 s 0 hj];rfl⟩
  |succ j ih=>
   intro hj e;cases hk:Lib.keeps s.toArray (j+1) with
   |true=>exact ⟨j+1,hj,e,hk⟩
   |false=>
    rw[s9 s (j+1) hj] at hk;have:s.getD (j+1) 0=s.getD j 0:=by
     simp only[cCb,bne_eq_false_iff_eq,bZm] at hk;exact hk.2
    exact ih aN (this▸e)
 obtain ⟨j,hj,e⟩:=List.getElem_of_mem h;obtain ⟨i,hi,e2,hk⟩:=key j hj (by rw[cFk,cEn hj];exact e);exact cAy.2 ⟨i,cFh.2 ⟨by simpa using hi,hk⟩,e2⟩
theorem bLo (l:List Int) (y:Int):y∈mk l↔y∈l:=by unfold mk;rw[aMj,bHn]
theorem bJk (s:List Int) (h:SS s):y7 s=s:=aZo (bCt s) h fun x=>aSg s x
theorem bGk (G:List Int) (g:Int):[g].foldl jJ (y7 (y7 G))=y7 (G++[g]):=by
 rw[bJk _ (bCt G)];unfold y7;rw[bZz]
theorem aTh (j:i9) (L:List i9):fW (j::L)=j.fA::j.fB::fW L:=rfl
theorem mA: ∀{L:List i9} {e f:cP},iG L e=(f,true)→e∈fW L∧f∈fW L
 | [],e,f,h=>by unfold iG at h;cases h
 |j::L,e,f,h=>by
  rw[aTh];unfold iG at h;split at h
  ·rename_i hA;injection h with h1;subst hA;subst h1;simp
  split at h
  ·rename_i hB;injection h with h1;subst hB;subst h1;simp
  have:=mA h;simp[this.1,this.2]
theorem wY: ∀{L:List i9} {e e' f:cP},(fW L).Nodup→iG L e=(f,true)→iG L e'=(f,true)→e=e'
 | [],e,e',f,_,h,_=>by unfold iG at h;cases h
 |j::L,e,e',f,hn,h,h'=>by
  rw[aTh,cCu,cCu] at hn;obtain ⟨n1,n2,n3⟩:=hn;have nA:j.fA∉fW L:=fun hm=>n1 (by simp[hm]);have nAB:j.fA≠j.fB:=fun hm=>n1 (by simp[hm]);have hc: ∀x,iG (j::L) x=(f,true)→(j.fA=x∧j.fB=f)∨(j.fB=x∧j.fA=f)∨iG L x=(f,true):=fun x hx=>by
   unfold iG at hx;split at hx
   ·rename_i hA;injection hx with h1;exact .inl ⟨hA,h1⟩
   split at hx
   ·rename_i hB;injection hx with h1;exact .inr (.inl ⟨hB,h1⟩)
   exact .inr (.inr hx)
  rcases hc e h with ⟨a1,a2⟩|⟨a1,a2⟩|a<;>rcases hc e' h' with ⟨b1,b2⟩|⟨b1,b2⟩|b
  ·exact a1.symm.trans b1
  ·exact absurd (b2.trans a2.symm) nAB
  ·exact absurd (a2▸(mA b).2) n2
  ·exact absurd (a2.trans b2.symm) nAB
  ·exact a1.symm.trans b1
  ·exact absurd (a2▸(mA b).2) nA
  ·exact absurd (b2▸(mA a).2) n2
  ·exact absurd (b2▸(mA a).2) nA
  exact wY n3 a b
abbrev joE (l:aE) (e:cP):cP:=(aK l e).1
abbrev knE (l:aE) (e:cP):Int:=(eP l e.fEl.toNat).fKind
def inR (r:bI) (x:Int):Bool:=fP r.fPath x||fP r.fOver x
def dsG (l:aE) (r:bI):Nat→cP→Option cP
 |0,_=>none
 |n+1,e=>if (aK l e).2=false then none else if 0≤sL l (aK l e).1 then some (aK l e).1 else if (fP r.fPath (aK l e).1.fEl||fP r.fOver (aK l e).1.fEl)=true then none
  else if (aK l e).1.fEl<0∨(l.fElements.length:Int)≤(aK l e).1.fEl then none else if (eP l (aK l e).1.fEl.toNat).fKind=2 then some (aK l e).1
  else if (dK (eP l (aK l e).1.fEl.toNat).fKind (aK l e).1.fSide).length=0 then none else dsG l r n ⟨(aK l e).1.fEl,(dK (eP l (aK l e).1.fEl.toNat).fKind (aK l e).1.fSide).getD 0 default⟩
def Nx (l:aE) (r:bI) (d x:cP):Prop:=(aK l d).2=true∧inR r (joE l d).fEl=false∧knE l (joE l d)≠2∧x=⟨(joE l d).fEl,(dK (knE l (joE l d)) (joE l d).fSide).getD 0 default⟩
inductive Nxs (l:aE) (r:bI):Nat→cP→cP→Prop
 |nil (e:cP):Nxs l r 0 e e
 |snoc {k:Nat} {e d x:cP} (h:Nxs l r k e d) (n:Nx l r d x):Nxs l r (k+1) e x
theorem Nxs.cons {l:aE} {r:bI} {e d:cP} (n:Nx l r e d): ∀{k:Nat} {x:cP},Nxs l r k d x→Nxs l r (k+1) e x
 |_,_,.nil _=>.snoc (.nil _) n
 |_,_,.snoc h m=>.snoc (Nxs.cons n h) m
theorem aAl {l:aE} {r:bI}: ∀{n:Nat} {e f:cP},dsG l r n e=some f→ ∃k d,Nxs l r k e d∧aK l d=(f,true)
 |0,e,f,h=>by cases h
 |n+1,e,f,h=>by
  unfold dsG at h;split at h
  ·cases h
  rename_i h1;have h1:(aK l e).2=true:=by simpa using h1
  split at h
  ·injection h with h;exact ⟨0,e,.nil _,Prod.ext h h1⟩
  split at h
  ·cases h
  rename_i h3;split at h
  ·cases h
  split at h
  ·injection h with h;exact ⟨0,e,.nil _,Prod.ext h h1⟩
  rename_i h5;split at h
  ·cases h
  obtain ⟨k,d,hk,hd⟩:=aAl h;exact ⟨k+1,d,.cons ⟨h1,by unfold inR;simpa using h3,h5,rfl⟩ hk,hd⟩
theorem bDo {k i j:Int} (hk:k=1∨k=3) (hi:0≤i∧i<fS k) (hj:0≤j∧j<fS k) (h:(dK k i).getD 0 default=(dK k j).getD 0 default):i=j:=by
 rcases hk with rfl|rfl
 ·have h2:fS 1=2:=rfl;have:i=0∨i=1:=by omega
  have:j=0∨j=1:=by omega
  rcases ‹i=0∨i=1› with rfl|rfl<;>rcases ‹j=0∨j=1› with rfl|rfl<;>first|rfl|exact absurd h gS
 have h2:fS 3=4:=rfl;have hi':i=0∨i=1∨i=2∨i=3:=by omega
 have hj':j=0∨j=1∨j=2∨j=3:=by omega
 rcases hi' with rfl|rfl|rfl|rfl<;>rcases hj' with rfl|rfl|rfl|rfl<;>first|rfl|exact absurd h gS
section
variable {l:aE} {r:bI} (hv:Vld l) (hJ:(fW l.fJoints).Nodup)
include hv hJ
theorem bNx {d d' x:cP} (h:Nx l r d x) (h':Nx l r d' x):d=d':=by
 obtain ⟨a1,a2,a3,a4⟩:=h;obtain ⟨b1,b2,b3,b4⟩:=h';rw[a4] at b4;have b5:=(fT _ _).1 b4;have e1:(joE l d).fEl=(joE l d').fEl:=b5.1;have e2:(dK (knE l (joE l d)) (joE l d).fSide).getD 0 default=(dK (knE l (joE l d')) (joE l d').fSide).getD 0 default:=b5.2;have v1:=uJ hv a1;have v2:=uJ hv b1;have hk:knE l (joE l d)=knE l (joE l d'):=by unfold knE;rw[e1]
 have e3:(joE l d).fSide=(joE l d').fSide:=by
  refine bDo (k:=knE l (joE l d)) (by have:=v1.2.2.2;have:knE l (joE l d)=(eP l (aK l d).1.fEl.toNat).fKind:=rfl;omega) ⟨v1.2.1,v1.2.2.1⟩ ?_ (by rw[e2,hk]);rw[hk];exact ⟨v2.2.1,v2.2.2.1⟩
 have e4:joE l d=joE l d':=(fT _ _).2 ⟨e1,e3⟩;exact wY (f:=joE l d) hJ (Prod.ext rfl a1) (Prod.ext e4.symm b1)
theorem aJu: ∀{k k':Nat} {e e' x:cP},Nxs l r k e x→Nxs l r k' e' x→(∃j,Nxs l r j e e')∨ ∃j,Nxs l r j e' e
 |_,k',e,e',_,.nil _,h'=>.inr ⟨k',h'⟩
 |k+1,_,e,e',_,.snoc h n,.nil _=>.inl ⟨k+1,.snoc h n⟩
 |_,_,e,e',_,.snoc h n,.snoc h' n'=>by
  have:=bNx hv hJ n n';subst this;exact aJu h h'
omit hv hJ in
theorem bDx {j:Nat} {e e':cP} (h:Nxs l r j e e') (hin:inR r e'.fEl=true):e=e':=by
 cases h with
 |nil=>rfl
 |snoc h n=>
  obtain ⟨_,n2,_,n4⟩:=n;rw[n4] at hin;rw[n2] at hin;cases hin
theorem bMy {n:Nat} {e e' f:cP} (h:dsG l r n e=some f) (h':dsG l r n e'=some f) (hi:inR r e.fEl=true) (hi':inR r e'.fEl=true):e=e':=by
 obtain ⟨k,d,c1,c2⟩:=aAl h;obtain ⟨k',d',c1',c2'⟩:=aAl h';have:=wY hJ c2 c2';subst this;rcases aJu hv hJ c1 c1' with ⟨j,h⟩|⟨j,h⟩
 ·exact bDx h hi'
 exact (bDx h hi).symm
end
def wFG (r:bI) (F:List aM) (G:List Int) (P:List cP):bI:=⟨r.fName,r.fEntry,r.fExit,r.fPath,r.fPoints,r.fSections,r.fApproach,r.fLength,r.fOver,r.fOverPoints,r.fOverSections,F,G,P⟩
theorem aMy {l:aE} {r r':bI} (h1:r.fPath=r'.fPath) (h2:r.fOver=r'.fOver) (h3: ∀s,ndR r s=ndR r' s): ∀(n:Nat) (e:cP),yS l r n e=yS l r' n e
 |0,_=>rfl
 |n+1,e=>by
  have ha: ∀f,awS r f=awS r' f:=fun f=>by unfold awS;rw[h3]
  unfold yS;rw[h1,h2,ha,aMy h1 h2 h3 n]
theorem aLa {r:bI} {f:cP} {s:aM} (h:awS r f=some s):(f.fSide=1∨f.fSide=2)∧s=⟨f.fEl,3-f.fSide⟩∧ndR r ⟨f.fEl,f.fSide⟩=false:=by
 unfold awS at h;split at h
 ·cases h
 rename_i hc;injection h with h
 have hn:(cS 2 f.fSide 0).2=true∧ndR r ⟨f.fEl,(cS 2 f.fSide 0).1⟩=false:=by
  constructor
  ·cases hx:(cS 2 f.fSide 0).2 with
   |true=>rfl
   |false=>exact absurd (.inl hx) hc
  cases hx:ndR r ⟨f.fEl,(cS 2 f.fSide 0).1⟩ with
  |false=>rfl
  |true=>exact absurd (.inr hx) hc
 have h12:(f.fSide=1∧cS 2 f.fSide 0=(1,true))∨(f.fSide=2∧cS 2 f.fSide 0=(2,true)):=by
  have:=hn.1;rw[bKc] at this ⊢;split at this
  ·rename_i hq;left;refine ⟨by omega,?_⟩;rw[if_pos hq]
  split at this
  ·rename_i hp hq;right;refine ⟨by omega,?_⟩;rw[if_neg hp,if_pos hq]
  cases this
 rcases h12 with ⟨q1,q2⟩|⟨q1,q2⟩
 ·rw[q2] at h hn;refine ⟨.inl q1,?_,?_⟩
  ·rw[← h,q1]
  rw[q1];exact hn.2
 rw[q2] at h hn;refine ⟨.inr q1,?_,?_⟩
 ·rw[← h,q1]
 rw[q1];exact hn.2
theorem aMq {l:aE} {r:bI}: ∀{n:Nat} {e:cP} {s:aM} {g:Int},yS l r n e=some (s,g)→(s=St0∧ -1≤g)∨(g= -1∧ ∃f,dsG l r n e=some f∧awS r f=some s)
 |0,e,s,g,h=>by cases h
 |n+1,e,s,g,h=>by
  unfold yS at h;unfold dsG;split at h
  ·injection h with h;injection h with h1 h2;exact .inl ⟨h1.symm,by omega⟩
  rename_i h1;rw[if_neg h1];split at h
  ·injection h with h;injection h with h1 h2;exact .inl ⟨h1.symm,by omega⟩
  rename_i h2;rw[if_neg h2];split at h
  ·injection h with h;injection h with h1 h2;exact .inl ⟨h1.symm,by omega⟩
  rename_i h3;rw[if_neg h3];split at h
  ·cases h
  rename_i h4;rw[if_neg h4];split at h
  ·rename_i h5;rw[if_pos h5];rw[cBa] at h;obtain ⟨s',hs,he⟩:=h;injection he with e1 e2
   subst e1;exact .inr ⟨e2.symm,_,rfl,hs⟩
  rename_i h5;rw[if_neg h5];split at h
  ·cases h
  rename_i h6;rw[if_neg h6];exact aMq h
theorem aMd {l:aE} {r r':bI} (h1:r.fPath=r'.fPath) (h2:r.fOver=r'.fOver): ∀(n:Nat) (e:cP),dsG l r n e=dsG l r' n e
 |0,_=>rfl
 |n+1,e=>by
  unfold dsG;rw[h1,h2,aMd h1 h2 n]
abbrev FS:=List aM×List Int×List cP
def jR (l:aE) (r:bI) (st:FS) (e:cP):aM×Int×Bool:=prT (yS l (wFG r st.1 st.2.1 st.2.2) 4 e)
def flA (l:aE) (r:bI) (st:FS) (e:cP):FS:=
 if (jR l r st e).2.2=false then (st.1,st.2.1,st.2.2++[e]) else if 0≤(jR l r st e).2.1 then (st.1,st.2.1++[(jR l r st e).2.1],st.2.2) else if (jR l r st e).1≠St0 then (st.1++[(jR l r st e).1],st.2.1,st.2.2) else st
def flF (l:aE) (r:bI) (E:List cP):FS:=E.foldl (flA l r) ([],[],[])
def rfA (l:aE) (r:bI) (st:FS) (e:cP):FS:=
 (if (jR l r st e).1.fPos≠0 then tX st.1 (jR l r st e).1 else st.1,if 0≤(jR l r st e).2.1 then [(jR l r st e).2.1].foldl jJ (y7 st.2.1) else st.2.1,if (jR l r st e).2.2=false then st.2.2++[e] else st.2.2)
def rfF (l:aE) (r:bI) (E:List cP):FS:=E.foldl (rfA l r) ([],[],[])
theorem bRh (l:aE) (r:bI) (E:List cP) (e:cP):flF l r (E++[e])=flA l r (flF l r E) e:=by unfold flF;rw[bZz];rfl
theorem bCj (l:aE) (r:bI) (E:List cP) (e:cP):rfF l r (E++[e])=rfA l r (rfF l r E) e:=by unfold rfF;rw[bZz];rfl
theorem bEy {F:List aM} {s:aM} (h:((F++[s]).map (·.fEl)).Nodup):tX (eK F) s=eK (F++[s]):=by
 rw[cAl,cCx] at h;have hne: ∀y∈eK F,y.fEl≠s.fEl:=fun y hy e=>h.2.2 y.fEl (cAy.2 ⟨y,(jD F y).1 hy,rfl⟩) s.fEl b7 e;have hno:eL (eK F) s=false:=by
  rw[← cDg,rN];intro hm;exact hne s hm rfl
 have ha:=qK F;refine pE ?_ (qK _) fun x=>?_
 ·unfold tX;rw[if_neg (by rw[hno];simp)];have hp:Asc ((eK F).take (kP (eK F) s)++(eK F).drop (kP (eK F) s)):=by rw[cCo];exact ha
  unfold Asc at hp ⊢;rw[cDa] at hp;have hlo: ∀y∈(eK F).take (kP (eK F) s),mM y s=true:=fun y hy=>by
   obtain ⟨i,hi,rfl⟩:=cAo.1 hy;rw[cCw] at hi;have h1:=bKi (q:=eK F) (s:=s) (i:=i) aN;rw[List.getElem_take];rw[cFk,cEn (show i<(eK F).length by omega),bZy] at h1;have h2:=hne _ (cDh (show i<(eK F).length by omega));rw[gN];omega
  have hhi: ∀y∈(eK F).drop (kP (eK F) s),mM s y=true:=fun y hy=>by
   rcases cBd (kP (eK F) s) (eK F).length with hlt|hge
   ·have h1:=aZu hlt;have h3:=hp.2.1;rw[bK default hlt] at hy h3;have h0:mM s ((eK F).getD (kP (eK F) s) default)=true:=by rw[gN];exact .inl h1
    rcases cDt.1 hy with rfl|hy
    ·exact h0
    exact wG h0 ((cBi.1 h3).1 y hy)
   rw[cDf hge] at hy;cases hy
  rw[cFe,cDa];refine ⟨hp.1,?_,fun a ha' b hb=>?_⟩
  ·rw[List.singleton_append,cBi];exact ⟨hhi,hp.2.1⟩
  rcases cEh.1 hb with hb|hb
  ·rw[cBq.1 hb];exact hlo a ha'
  exact hp.2.2 a ha' b hb
 unfold tX;have hr:x∈F++[s]↔x∈eK F∨x=s:=by rw[cEh,cBq,jD]
 rw[if_neg (by rw[hno];simp),jD,hr];have hm:x∈eK F↔x∈(eK F).take (kP (eK F) s)∨x∈(eK F).drop (kP (eK F) s):=by rw[← cEh,cCo]
 rw[hm,cEh,cEh,cBq];constructor
 ·rintro ((h|h)|h)
  ·exact .inl (.inl h)
  ·exact .inr h
  exact .inl (.inr h)
 rintro ((h|h)|h)
 ·exact .inl (.inl h)
 ·exact .inr h
 exact .inl (.inr h)
def FlI (l:aE) (r:bI) (E:List cP) (F:List aM):Prop:=(F.map (·.fEl)).Nodup∧ ∀s∈F,∃e∈E,∃f,dsG l r 4 e=some f∧(f.fSide=1∨f.fSide=2)∧s=⟨f.fEl,3-f.fSide⟩
theorem FlI.more {l:aE} {r:bI} {E:List cP} {F:List aM} (h:FlI l r E F) (e:cP):FlI l r (E++[e]) F:=⟨h.1,fun s hs=>by
 obtain ⟨x,hx,y⟩:=h.2 s hs;exact ⟨x,by simp[hx],y⟩⟩
theorem bIo {l:aE} {r:bI} (hv:Vld l) (hJ:(fW l.fJoints).Nodup) {E:List cP} {e f:cP} {F:List aM} {G:List Int} {P:List cP} {s:aM} (h:FlI l r E F) (hE: ∀x∈E++[e],inR r x.fEl=true) (hn:e∉E) (hd:dsG l r 4 e=some f) (ha:awS (wFG r F G P) f=some s):FlI l r (E++[e]) (F++[s]):=by
 obtain ⟨a1,a2,a3⟩:=aLa ha;have hnd:⟨f.fEl,f.fSide⟩∉F:=fun hm=>by
  have:eL F ⟨f.fEl,f.fSide⟩=true:=rN.2 hm;have h2:ndR (wFG r F G P) ⟨f.fEl,f.fSide⟩=(eL r.fPoints ⟨f.fEl,f.fSide⟩||eL r.fOverPoints ⟨f.fEl,f.fSide⟩||eL F ⟨f.fEl,f.fSide⟩):=rfl;rw[a3,this] at h2;simp at h2
 refine ⟨?_,fun x hx=>?_⟩
 ·rw[cAl,cCx];refine ⟨h.1,by simp,fun x hx y hy he=>?_⟩;simp only[cEb,cDk,cBq] at hy;obtain ⟨s',hs',rfl⟩:=cAy.1 hx;obtain ⟨e',he',f',hd',hs1,hs2⟩:=h.2 s' hs';rw[hy,a2] at he;simp only at he;have hel:f'.fEl=f.fEl:=by rw[hs2] at he;exact he
  by_cases hsd:f'.fSide=f.fSide
  ·have:f'=f:=(fT _ _).2 ⟨hel,hsd⟩;subst this;have:=bMy hv hJ hd' hd (hE e' (by simp[he'])) (hE e b7);subst this;exact hn he'
  refine hnd ?_;have:s'=⟨f.fEl,f.fSide⟩:=by
   rw[hs2,gO];exact ⟨hel,by simp only;omega⟩
  rw[← this];exact hs'
 rcases cEh.1 hx with hx|hx
 ·obtain ⟨y,hy,q⟩:=h.2 x hx;exact ⟨y,by simp[hy],q⟩
 rw[cBq.1 hx];exact ⟨e,by simp,f,hd,a1,a2⟩
theorem bQy (l:aE) (r:bI) (F:List aM) (G G':List Int) (P:List cP) (e:cP):jR l r (eK F,G',P) e=jR l r (F,G,P) e:=by
 show prT (yS l (wFG r (eK F) G' P) 4 e)=prT (yS l (wFG r F G P) 4 e);refine congrArg prT (aMy (r:=wFG r (eK F) G' P) (r':=wFG r F G P) rfl rfl (fun s=>?_) 4 e);have:eL (eK F) s=eL F s:=by rw[cBk,rN,rN,jD]
 show (eL r.fPoints s||eL r.fOverPoints s||eL (eK F) s)=(eL r.fPoints s||eL r.fOverPoints s||eL F s);rw[this]
theorem aXh:eK []=[]:=by
 have:=z7 [];exact cEj (by simpa using this)
theorem aUp {l:aE} {r:bI} (hv:Vld l) (hJ:(fW l.fJoints).Nodup): ∀(n:Nat) (E:List cP),E.length=n→E.Nodup→(∀x∈E,inR r x.fEl=true)→FlI l r E (flF l r E).1∧rfF l r E=(eK (flF l r E).1,y7 (flF l r E).2.1,(flF l r E).2.2):=by
 intro n
 induction n with
 |zero=>
  intro E h _ _;rw[cEm.1 h];exact ⟨⟨List.Pairwise.nil,fun s hs=>by cases hs⟩,by show ([],[],[])=(eK [],y7 [],[]);rw[aXh];rfl⟩
 |succ n ih=>
  intro E h hnd hin;obtain ⟨Q,e,rfl⟩: ∃Q p,E=Q++[p]:=⟨E.dropLast,E.getLast (by intro e;rw[e] at h;cases h),(List.dropLast_concat_getLast _).symm⟩;rw[cCx] at hnd;obtain ⟨h1,h2⟩:=ih Q (by simpa using h) hnd.1 (fun x hx=>hin x (by simp[hx]));have hn:e∉Q:=fun hm=>hnd.2.2 e hm e b7 rfl;rw[bRh,bCj,h2];generalize hst:flF l r Q=st at h1 h2 ⊢;obtain ⟨F,G,P⟩:=st;simp only at h1;have hw:jR l r (eK F,y7 G,P) e=jR l r (F,G,P) e:=bQy l r F G (y7 G) P e;unfold flA rfA;rw[hw];cases hp:yS l (wFG r F G P) 4 e with
  |none=>
   have hs:jR l r (F,G,P) e=(St0,-1,false):=by unfold jR;rw[hp];rfl
   rw[hs];exact ⟨h1.more e,rfl⟩
  |some q=>
   obtain ⟨s,g⟩:=q;have hs:jR l r (F,G,P) e=(s,g,true):=by unfold jR;rw[hp];rfl
   rw[hs];simp only[Bool.true_eq_false,cFv];rcases aMq hp with ⟨p1,p2⟩|⟨p1,f,p3,p4⟩
   ·subst p1;rw[if_neg (show ¬(St0.fPos≠0) from fun h=>h rfl)];by_cases hg:0≤g
    ·rw[if_pos hg,if_pos hg];exact ⟨h1.more e,by rw[bGk]⟩
    rw[if_neg hg,if_neg hg,if_neg (fun h=>h rfl)];exact ⟨h1.more e,rfl⟩
   subst p1;have p5:dsG l r 4 e=some f:=by rw[← p3];exact aMd rfl rfl 4 e
   have hnew:=bIo hv hJ h1 hin hn p5 p4;obtain ⟨a1,a2,a3⟩:=aLa p4;have hpos:s.fPos≠0:=by rw[a2];simp only;omega
   rw[if_pos hpos,if_neg (show ¬(0:Int)≤ -1 by omega),if_neg (show ¬(0:Int)≤ -1 by omega),if_pos (show s≠St0 from fun h=>hpos (by rw[h]))];exact ⟨hnew,by rw[bEy hnew.1]⟩
theorem bMb (s:bF) (n:Nat):(bsN s n).Nodup:=by
 unfold bsN List.Nodup;rw[List.pairwise_map];refine (List.nodup_range.filter _).imp fun h e=>h ?_;have:=((fT _ _).1 e).2;simp only at this;omega
theorem bLh (l:aE) (s:bF):(pX l s).Nodup:=by
 unfold pX;split
 ·exact bMb _ _
 exact List.nodup_nil
theorem aOr {l:aE} {s:bF} {e:cP} (h:e∈pX l s):e.fEl=s.fEl:=by
 unfold pX at h;split at h
 ·unfold bsN at h;obtain ⟨i,_,rfl⟩:=cAy.1 h;rfl
 cases h
theorem aSp {l:aE}: ∀{q:List bF},(q.map (·.fEl)).Nodup→(cI l q).Nodup
 | [],_=>List.nodup_nil
 |a::q,h=>by
  rw[cEb,cCu] at h;unfold cI;rw[cAj,cCx];refine ⟨bLh l a,aSp h.2,fun x hx y hy e=>?_⟩;obtain ⟨s,hs,hy⟩:=cFb.1 hy;subst e;have e1:=aOr hx;have e2:=aOr hy;exact h.1 (cAy.2 ⟨s,hs,by rw[← e2,e1]⟩)
theorem bFx {l:aE} {r:bI} {e:cP} (h:e∈cI l (r.fPath++r.fOver)):inR r e.fEl=true:=by
 obtain ⟨s,hs,he⟩:=cFb.1 h;unfold inR;rw[aOr he,cEx,xZ,xZ];rcases cEh.1 hs with h|h
 ·exact .inl ⟨s,h,rfl⟩
 exact .inr ⟨s,h,rfl⟩
def aIf (l:aE) (r:bI):bI:=wFG r (eK (flF l r (cI l (r.fPath++r.fOver))).1) (y7 (flF l r (cI l (r.fPath++r.fOver))).2.1) (flF l r (cI l (r.fPath++r.fOver))).2.2
theorem bHj {l:aE} {r:bI} (hv:Vld l) (hJ:(fW l.fJoints).Nodup) (hr:((r.fPath++r.fOver).map (·.fEl)).Nodup):
  ((flF l r (cI l (r.fPath++r.fOver))).1.map (·.fEl)).Nodup∧wFG r (rfF l r (cI l (r.fPath++r.fOver))).1 (rfF l r (cI l (r.fPath++r.fOver))).2.1 (rfF l r (cI l (r.fPath++r.fOver))).2.2=aIf l r:=by
 obtain ⟨h1,h2⟩:=aUp hv hJ _ _ rfl (aSp hr) (fun x hx=>bFx hx);exact ⟨h1.1,by rw[h2];rfl⟩
def xF (l:aE) (sc:List Int) (q:List bF) (e:Int):Bool:=fP q e||sc.contains (cJ l e)
theorem aKm {l:aE} {e x:Int} {sc:List Int}:(x::sc).contains (cJ l e)=(decide (x=cJ l e)||sc.contains (cJ l e)):=by
 rw[cFf];congr 1;rw[cBk,cCe,cFp];exact eq_comm
section
attribute [local go_sem] cBv bYf bYg bYj bYb bYz bZa bYt bYn bZc bYq bYi bYd bYe bYc bYo bYv bYp bYr bZb bYu bYy bYw bYs bYx bYl bYm bYk bYh cGi cAr Nat.mul_one cAh
end
section
attribute [local go_sem] cBv bYf bYg bYj bYb bYz bZa bYt bYn bZc bYq bYi bYd bYe bYc bYo bYv bYp bYr bZb bYu bYy bYw bYs bYx bYl bYm bYk bYh cGi cAr Nat.mul_one cAh
end
def ovG (l:aE) (ov:Int) (sc:List Int):Nat→List bF→cP×Bool→List bF
 |0,o,_=>o
 |n+1,o,a=>if ((a.2=true∧fQ l o<ov)∧o.length<12)∧xF l sc o a.1.fEl=false∧(e7 l a.1).length≠0 then ovG l ov sc n (o++[(e7 l a.1).getD 0 default]) (cR l ((e7 l a.1).getD 0 default)) else o
theorem bKe {l:aE} {ov:Int} {sc:List Int} {n:Nat} {o:List bF} {a:cP×Bool} (h: ¬(((a.2=true∧fQ l o<ov)∧o.length<12)∧xF l sc o a.1.fEl=false∧(e7 l a.1).length≠0)):ovG l ov sc n o a=o:=by
 cases n with
 |zero=>rfl
 |succ n=>rw[ovG,if_neg h]
theorem bQx {l:aE} {ov:Int} {sc:List Int} {n:Nat} {o:List bF} {a:cP×Bool} (h:((a.2=true∧fQ l o<ov)∧o.length<12)∧xF l sc o a.1.fEl=false∧(e7 l a.1).length≠0):ovG l ov sc (n+1) o a=ovG l ov sc n (o++[(e7 l a.1).getD 0 default]) (cR l ((e7 l a.1).getD 0 default)):=by rw[ovG,if_pos h]
def ovS (l:aE) (r:bI):List bF:=if (m8 l r).2=true then ovG l (m8 l r).1.fOverlap r.fSections 12 [] (aK l (m8 l r).1.fAt) else []
theorem aQr {l:aE} {ov:Int} {sc:List Int}: ∀(n:Nat) (o:List bF) (a:cP×Bool),(ovG l ov sc n o a).length≤o.length+n
 |0,o,a=>by simp[ovG]
 |n+1,o,a=>by
  unfold ovG;split
  ·have:=aQr (l:=l) (ov:=ov) (sc:=sc) n (o++[(e7 l a.1).getD 0 default]) (cR l ((e7 l a.1).getD 0 default));rw[cAb,bZp] at this;omega
  omega
theorem bJa (l:aE) (r:bI):(ovS l r).length≤12:=by
 unfold ovS;split
 ·have:=aQr (l:=l) (ov:=(m8 l r).1.fOverlap) (sc:=r.fSections) 12 [] (aK l (m8 l r).1.fAt);simpa using this
 simp
structure Rtk (r:bI):Prop where
 pa:r.fPath.length≤100
 po:r.fPoints.length≤100
 se:r.fSections.length≤100
 ov:r.fOver.length≤100
 op:r.fOverPoints.length≤100
 os:r.fOverSections.length≤100
 fl:r.fFlank.length≤1000
 gu:r.fGuards.length≤1000
 ga:r.fGaps.length≤1000
def ovF (l:aE) (r:bI):bI:=⟨r.fName,r.fEntry,r.fExit,r.fPath,r.fPoints,r.fSections,r.fApproach,r.fLength,ovS l r,pV l (ovS l r),dC l (ovS l r),r.fFlank,r.fGuards,r.fGaps⟩
theorem aLb {l:aE} {a:cP} {s:bF} (h:s∈e7 l a):s.fEl=a.fEl:=by
 cases he:pQ l a.fEl with
 |false=>rw[bDb he] at h;cases h
 |true=>
  rw[bAx he] at h;obtain ⟨o,ho,rfl⟩:=cAy.1 h;rfl
theorem aWv {l:aE} {ov:Int} {sc:List Int}: ∀(n:Nat) (o:List bF) (a:cP×Bool),(o.map (·.fEl)).Nodup→((ovG l ov sc n o a).map (·.fEl)).Nodup
 |0,o,a,h=>h
 |n+1,o,a,h=>by
  unfold ovG;split
  ·rename_i hc;refine aWv n _ _ ?_;rw[cAl,cCx];refine ⟨h,by simp,fun x hx y hy e=>?_⟩;simp only[cEb,cDk,cBq] at hy;have hb:=hc.2.1;unfold xF at hb;rw[cCb] at hb;have hm:(e7 l a.1).getD 0 default∈e7 l a.1:=gD (by have:=hc.2.2;omega);rw[(aLb hm)] at hy;have:fP o a.1.fEl=true:=xZ.2 (by
    obtain ⟨s,hs,hse⟩:=cAy.1 hx;exact ⟨s,hs,by rw[hse,e,hy]⟩)
   rw[this] at hb;cases hb.1
  exact h
theorem bNo (l:aE) (r:bI):((ovS l r).map (·.fEl)).Nodup:=by
 unfold ovS;split
 ·exact aWv _ _ _ b7
 simp
abbrev ePt (q:List bF):List DV:=[cA q]
abbrev rgP (h:Hd) (P:List (List bF)):Rg:=.row h 67 1 (P.map ePt)
section
variable (l:aE) (h h':Hd) (n m:Nat)
end
theorem l5 {l:aE} (hv:Vld l) {e:cP} (h1:(aK l e).2=true): ¬((aK l e).1.fEl<0∨(l.fElements.length:Int)≤(aK l e).1.fEl):=by have:=uJ hv h1;omega
section
attribute [local go_sem] cBv bYf bYg bYj bYb bYz bZa bYt bYn bZc bYq bYi bYd bYe bYc bYo bYv bYp bYr bZb bYu bYy bYw bYs bYx bYl bYm bYk bYh
set_option maxRecDepth 20000 in
theorem zX (O:aV) (l:aE) (r:bI) (e0:cP) (hv:Vld l):bB Tryz.prog O 107 [.agg (aQ l),.agg (bR r),.agg (cN e0)] (.tup [.agg (bJ (prT (yS l r 4 e0)).1),vi (prT (yS l r 4 e0)).2.1,vb (prT (yS l r 4 e0)).2.2]):=by
 have hl:=hv.few;refine dD Tryz.func107 ?_;refine aB [0,1,2] ?_;refine aA fun _ Z1=>aB [3,4,5,6] ?_;refine aD (aT [3,4,5,6,9] (fun n ρ=> ∃j,∃e,n=4-j∧(j≤4)∧(yS l r 4 e0=yS l r (4-j) e)∧ρ=cO O [(3,.bx (aQ l)),(4,.bx (bR r)),(5,.bx (cN e)),(6,.bx [vi 0,vi 0]),(9,vi (j:Nat))]) _ ⟨0,e0,rfl,?_,?_,?_⟩ ?_)
 ·exact bE
 ·rfl
 ·exact b9
 rintro n ρ ⟨j,e,rfl,l0_0,l0_1,rfl⟩ _ Z3;refine aA fun _ Z4=>aB [3,4,5,6,9] ?_;refine aL (fun c0=>?_) fun c0=>?_
 ·have h4j:4-j=(4-(j+1))+1:=by omega
  refine aC (Z4 _ (aA fun _ Z6=>aD (aA fun _ Z7=>bL [3,4,5,6,9] ?_)));refine fF (gF _ l e) ?_;refine Z7 _ (aA fun _ Z8=>aB [3,4,5,6,9,10,11] ?_);refine aL (fun c1=>?_) fun c1=>?_
  ·have h1:(aK l e).2=false:=(by simpa using c1);refine aB [6] ?_;refine aG (yJ (.cons ?_ (.cons ?_ (.cons ?_ .nil))))
   ·exact roC (by ((try simp only[go_sem,seval]);try simp (disch:=omega) only[go_sem,seval])<;>rfl) (by ((try simp only[go_sem,seval]);try simp (disch:=omega) only[go_sem,seval])<;>((rw[l0_1,h4j,aYc h1];first|done|rfl))) aZ (by first|rfl|(((try simp only[go_sem,seval]);try simp (disch:=omega) only[go_sem,seval])))
   ·exact kD (by ((try simp only[go_sem,seval]);try simp (disch:=omega) only[go_sem,seval])<;>((rw[l0_1,h4j,aYc h1];first|done|rfl))) rfl rfl
   exact kD (by ((try simp only[go_sem,seval]);try simp (disch:=omega) only[go_sem,seval])<;>((rw[l0_1,h4j,aYc h1];first|done|rfl))) rfl rfl
  have h1:(aK l e).2=true:=(by simpa using c1);refine aC (Z8 _ (aA fun _ Z11=>bL [3,4,5,6,9,10] ?_));refine fF (pL _ l (aK l e).1) ?_;refine Z11 _ (aA fun _ Z12=>aB [3,4,5,6,9,10,12] ?_);refine aL (fun c2=>?_) fun c2=>?_
  ·have h2:0≤sL l (aK l e).1:=(by simpa using c2);refine aB [6,12] ?_;refine aG (yJ (.cons ?_ (.cons ?_ (.cons ?_ .nil))))
   ·exact roC (by ((try simp only[go_sem,seval]);try simp (disch:=omega) only[go_sem,seval])<;>rfl) (by ((try simp only[go_sem,seval]);try simp (disch:=omega) only[go_sem,seval])<;>((rw[l0_1,h4j,bAi h1 h2];first|done|rfl))) aZ (by first|rfl|(((try simp only[go_sem,seval]);try simp (disch:=omega) only[go_sem,seval])))
   ·exact kD (by ((try simp only[go_sem,seval]);try simp (disch:=omega) only[go_sem,seval])<;>((rw[l0_1,h4j,bAi h1 h2];first|done|rfl))) rfl rfl
   exact kD (by ((try simp only[go_sem,seval]);try simp (disch:=omega) only[go_sem,seval])<;>((rw[l0_1,h4j,bAi h1 h2];first|done|rfl))) rfl rfl
  have h2: ¬0≤sL l (aK l e).1:=(by simpa using c2);refine aC (Z12 _ (aA fun _ Z15=>aA fun _ Z16=>bL [3,4,5,6,9,10] ?_));refine fF (tC _ r.fPath (aK l e).1.fEl) ?_;refine i0 (fun g0=>tC _ r.fOver (aK l e).1.fEl) ?_;refine Z16 _ (aL (fun c3=>?_) fun c3=>?_)
  ·have h3:(fP r.fPath (aK l e).1.fEl||fP r.fOver (aK l e).1.fEl)=true:=(by simpa using c3);refine aB [6] ?_;refine aG (yJ (.cons ?_ (.cons ?_ (.cons ?_ .nil))))
   ·exact roC (by ((try simp only[go_sem,seval]);try simp (disch:=omega) only[go_sem,seval])<;>rfl) (by ((try simp only[go_sem,seval]);try simp (disch:=omega) only[go_sem,seval])<;>((rw[l0_1,h4j,aXr h1 h2 h3];first|done|rfl))) aZ (by first|rfl|(((try simp only[go_sem,seval]);try simp (disch:=omega) only[go_sem,seval])))
   ·exact kD (by ((try simp only[go_sem,seval]);try simp (disch:=omega) only[go_sem,seval])<;>((rw[l0_1,h4j,aXr h1 h2 h3];first|done|rfl))) rfl rfl
   exact kD (by ((try simp only[go_sem,seval]);try simp (disch:=omega) only[go_sem,seval])<;>((rw[l0_1,h4j,aXr h1 h2 h3];first|done|rfl))) rfl rfl
  have h3:(fP r.fPath (aK l e).1.fEl||fP r.fOver (aK l e).1.fEl)=false:=(by simpa using c3);refine aC (Z15 _ (aA fun _ Z18=>aA fun _ Z19=>?_));have hA1:((aK l e).1.fEl<0)=False:=eq_false (by have:=l5 hv h1;omega);have hA2:((l.fElements.length:Int)≤(aK l e).1.fEl)=False:=eq_false (by have:=l5 hv h1;omega);refine aU [3,4,5,6,9,10] aZ ?_;((try simp only[go_sem,seval,hA1,hA2,decide_false,Bool.or_false,cCl,aXd,aWo]);try simp (disch:=omega) only[go_sem,seval,hA1,hA2,decide_false,Bool.or_false,cCl,aXd,aWo])
  repeat refine bZh bM ?_
  repeat refine bZh bM ?_
  refine Z19 _ (aL (fun c4=>?_) fun c4=>?_)
  ·have h5:(l.fElements.getD (aK l e).1.fEl.toNat default).fKind=2∧(aK l e).1.fSide=0:=(by have:=l5 hv h1;omega);have h6:awS r (aK l e).1=none:=bSx (.inl (by rw[h5.2];rfl));refine aB [6] ?_;refine aG (yJ (.cons ?_ (.cons ?_ (.cons ?_ .nil))))
   ·exact roC (by ((try simp only[go_sem,seval]);try simp (disch:=omega) only[go_sem,seval])<;>rfl) (by ((try simp only[go_sem,seval]);try simp (disch:=omega) only[go_sem,seval])<;>((rw[l0_1,h4j,aGv h1 h2 h3 (l5 hv h1) h5.1,h6];first|done|rfl))) aZ (by first|rfl|(((try simp only[go_sem,seval]);try simp (disch:=omega) only[go_sem,seval])))
   ·exact kD (by ((try simp only[go_sem,seval]);try simp (disch:=omega) only[go_sem,seval])<;>((rw[l0_1,h4j,aGv h1 h2 h3 (l5 hv h1) h5.1,h6];first|done|rfl))) rfl rfl
   exact kD (by ((try simp only[go_sem,seval]);try simp (disch:=omega) only[go_sem,seval])<;>((rw[l0_1,h4j,aGv h1 h2 h3 (l5 hv h1) h5.1,h6];first|done|rfl))) rfl rfl
  have h50: ¬((l.fElements.getD (aK l e).1.fEl.toNat default).fKind=2∧(aK l e).1.fSide=0):=(by have:=l5 hv h1;omega);refine aC (Z18 _ (aA fun _ Z21=>aB [3,4,5,6,9,10] ?_));refine aL (fun c5=>?_) fun c5=>?_
  ·have h5:(eP l (aK l e).1.fEl.toNat).fKind=2:=(by simpa using c5);have hs12:(aK l e).1.fSide=1∨(aK l e).1.fSide=2:=(by have hve:=uJ hv h1;have hs3:=hve.2.2.1;have hs4:=hve.2.1;rw[h5] at hs3;have h9:fS 2=3:=rfl;omega);have hlg:=bNu (r:=r) hs12;refine aA fun _ Z23=>bL [4,6,10] ?_;refine fF (aIo _ r (aK l e).1) ?_;refine Z23 _ (aG (yJ (.cons ?_ (.cons ?_ (.cons ?_ .nil)))))
   ·exact roC (by ((try simp only[go_sem,seval]);try simp (disch:=omega) only[go_sem,seval])<;>rfl) (by ((try simp only[go_sem,seval]);try simp (disch:=omega) only[go_sem,seval])<;>((rw[l0_1,h4j,aGv h1 h2 h3 (l5 hv h1) h5,← hlg]))) aZ (by first|rfl|(((try simp only[go_sem,seval]);try simp (disch:=omega) only[go_sem,seval])))
   ·exact kD (by ((try simp only[go_sem,seval]);try simp (disch:=omega) only[go_sem,seval])<;>((rw[l0_1,h4j,aGv h1 h2 h3 (l5 hv h1) h5,← hlg]))) rfl rfl
   exact kD (by ((try simp only[go_sem,seval]);try simp (disch:=omega) only[go_sem,seval])<;>((rw[l0_1,h4j,aGv h1 h2 h3 (l5 hv h1) h5,← hlg]))) rfl rfl
  have h5: ¬(eP l (aK l e).1.fEl.toNat).fKind=2:=(by simpa using c5);have hol:(oV (eP l (aK l e).1.fEl.toNat).fKind (aK l e).1.fSide 0 4).1=(dK (eP l (aK l e).1.fEl.toNat).fKind (aK l e).1.fSide).getD 0 default∧(dK (eP l (aK l e).1.fEl.toNat).fKind (aK l e).1.fSide).length≠0:=(by have hve:=uJ hv h1;exact aXz aN hve.2.1 hve.2.2.1);refine aC (Z21 _ (aA fun _ Z24=>sZ 15 [3,4,5,6,9,10] [3,4,5,6,9,10,90,91,92,93,94,95,96,97,98,99,89,100,101,13,14] [] [] [[],[0],[],[2],[0,1,2,3],[0,1,2,3,4],[0,1,2,3,4,5],[],[7],[0,1,2,3,4,5,6,7,8],[0,1,2,3,4,5,6,7,8,9],[0,1,2,3,4,5,6,7,8,9,10],[0,1,2,3,4,5,6,7,8,9,10],[0,1,2,3,4,5,6,7,8,9,10,11],[0,1,2,3,4,5,6,7,8,9,10,11,12,13]] [[],[],[],[],[],[],[],[],[],[],[],[],[],[],[]] (fun bQ=>cO O [(3,.bx (aQ l)),(4,.bx (bR r)),(5,.bx (cN e)),(6,.bx [vi 0,vi 0]),(9,vi (j:Nat)),(10,.bx (cN (aK l e).1)),(90,aX (bQ 0) (.bp 3 2)),(91,aX (bQ 1) (lD l.fElements)),(92,aX (bQ 2) (.bp 10 0)),(93,aX (bQ 3) (vi (aK l e).1.fEl)),(94,aX (bQ 4) (.dp (iD (l.fElements.getD (aK l e).1.fEl.toNat default)))),(95,aX (bQ 5) (.dp ((iD (l.fElements.getD (aK l e).1.fEl.toNat default)).drop 1))),(96,aX (bQ 6) (vi (l.fElements.getD (aK l e).1.fEl.toNat default).fKind)),(97,aX (bQ 7) (.bp 10 1)),(98,aX (bQ 8) (vi (aK l e).1.fSide)),(99,aX (bQ 9) (.tup [vi (oV (l.fElements.getD (aK l e).1.fEl.toNat default).fKind (aK l e).1.fSide 0 4).1,vb (oV (l.fElements.getD (aK l e).1.fEl.toNat default).fKind (aK l e).1.fSide 0 4).2])),(89,aX (bQ 10) (.tup [vi (oV (l.fElements.getD (aK l e).1.fEl.toNat default).fKind (aK l e).1.fSide 0 4).1,vb (oV (l.fElements.getD (aK l e).1.fEl.toNat default).fKind (aK l e).1.fSide 0 4).2])),(100,aX (bQ 11) (vi (oV (l.fElements.getD (aK l e).1.fEl.toNat default).fKind (aK l e).1.fSide 0 4).1)),(101,aX (bQ 12) (vb (oV (l.fElements.getD (aK l e).1.fEl.toNat default).fKind (aK l e).1.fSide 0 4).2)),(13,aX (bQ 13) (vi (oV (l.fElements.getD (aK l e).1.fEl.toNat default).fKind (aK l e).1.fSide 0 4).1)),(14,aX (bQ 14) (vb (oV (l.fElements.getD (aK l e).1.fEl.toNat default).fKind (aK l e).1.fSide 0 4).2))]) (fun iQ hiQ oQ hoQ bQ hbQ KQ hKQ=>?_) ?_))
  ·match iQ,hiQ with
   |0,_|1,_|2,_|3,_|4,_|5,_|6,_|7,_|8,_|10,_|11,_|12,_|13,_|14,_=>
    exact mkp hoQ hbQ hKQ
   |9,_=>
    exact mkc hoQ hbQ hKQ (aIw _ (l.fElements.getD (aK l e).1.fEl.toNat default).fKind (aK l e).1.fSide 0)
  refine stz ?_;refine Z24 _ (bA [3,4,5,6,9,10,13] ?_);refine Z6 _ (bA [3,4,5,6,9] ?_);refine Z3 _ _ bE ⟨j+1,⟨(aK l e).1.fEl,(oV (eP l (aK l e).1.fEl.toNat).fKind (aK l e).1.fSide 0 4).1⟩,rfl,bE,?_,b9⟩
  ·rw[l0_1,h4j,bVe h1 h2 h3 (l5 hv h1) h5 hol.2,hol.1]
 refine aY (Z1 _ (aB [6] ?_));refine aG (yJ (.cons ?_ (.cons ?_ (.cons ?_ .nil))))
 ·exact roC (by ((try simp only[go_sem,seval]);try simp (disch:=omega) only[go_sem,seval])<;>rfl) (by ((try simp only[go_sem,seval]);try simp (disch:=omega) only[go_sem,seval])<;>((rw[l0_1,show 4-j=0 by omega];first|done|rfl))) aZ (by first|rfl|(((try simp only[go_sem,seval]);try simp (disch:=omega) only[go_sem,seval])))
 ·exact kD (by ((try simp only[go_sem,seval]);try simp (disch:=omega) only[go_sem,seval])<;>((rw[l0_1,show 4-j=0 by omega];first|done|rfl))) rfl rfl
 exact kD (by ((try simp only[go_sem,seval]);try simp (disch:=omega) only[go_sem,seval])<;>((rw[l0_1,show 4-j=0 by omega];first|done|rfl))) rfl rfl
end
def mS (fr:Int→List bI) (n:Nat):List bI:=(List.range n).flatMap fun i=>fr (i:Nat)
theorem aRc (fr:Int→List bI) (n:Nat):mS fr (n+1)=mS fr n++fr (n:Nat):=by
 unfold mS;rw[cBy,cAk];simp
theorem aGh {fr:Int→List bI} (h: ∀i,(fr i).length≤10000): ∀n,(mS fr n).length≤10000*n
 |0=>by simp[mS]
 |n+1=>by rw[aRc,cAb];have:=aGh h n;have:=h (n:Nat);omega
def fG (l:aE) (fr:Int→List bI):List bI×Int:=if gV l≠0 then ([],gV l) else if 48<(mS fr l.fSignals.length).length then ([],2) else (mS fr l.fSignals.length,0)
theorem aXy {l:aE} {fr:Int→List bI} (h:gV l≠0):fG l fr=([],gV l):=by unfold fG;rw[if_pos h]
theorem aZh {l:aE} {fr:Int→List bI} (h:gV l=0) (h2:48<(mS fr l.fSignals.length).length):fG l fr=([],2):=by unfold fG;rw[if_neg (by simp[h]),if_pos h2]
theorem bDv {l:aE} {fr:Int→List bI} (h:gV l=0) (h2: ¬48<(mS fr l.fSignals.length).length):fG l fr=(mS fr l.fSignals.length,0):=by unfold fG;rw[if_neg (by simp[h]),if_neg h2]
abbrev bRi (l:List bI):DV:=rowL 121 14 bR l
section
attribute [local go_sem] cBv bYf bYg bYj bYb bYz bZa bYt bYn bZc bYq bYi bYd bYe bYc bYo bYv bYp bYr bZb bYu bYy bYw bYs bYx bYl bYm bYk bYh
theorem aHs (O:aV) (l:aE) (fr:Int→List bI) (hl:hM l) (hF:gV l=0→ ∀O (i:Nat),i<l.fSignals.length→bB Tryz.prog O 105 [.agg (aQ l),vi (i:Nat)] (jL (fr (i:Nat)))) (hb: ∀i,(fr i).length≤10000):bB Tryz.prog O 52 [.agg (aQ l)] (.tup [jL (fG l fr).1,vi (fG l fr).2]):=by
 have hl4:=hl.sg;refine aW 0 rfl (.agg (d:=mW l.fSignals) (by simp[aQ]) (.sl _ _ _)) fun hs=>?_;refine dD Tryz.func52 ?_;refine aB [0] ?_;refine aA fun _ Z1=>bL [1] ?_;refine fF (qW _ l hl) ?_;refine Z1 _ (aA fun _ Z2=>aB [1,4] ?_);refine aL (fun c0=>?_) fun c0=>?_
 ·refine aB [4] ?_;refine aG (yJ (.cons ?_ (.cons ?_ .nil)))
  ·exact roN (by ((try simp only[go_sem,seval]);try simp (disch:=omega) only[go_sem,seval])) (by (rw[aXy (by simpa using c0)]))
  exact kD (by ((try simp only[go_sem,seval]);try simp (disch:=omega) only[go_sem,seval])<;>((rw[aXy (by simpa using c0)]))) rfl rfl
 have hck:gV l=0:=(by simpa using c0);refine aC (Z2 _ (aB [1] ?_));refine aA fun _ Z6=>aB [1,5] ?_;refine aD (dF 5 121 14 bR rfl rfl ?_);refine aT [1,5,6] (fun n ρ=> ∃i,n=l.fSignals.length-i∧(i≤l.fSignals.length)∧ρ=cO O [(1,.bx (aQ l)),(5,bRi (mS fr i)),(6,vi (i:Nat))]) _ ⟨0,rfl,?_,?_⟩ ?_
 ·exact bE
 ·exact b9
 rintro n ρ ⟨i,rfl,l0_0,rfl⟩ _ Z8;have hal:=aGh hb i;refine aA fun _ Z9=>aB [1,5,6] ?_;refine aL (fun c1=>?_) fun c1=>?_
 ·refine aC (Z9 _ (aA fun _ Z11=>aD (bL [1,5,6] ?_)));refine fF (hF hck _ i c1) ?_;refine Z11 _ (bA [1,5,6] ?_);refine Z8 _ _ bE ⟨i+1,rfl,bE,?_⟩;((try simp only[go_sem,seval]);try simp (disch:=omega) only[go_sem,seval])<;>(show set (set _ 5 (DV.row _ 14 (_++(List.range (fr (i:Nat)).length).map (fun j=>bR ((fr (i:Nat)).getD j default))))) 1 _=_;rw[aPj (l:=fr (i:Nat)) (e:=bR) b7 (fun j hj=>rfl),← cAl,← aRc];rfl)
 refine aY (Z6 _ (aA fun _ Z12=>aB [5] ?_));refine aL (fun c2=>?_) fun c2=>?_
 ·obtain rfl:i=l.fSignals.length:=aN;refine aB [] ?_;refine aG (yJ (.cons ?_ (.cons ?_ .nil)))
  ·exact roN (by ((try simp only[go_sem,seval]);try simp (disch:=omega) only[go_sem,seval])) (by (rw[aZh hck aN]))
  exact kD (by ((try simp only[go_sem,seval]);try simp (disch:=omega) only[go_sem,seval])<;>((rw[aZh hck aN]))) rfl rfl
 obtain rfl:i=l.fSignals.length:=aN;refine aC (Z12 _ (aA fun _ Z15=>cB 5 _ rfl rfl ?_));refine bA [5] ?_;refine Z15 _ (aG (yJ (.cons ?_ (.cons ?_ .nil))))
 ·exact roL rfl (by (rw[bDv hck aN]))
 exact kD (by ((try simp only[go_sem,seval]);try simp (disch:=omega) only[go_sem,seval])<;>((rw[bDv hck aN]))) rfl rfl
end
section
attribute [local go_sem] cBv bYf bYg bYj bYb bYz bZa bYt bYn bZc bYq bYi bYd bYe bYc bYo bYv bYp bYr bZb bYu bYy bYw bYs bYx bYl bYm bYk bYh
set_option maxRecDepth 20000 in
theorem aCj (O:aV) (l:aE) (r:bI) (hl:hM l) (hr:Rtk r):bB Tryz.prog O 106 [.agg (aQ l),.agg (bR r)] (lF (cI l (r.fPath++r.fOver))):=by
 have hr1:=hr.pa;have hr2:=hr.ov;refine dD Tryz.func106 ?_;refine aB [0,1] ?_;refine aB [2,3] ?_;refine aA fun _ Z2=>aB [2,3,5] ?_;refine aD (dF 5 152 2 cN rfl rfl ?_);refine aT [2,3,5,6] (fun n ρ=> ∃i,n=r.fPath.length-i∧(i≤r.fPath.length)∧ρ=cO O [(2,.bx (aQ l)),(3,.bx (bR r)),(5,aZr (cI l (r.fPath.take i))),(6,vi (i:Nat))]) _ ⟨0,rfl,?_,?_⟩ ?_
 ·exact bE
 ·exact b9
 rintro n ρ ⟨i,rfl,l0_0,rfl⟩ _ Z4;have hbl:=aBh l (r.fPath.take i);have hbt:(r.fPath.take i).length≤i:=cBr _ _;have hb2:=aJi l (r.fPath.getD i default);refine aA fun _ Z5=>aB [2,3,5,6] ?_;refine aL (fun c0=>?_) fun c0=>?_
 ·refine aC (Z5 _ (aA fun _ Z7=>aD (sZ 10 [2,3,5,6] [2,3,6,16,17,18,19,20,21,22,23,15,5] [] [(5,23)] [[],[],[],[2],[],[2,3,4],[2,3,4,5],[1,2,3,4,5,6],[0,1,2,3,4,5,6,7],[0,1,2,3,4,5,6,7,8]] [[8,9],[8,9],[8,9],[8,9],[8,9],[8,9],[8,9],[8,9],[9],[]] (fun bQ=>cO O [(2,.bx (aQ l)),(3,.bx (bR r)),(6,vi (i:Nat)),(16,aX (bQ 1) (.agg (aQ l))),(17,aX (bQ 2) (.bp 3 3)),(18,aX (bQ 3) (cA r.fPath)),(19,aX (bQ 4) (vi (i:Nat))),(20,aX (bQ 5) (.dp (cM (r.fPath.getD i default)))),(21,aX (bQ 6) (.agg (cM (r.fPath.getD i default)))),(22,aX (bQ 7) (lF (pX l (r.fPath.getD i default)))),(23,aX (bQ 8) (.row 152 2 ((cI l (r.fPath.take i)).map cN++(pX l (r.fPath.getD i default)).map cN))),(15,jB (bQ 8) (bQ 0) (.any) (.own 5 ((cI l (r.fPath.take i)).length))),(5,jB (bQ 9) (!bQ 8) (.own 23 ((cI l (r.fPath.take i)).length+(pX l (r.fPath.getD i default)).length)) (.row 152 2 ((cI l (r.fPath.take i)).map cN)))]) (fun iQ hiQ oQ hoQ bQ hbQ KQ hKQ=>?_) ?_)))
  ·match iQ,hiQ with
   |0,_|1,_|2,_|3,_|4,_|5,_|6,_|8,_|9,_=>
    exact mkp hoQ hbQ hKQ
   |7,_=>
    exact mkc hoQ hbQ hKQ (pK _ l (r.fPath.getD i default) hl)
  refine stz ?_;refine Z7 _ (bA [2,3,5,6] ?_);refine Z4 _ _ bE ⟨i+1,rfl,bE,?_⟩;((try simp only[go_sem,seval]);try simp (disch:=omega) only[go_sem,seval])<;>(rw[bOf l c0,cAl];first|rfl|simp)
 refine aY (Z2 _ (aA fun _ Z8=>aB [2,3,5] ?_));refine aD ?_;obtain rfl:i=r.fPath.length:=aN;rw[cBn];refine aT [2,3,5,7] (fun n ρ=> ∃i,n=r.fOver.length-i∧(i≤r.fOver.length)∧ρ=cO O [(2,.bx (aQ l)),(3,.bx (bR r)),(5,aZr (cI l (r.fPath++r.fOver.take i))),(7,vi (i:Nat))]) _ ⟨0,rfl,?_,?_⟩ ?_
 ·exact bE
 ·((try simp only[go_sem,seval]);try simp (disch:=omega) only[go_sem,seval])<;>(rw[List.take_zero,cEw];first|rfl|simp)
 rintro n ρ ⟨i,rfl,l1_0,rfl⟩ _ Z10;have hbl:=aBh l (r.fPath++r.fOver.take i);have hbt:(r.fPath++r.fOver.take i).length≤200:=(by rw[cAb];have:=cBr i r.fOver;omega);have hb2:=aJi l (r.fOver.getD i default);refine aA fun _ Z11=>aB [2,3,5,7] ?_;refine aL (fun c1=>?_) fun c1=>?_
 ·refine aC (Z11 _ (aA fun _ Z13=>aD (sZ 10 [2,3,5,7] [2,3,7,32,33,34,35,36,37,38,39,31,5] [] [(5,39)] [[],[],[],[2],[],[2,3,4],[2,3,4,5],[1,2,3,4,5,6],[0,1,2,3,4,5,6,7],[0,1,2,3,4,5,6,7,8]] [[8,9],[8,9],[8,9],[8,9],[8,9],[8,9],[8,9],[8,9],[9],[]] (fun bQ=>cO O [(2,.bx (aQ l)),(3,.bx (bR r)),(7,vi (i:Nat)),(32,aX (bQ 1) (.agg (aQ l))),(33,aX (bQ 2) (.bp 3 8)),(34,aX (bQ 3) (cA r.fOver)),(35,aX (bQ 4) (vi (i:Nat))),(36,aX (bQ 5) (.dp (cM (r.fOver.getD i default)))),(37,aX (bQ 6) (.agg (cM (r.fOver.getD i default)))),(38,aX (bQ 7) (lF (pX l (r.fOver.getD i default)))),(39,aX (bQ 8) (.row 152 2 ((cI l (r.fPath++r.fOver.take i)).map cN++(pX l (r.fOver.getD i default)).map cN))),(31,jB (bQ 8) (bQ 0) (.any) (.own 5 ((cI l (r.fPath++r.fOver.take i)).length))),(5,jB (bQ 9) (!bQ 8) (.own 39 ((cI l (r.fPath++r.fOver.take i)).length+(pX l (r.fOver.getD i default)).length)) (.row 152 2 ((cI l (r.fPath++r.fOver.take i)).map cN)))]) (fun iQ hiQ oQ hoQ bQ hbQ KQ hKQ=>?_) ?_)))
  ·match iQ,hiQ with
   |0,_|1,_|2,_|3,_|4,_|5,_|6,_|8,_|9,_=>
    exact mkp hoQ hbQ hKQ
   |7,_=>
    exact mkc hoQ hbQ hKQ (pK _ l (r.fOver.getD i default) hl)
  refine stz ?_;refine Z13 _ (bA [2,3,5,7] ?_);refine Z10 _ _ bE ⟨i+1,rfl,bE,?_⟩;((try simp only[go_sem,seval]);try simp (disch:=omega) only[go_sem,seval])<;>(rw[d9 default c1,← cFe];unfold cI;rw[cAk (xs:=r.fPath++_),cAl];first|rfl|simp)
 refine aY (Z8 _ (aA fun _ Z14=>cB 5 _ rfl rfl ?_));refine bA [5] ?_;refine Z14 _ (aG (bU 4 ?_));exact cG.encL rfl (by (rw[cCi aN]))
end
end Go.Sg
namespace Go.Sg
open Go.RowKit
open Go.Rv (FR)
def Lnd (rs:List Rg) (d d':DV):Prop:= ∀w I A x,(∀r∈rs,r.holds w I)→bN w I A d x→bN w (fun g=>I g∨GOf rs g) cU d' x
theorem Lnd.pure {rs:List Rg} (d:DV) (h:dI (fun _=>false) d=true):Lnd rs d d:=fun _ _ _ _ _ hr=>(hr.pure h).mono fun _ hg=>⟨.inl hg,fun _=>rfl⟩
theorem Lnd.row {rs:List Rg} {h0:Hd} {e:TypeId} {z:Nat} {l:List (List DV)} (hm:Rg.row h0 e z l∈rs) {n:Nat} (hn:n=l.length) {d':DV} (hw:cF (Sg.frz z l) d'):Lnd rs (h0.sl n) d':=by
 subst hn;intro w I A x hr hx;have hx:bN w I A (.v (.slice h0.b l.length h0.c)) x:=hx;cases hx;have:=hr _ hm;exact hw _ _ _ _ (this.2.frz (fun g hg=>.inr ⟨_,hm,hg⟩) (fun g hg=>.inl hg) this.1)
theorem Lnd.agg {rs:List Rg} {cs ds:List DV} (hl:cs.length=ds.length) (h: ∀(j:Nat) (c d:DV),cs[j]?=some c→ds[j]?=some d→Lnd rs c d):Lnd rs (.agg cs) (.agg ds):=by
 intro w I A x hr hx;cases hx with
 |agg _ _ vs hl' hone hrel=>
  refine .agg _ ds vs (hl▸hl') hone fun j d u hd hu=>?_;have hj:j<cs.length:=by
   rcases cBd j ds.length with h1|h1
   ·omega
   rw[cAw h1] at hd;cases hd
  exact h j _ _ (cEn hj) hd w I A u hr (hrel j _ u (cEn hj) hu)
inductive vX (rs:List Rg):List DV→List DV→Prop
 |nil:vX rs [] []
 |cons {c d:DV} {cs ds:List DV} (h:Lnd rs c d) (t:vX rs cs ds):vX rs (c::cs) (d::ds)
theorem vX.len {rs:List Rg} {cs ds:List DV} (h:vX rs cs ds):cs.length=ds.length:=by
 induction h with
 |nil=>rfl
 |cons _ _ ih=>simp[ih]
theorem vX.get {rs:List Rg} {cs ds:List DV} (h:vX rs cs ds): ∀(j:Nat) (c d:DV),cs[j]?=some c→ds[j]?=some d→Lnd rs c d:=by
 induction h with
 |nil=>intro j c d h;cases h
 |cons h _ ih=>
  intro j c d hc hd;cases j with
  |zero=>simp at hc hd;subst hc;subst hd;exact h
  |succ j=>exact ih j c d (by simpa using hc) (by simpa using hd)
theorem vX.toAgg {rs:List Rg} {cs ds:List DV} (h:vX rs cs ds):Lnd rs (.agg cs) (.agg ds):=.agg h.len h.get
def PlV (r:DV):Prop:= ∀w I I' A A' x,bN w I A r x→bN w I' A' r x
theorem PlV.v (x:Value):PlV (.v x):=fun _ _ _ _ _ _ h=>by cases h;exact .v _ _
theorem PlV.agg {cs:List DV} (h: ∀d∈cs,PlV d):PlV (.agg cs):=fun _ _ _ _ _ _ hx=>by
 cases hx with
 |agg _ _ vs hl hone hrel=>exact .agg _ cs vs hl hone fun j d u hd hu=>h d (cDb hd) _ _ _ _ _ _ (hrel j d u hd hu)
theorem PlV.tup {cs:List DV} (h: ∀d∈cs,PlV d):PlV (.tup cs):=fun _ _ _ _ _ _ hx=>by
 cases hx with
 |tup _ _ vs hl hrel=>exact .tup _ cs vs hl fun j d u hd hu=>h d (cDb hd) _ _ _ _ _ _ (hrel j d u hd hu)
section
variable {P:Program} {nt:Nat} {w0:World} {I0:Nat→Prop} {A0:cY} {G0:Nat→Prop} {ρ:aV}
theorem aSq {w:World} {I:Nat→Prop} {A:cY} {a:Act} (hs:cV nt w I A ρ a) {rs:List Rg} (hf:lR w0 I0 A0 G0 rs w I A) {f:FuncId} {l al:List DV} {vals:Array Value} (v2:vals.size=l.length)
  (v3: ∀(j:Nat) (d:DV) (u:Value),l[j]?=some d→vals[j]?=some u→bN w I A d u) (hal:vX rs l al) {r:DV} (hR:bB P (fun _=>.any) f al r) (hro:bX r=false) (hpl:PlV r):
  Calls P f vals w fun e w'=> ∃v,e=.returned v∧mI w I w' I∧bN w' I A r v:=by
 have hO:jX w (fun g=>I g∨GOf rs g) cU (fun _=>.any):=by
  refine ⟨fun s=>trivial,fun s t g c c' h=>(by cases h),fun s g c h=>(by cases h),⟨fun g hg=>?_,fun g us e hg=>?_⟩⟩
  ·rcases hg with h|⟨r,hr,hB⟩
   ·exact hs.osim.imm.lt g h
   exact ((hf.1 r hr).free g hB).1
  exact ⟨.inl (hs.osim.imm.glob g us e hg).1,(hs.osim.imm.glob g us e hg).2⟩
 refine (hR w _ cU vals hO (v2.trans hal.len) fun j d u hd hu=>?_).mono ?_
 ·have hj:j<l.length:=by
   rw[hal.len];rcases cBd j al.length with h1|h1
   ·exact h1
   rw[cAw h1] at hd;cases hd
  exact hal.get j _ d (cEn hj) hd w I A u (fun r hr=>(hf.1 r hr).holds) (v3 j _ u (cEn hj) hu)
 rintro e' w' ⟨v,I',O',r',rfl,k1,k2,k3,k4,k5,rfl,rfl⟩;have hgr:mI w I w' I:=⟨k4.os,k4.tape,k4.output,k4.size,fun g hg=>(k4.old g hg (fun s c h=>by cases h)).1,fun _ h=>h,fun _ h=>.inl h⟩;refine ⟨v,rfl,hgr,?_⟩;have:bN w' I' cU r' v:=by cases r'<;>first|exact k5|(cases hro)
 exact hpl _ _ _ _ _ _ this
theorem aUv {ops:Array Oper} {o:Oper} {K:List Rg→aV→Prop} {rs:List Rg} {fv:Operand} {args:Array Operand} {ts:Array TypeId} {dd:Nat} (hop:o.op=.call ⟨.value fv,args,ts⟩) (hg:o.guard=none) (hdst:o.dst=some dd) (hdd:dd<nt)
  (ho:dP nt o=true) (hgf:gd (ev ρ fv)) (hga: ∀x∈args.toList,gd (ev ρ x)) {f:FuncId} {l al:List DV} (hc:callee (un (ev ρ fv)) (args.toList.map fun x=>un (ev ρ x))=some (f,l)) (hb:aO P f=true)
  (hal:vX rs l al) {r:DV} (hR:bB P (fun _=>.any) f al r) (hro:bX r=false) (hpl:PlV r) (hK:K rs (set ρ dd r)):iU P nt (lR w0 I0 A0 G0) ops o K rs ρ:=by
 intro ro ds I A a w hs hdf hf next Q' hn
 obtain ⟨vals,v1,v2,v3⟩:=mX hs hop ho hgf hga hc hb;rw[if_pos (by simp[Region.wanted,hg])];refine uR v1 ?_;refine (aSq hs hf v2 v3 hal hR hro hpl).mono ?_;rintro e' w' ⟨v,rfl,hgr,hrel⟩;rw[hdst];exact hn I A _ w' _ _ ((hs.grow hgr).put (d:=dd) (v:=r) (x:=v) hdd (.ofRel hrel) (.ofPure hro)) (by rw[d7];exact hdf) (hf.ext hs.osim (hgr.ext hs.osim)) hK
theorem aBk {l':List Oper} {o:Oper} {K:List Rg→aV→Prop} {rs:List Rg} {fv:Operand} {args:Array Operand} {ts:Array TypeId} {dd j:Nat} {want g:Bool} (hop:o.op=.call ⟨.value fv,args,ts⟩) (hg:o.guard=some (j,want)) (hdst:o.dst=some dd) (hdd:dd<nt)
  (hall:l'.all (d3 nt)=true) (ho:dP nt o=true) (hgj:gAt l' ρ j want=some g) {f:FuncId} {l al:List DV} {r:DV} (hro:bX r=false) (hpl:PlV r)
  (h:g=true→gd (ev ρ fv)∧(∀x∈args.toList,gd (ev ρ x))∧callee (un (ev ρ fv)) (args.toList.map fun x=>un (ev ρ x))=some (f,l)∧aO P f=true∧vX rs l al∧bB P (fun _=>.any) f al r)
  (hK:K rs (set ρ dd (.cond g r))):iU P nt (lR w0 I0 A0 G0) l'.toArray o K rs ρ:=by
 intro ro ds I A a w hs hdf hf next Q' hn
 rw[nT hs hg hall hgj];cases g with
 |true=>
  obtain ⟨g1,g2,g3,g4,g5,g6⟩:=h rfl;obtain ⟨vals,v1,v2,v3⟩:=mX hs hop ho g1 g2 g3 g4;rw[if_pos rfl];refine uR v1 ?_;refine (aSq hs hf v2 v3 g5 g6 hro hpl).mono ?_;rintro e' w' ⟨v,rfl,hgr,hrel⟩;rw[hdst];exact hn I A _ w' _ _ ((hs.grow hgr).put (v:=.cond true r) (x:=v) hdd ⟨fun _=>hrel,fun h=>by cases h⟩ trivial) (by rw[d7];exact hdf) (hf.ext hs.osim (hgr.ext hs.osim)) hK
 |false=>
  rw[if_neg b7,hdst];exact ⟨fun _ _=>trivial,hn I A _ w _ _ (hs.put (v:=.cond false r) hdd ⟨(fun h=>by cases h),fun _=>rfl⟩ trivial) (by rw[d7];exact hdf) hf hK⟩
theorem aQd {O:aV} {f:FuncId} {l:List DV} {rs:List Rg} {R:List Rg→aV→DV→Prop} (al:List DV) (hw:tF l al) (h:aFz P O f al rs R):aFz P O f l rs R:=
 fun w I A vals h1 h2 h3 h4 h5=>h w I A vals h1 h2 h3 (h4.trans hw.len) fun j d u hd hu=>by
  obtain ⟨d',q1,q2⟩:=hw.get j d hd;exact q2 _ _ _ _ (h5 j d' u q1 hu)
theorem qE {σ:Type} {F:σ→World→(Nat→Prop)→cY→Prop} {Q:Exit→σ→aV→Prop} {st:σ} {c:Code} (s:Nat) {cs ds:List DV} (hlt:(decide (s<100000))=true) (h:ρ s=.bx cs) (hw:tF cs ds) (k:mL P nt F c Q st (set ρ s (.bx ds))):mL P nt F c Q st ρ:=
 fun ro ds' I A a w hs hd hf=>k ro ds' I A a w ⟨⟨fun t=>by
   rw[bC];split
   ·rename_i e;subst e;have ho:=hs.osim.own t;rw[h] at ho;obtain ⟨g,c',us,et,h1,h2,h3,h4,h5⟩:=ho;refine ⟨g,c',us,et,h1,h2,by rw[← hw.len];exact h3,h4,fun j d u hdj hu=>?_⟩;obtain ⟨d',q1,q2⟩:=hw.get j d hdj;exact q2 _ _ _ _ (h5 j d' u q1 hu)
   ·exact hs.osim.own t,hs.osim.inj,hs.osim.sep,hs.osim.imm⟩,hs.size,hs.bound,fun i hi=>by
   rw[bC];split
   ·rename_i e;subst e;have:=hs.slot i hi;rw[h] at this;exact this
   ·exact hs.slot i hi,fun t ht=>by
   have:=cFq hlt;rw[bC,if_neg aN];exact hs.out t ht⟩ hd hf
theorem hU.cut {w:World} {I:Nat→Prop} {e:TypeId} {z:Nat} {xs:List (List DV)} {B:Option Nat} {c:Nat} (h:hU w I e z xs B c) (m:Nat):hU w I e z (xs.take m) B c:=by
 cases B with
 |none=>obtain ⟨rfl,h2⟩:=h;exact ⟨by simp,h2⟩
 |some g=>
  obtain ⟨us,q1,q2,q3,q4,q5⟩:=h;refine ⟨us,q1,q2,q3,cBc (by rw[cCw];omega) q4,fun i x hx=>?_⟩;rw[cEl] at hx;split at hx
  ·exact q5 i x hx
  cases hx
theorem lR.cut {w:World} {I:Nat→Prop} {A:cY} {s1 s2:List Rg} {h h':Hd} {e:TypeId} {z:Nat} {l:List (List DV)} (hf:lR w0 I0 A0 G0 (s1++ .row h e z l::s2) w I A) (m:Nat) (hB:h'.B=h.B) (hc:h'.c=h.c) (hb:l6 h'.B h'.b):lR w0 I0 A0 G0 (s1++ .row h' e z (l.take m)::s2) w I A:=by
 obtain ⟨f1,f2,f3,f4⟩:=hf;have hm: ∀x∈s1++(.row h' e z (l.take m))::s2,x=(.row h' e z (l.take m))∨x∈s1++s2:=fun x hx=>by
  simp at hx ⊢;rcases hx with h|h|h
  ·exact .inr (.inl h)
  ·exact .inl h
  exact .inr (.inr h)
 have hi: ∀x∈s1++s2,x∈s1++(.row h e z l)::s2:=fun x hx=>by
  simp at hx ⊢;rcases hx with h|h
  ·exact .inl h
  exact .inr (.inr h)
 have h0:=f1 (.row h e z l) b7;have hBB:(Rg.row h' e z (l.take m)).B=(Rg.row h e z l).B:=hB;refine ⟨fun r hr=>?_,?_,fun r hr g hg=>?_,f4⟩
 ·rcases hm r hr with rfl|hx
  ·exact ⟨⟨hb,by rw[hB,hc];exact h0.holds.2.cut m⟩,fun g hg=>h0.free g (hBB▸hg)⟩
  exact f1 r (hi r hx)
 ·unfold oZ at f2 ⊢;rw[cDa] at f2 ⊢;refine ⟨f2.1,cBi.2 ⟨fun y hy g hg=>(cBi.1 f2.2.1).1 y hy g (hBB▸hg),(cBi.1 f2.2.1).2⟩,fun x hx y hy g hg hy'=>?_⟩;rcases cDt.1 hy with rfl|hy
  ·exact f2.2.2 x hx (.row h e z l) b7 g hg (hBB▸hy')
  exact f2.2.2 x hx y (by simp[hy]) g hg hy'
 rcases hm r hr with rfl|hx
 ·exact f3 (.row h e z l) b7 g (hBB▸hg)
 exact f3 r (hi r hx) g hg
end
end Go.Sg
namespace Go.Sg
open Go.Proofs
def gP (l:aE) (f a:cP):List (List bF):=goP l 13 a []
theorem aSz (a b:ByteArray):(a++b).size=a.size+b.size:=ByteArray.size_append
theorem bPy {l:aE} (hs: ∀i,i<l.fSignals.length→(l.fSignals.getD i default).fName.size≤1000) {i:Nat} (hi:i<l.fSignals.length) (q:List bF):(gZ l i q).size≤2001:=by
 show ((l.fSignals.getD (i:Int).toNat default).fName++⟨#[45]⟩++nmQ l (exQ l q)).size≤_;have h1:=hs i hi;have h2:=bNt hs (aRb l q).1;rw[aSz,aSz,cDe];show _+1+_≤_;omega
theorem bBs (l:aE) (i:Int) (P:List (List bF)) (n:Nat):((sS l i P n).map bR).take n=(sS l i P n).map bR:=cCi (by rw[cAr,aF];exact cCq _)
theorem bOq {l:aE} {i:Nat} (hi:i<l.fSignals.length) (h:(aK l (l.fSignals.getD i default).fAt).2=true):eZ gP l (i:Nat)=sS l i (gP l (l.fSignals.getD i default).fAt (aK l (l.fSignals.getD i default).fAt).1) (gP l (l.fSignals.getD i default).fAt (aK l (l.fSignals.getD i default).fAt).1).length:=by
 unfold eZ;rw[if_neg aN];simp only[cDe];rw[if_neg (by rw[h];simp)]
theorem bQv {l:aE} {i:Nat} (hi:i<l.fSignals.length) (h:(aK l (l.fSignals.getD i default).fAt).2=false):eZ gP l (i:Nat)=[]:=by
 unfold eZ;rw[if_neg aN];simp only[cDe];rw[if_pos h]
theorem aWt (l:aE) (f a:cP):(gP l f a).length≤8192:=aSm l 13 a []
theorem rE {l:aE} (h:gV l=0):aVn l=true∧kQ l=true∧joI l=0:=by
 unfold gV at h;split at h
 ·cases h
 split at h
 ·rename_i h1;exact absurd h h1
 rename_i h1;split at h
 ·cases h
 rename_i h2;split at h
 ·rename_i h3;exact absurd h h3
 rename_i h3;refine ⟨?_,?_,cBo.1 h3⟩
 ·have h1:nmI l=0:=cBo.1 h1;unfold nmI at h1;split at h1
  ·assumption
  cases h1
 cases hx:kQ l with
 |true=>rfl
 |false=>exact absurd (.inl hx) h2
theorem bJj {l:aE} (hl:hM l) (h:gV l=0):Vld l∧(fW l.fJoints).Nodup:=
 ⟨⟨hl,(rE h).2.1,fun e he=>aMo (aHu (rE h).2.2).1 he⟩,(aHu (rE h).2.2).2⟩
theorem bQp {l:aE} (h:gV l=0): ∀i,i<l.fSignals.length→(l.fSignals.getD i default).fName.size≤1000:=by
 intro i hi;have h1:=(rE h).1;unfold aVn at h1;rw[cCk] at h1;have h2:=h1 (mJ l) (by unfold kZ;simp);rw[cCk] at h2;have h3:=h2 (l.fSignals.getD i default).fName (cAy.2 ⟨_,gD hi,rfl⟩);unfold kT at h3;rw[bZi,cFp] at h3;omega
theorem aZv {l:aE}: ∀{n:Nat} {a:cP} {q p:List bF},(∀s∈q,pQ l s.fEl=true)→p∈goP l n a q→ ∀s∈p,pQ l s.fEl=true
 |0,_,_,_,_,h=>by cases h
 |n+1,a,q,p,hq,h=>by
  unfold goP at h;split at h
  ·cases h
  obtain ⟨s,hs,hp⟩:=cFb.1 h;have hs2: ∀x∈q++[s],pQ l x.fEl=true:=fun x hx=>by
   rcases cEh.1 hx with hx|hx
   ·exact hq x hx
   rw[cBq.1 hx,(z8 hs).1];exact (z8 hs).2.2.2
  split at hp
  ·rw[cBq.1 hp];exact hs2
  exact aZv hs2 hp
theorem aQt {q:List bF} {i:Nat} (hi:i<q.length):jH q i=q[i]:=by
 unfold jH;rw[cFk,cEn hi];rfl
theorem bMq {l:aE} {q:List bF} (hex: ∀s∈q,pQ l s.fEl=true) {s:bF} (hs:s∈q):cJ l s.fEl∈dC l q:=by
 obtain ⟨i,hi,rfl⟩:=cAo.1 hs;have:=(aCv (l:=l) (q:=q) (fun i hi=>by rw[aQt hi];exact hex _ (cDh hi)) q.length (cCq _) (cJ l (q[i]).fEl)).2 ⟨i,hi,by show cJ l (jH q i).fEl=_;rw[aQt hi]⟩
 rwa [cBn] at this
theorem aSv {l:aE} {ov:Int} {sc:List Int}: ∀(n:Nat) (o:List bF) (a:cP×Bool),(∀s∈o,sc.contains (cJ l s.fEl)=false)→ ∀s∈ovG l ov sc n o a,sc.contains (cJ l s.fEl)=false
 |0,o,a,h=>h
 |n+1,o,a,h=>by
  unfold ovG;split
  ·rename_i hc;refine aSv n _ _ fun s hs=>?_;rcases cEh.1 hs with hs|hs
   ·exact h s hs
   rw[cBq.1 hs,aLb (gD (by have:=hc.2.2;omega))];have hb:=hc.2.1;unfold xF at hb;rw[cCb] at hb;exact hb.2
  exact h
theorem bEd (l:aE) (r:bI): ∀s∈ovS l r,r.fSections.contains (cJ l s.fEl)=false:=by
 unfold ovS;split
 ·exact aSv _ _ _ b7
 simp
structure RtP (l:aE) (r:bI):Prop where
 nd:(r.fPath.map (·.fEl)).Nodup
 ex: ∀s∈r.fPath,pQ l s.fEl=true
 len:r.fPath.length≤12
 sec:r.fSections=dC l r.fPath
 pt:r.fPoints=pV l r.fPath
 ov:r.fOver=[]∧r.fOverPoints=[]∧r.fOverSections=[]∧r.fFlank=[]∧r.fGuards=[]∧r.fGaps=[]
theorem aXj (r:bI) (c:Nat):(nR r c).fPath=r.fPath∧(nR r c).fSections=r.fSections∧(nR r c).fPoints=r.fPoints∧((nR r c).fOver=r.fOver∧(nR r c).fOverPoints=r.fOverPoints∧(nR r c).fOverSections=r.fOverSections∧(nR r c).fFlank=r.fFlank∧(nR r c).fGuards=r.fGuards∧(nR r c).fGaps=r.fGaps):=by
 unfold nR;split<;>exact ⟨rfl,rfl,rfl,rfl,rfl,rfl,rfl,rfl,rfl⟩
theorem bFh {l:aE} {i:Int} {r:bI} (h:r∈eZ gP l i):RtP l r:=by
 unfold eZ at h;split at h
 ·cases h
 simp only at h;split at h
 ·cases h
 unfold sS at h;obtain ⟨k,hk,rfl⟩:=cAy.1 h;have hk:=cCc.1 hk;have hm:=aJc (l:=l) (n:=13) (a:=(aK l (l.fSignals.getD i.toNat default).fAt).1) (q:=[]) (p:=(gP l (l.fSignals.getD i.toNat default).fAt (aK l (l.fSignals.getD i.toNat default).fAt).1).getD k []) b7 List.Pairwise.nil (gD hk);have hx:=aZv (l:=l) (n:=13) (a:=(aK l (l.fSignals.getD i.toNat default).fAt).1) (q:=[]) (p:=(gP l (l.fSignals.getD i.toNat default).fAt (aK l (l.fSignals.getD i.toNat default).fAt).1).getD k []) b7 (gD hk);generalize gP l (l.fSignals.getD i.toNat default).fAt (aK l (l.fSignals.getD i.toNat default).fAt).1=P at*;obtain ⟨n1,n2,n3,n4,n5,n6,n7,n8,n9⟩:=aXj (bNq l i (P.getD k [])) (kI (gZ l i) (P.take (k+1)) (gZ l i (P.getD k [])));exact ⟨by show ((nR _ _).fPath.map _).Nodup;rw[n1];exact hm.2.2.1,by show ∀s∈(nR _ _).fPath,_;rw[n1];exact hx,by show (nR _ _).fPath.length≤12;rw[n1];exact hm.2.1,by show (nR _ _).fSections=dC l (nR _ _).fPath;rw[n1,n2];rfl,by show (nR _ _).fPoints=pV l (nR _ _).fPath;rw[n1,n3];rfl,n4,n5,n6,n7,n8,n9⟩
theorem aRr (l:aE) (q:List bF):(pV l q).length≤q.length:=cBc (z7 _) (aDu l q)
theorem RtP.rtk {l:aE} {r:bI} (h:RtP l r):Rtk r:=by
 have h1:=h.len;have h2:=bBb l r.fPath;have h3:=aRr l r.fPath;obtain ⟨a1,a2,a3,a4,a5,a6⟩:=h.ov;exact ⟨by omega,by rw[h.pt];omega,by rw[h.sec];omega,by rw[a1];simp,by rw[a2];simp,by rw[a3];simp,by rw[a4];simp,by rw[a5];simp,by rw[a6];simp⟩
theorem RtP.rtkO {l:aE} {r:bI} (h:RtP l r):Rtk (ovF l r):=by
 have h0:=h.rtk;have h1:=bJa l r;have h2:=bBb l (ovS l r);have h3:=aRr l (ovS l r);exact ⟨h0.pa,h0.po,h0.se,(by show (ovS l r).length≤100;omega),(by show (pV l (ovS l r)).length≤100;omega),(by show (dC l (ovS l r)).length≤100;omega),h0.fl,h0.gu,h0.ga⟩
theorem RtP.nodup {l:aE} {r:bI} (h:RtP l r):(((ovF l r).fPath++(ovF l r).fOver).map (·.fEl)).Nodup:=by
 show ((r.fPath++ovS l r).map (·.fEl)).Nodup;rw[cAl,cCx];refine ⟨h.nd,bNo l r,fun x hx y hy e=>?_⟩;obtain ⟨s,hs,rfl⟩:=cAy.1 hx;obtain ⟨o,ho,rfl⟩:=cAy.1 hy;have h1:=bMq h.ex hs;have h2:=bEd l r o ho;rw[h.sec] at h2;have e:s.fEl=o.fEl:=e;rw[e] at h1;have h3:(dC l r.fPath).contains (cJ l o.fEl)=true:=by simpa using h1
 rw[h3] at h2;cases h2
theorem bCw (l:aE) (i:Int):(eZ gP l i).length≤10000:=by
 unfold eZ;split
 ·simp
 simp only;split
 ·simp
 rw[aF];have:=aWt l (l.fSignals.getD i.toNat default).fAt (aK l (l.fSignals.getD i.toNat default).fAt).1;omega
theorem bEi {l:aE} {r:bI} (h:r∈(fG l (eZ gP l)).1):RtP l r:=by
 have:r∈mS (eZ gP l) l.fSignals.length:=by
  unfold fG at h;split at h
  ·cases h
  split at h
  ·cases h
  exact h
 unfold mS at this;obtain ⟨i,_,hi⟩:=cFb.1 this;exact bFh hi
theorem bFk (l:aE):(fG l (eZ gP l)).1.length≤48:=by
 unfold fG;split
 ·simp
 split
 ·simp
 show (mS (eZ gP l) l.fSignals.length).length≤48;omega
theorem bHt {l:aE} (h:(fG l (eZ gP l)).2=0):gV l=0:=by
 unfold fG at h;split at h
 ·exact h
 rename_i h1;exact cBo.1 h1
def bNy (l:aE) (r:bI):bI:=aIf l (ovF l r)
def tbT (l:aE):bP:=if (fG l (eZ gP l)).2=0 then ⟨(fG l (eZ gP l)).1.map (bNy l),hX l,(hX l).map (cJ l),(l.fSections.length:Nat),(l.fSignals.length:Nat)⟩ else ⟨[],[],[],0,0⟩
theorem bVj {l:aE} (h: ¬(fG l (eZ gP l)).2=0):tbT l=⟨[],[],[],0,0⟩:=by unfold tbT;rw[if_neg h]
theorem bVf {l:aE} (h:(fG l (eZ gP l)).2=0):tbT l=⟨(fG l (eZ gP l)).1.map (bNy l),hX l,(hX l).map (cJ l),(l.fSections.length:Nat),(l.fSignals.length:Nat)⟩:=by unfold tbT;rw[if_pos h]
def SeR (O:aV) (k:Nat) (l:aE) (f:cP) (P:List (List bF)) (n:Nat) (a:cP) (q:List bF) (rs:List Rg) (O':aV) (r:DV):Prop:=
 ∃h',rs=[rgP h' (P++srP l f n a q)]∧O'=set O k (.bx [h'.sl (P++srP l f n a q).length])∧r=.tup []
def SeC (l:aE) (f:cP) (n:Nat):Prop:= ∀(O:aV) (k:Nat) (h:Hd) (P:List (List bF)) (a:cP) (q:List bF),O k=.bx [h.sl P.length]→q.length≤12→13≤q.length+n→P.length+2^n≤100000000→
 aFz Tryz.prog O 178 [.bp k 0,.agg (aQ l),.agg (cN f),.agg (cN a),cA q] [rgP h P] (SeR O k l f P n a q)
def seG (l:aE) (f:cP) (n:Nat) (q:List bF) (s:bF):List (List bF):=if uC l f (q++[s])=true then (if sT l s=true then [q++[s]] else srP l f n (cR l s).1 (q++[s])) else []
def seI (l:aE) (f:cP) (n:Nat) (b:cP) (q:List bF) (i:Nat):List (List bF):=((e7 l b).take i).flatMap (seG l f n q)
theorem bCh {l:aE} {f:cP} {n:Nat} {b:cP} {q:List bF} {i:Nat} (h:i<(e7 l b).length):seI l f n b q (i+1)=seI l f n b q i++seG l f n q ((e7 l b).getD i default):=by
 unfold seI;rw[d9 default h,cAk,List.flatMap_singleton]
theorem aTm (l:aE) (f:cP): ∀(n:Nat) (a:cP) (q:List bF),(srP l f n a q).length≤2^n
 |0,_,_=>by simp[srP]
 |n+1,a,q=>by
  unfold srP;refine cBc (uT (c:=2^n) fun s _=>?_) ?_
  ·split
   ·split
    ·simp;exact bZs
    exact aTm l f n _ _
   simp
  rw[Nat.pow_succ,bZx];exact cBh _ (aIv l a)
theorem bGb (l:aE) (f:cP) (n:Nat) (q:List bF) (s:bF):(seG l f n q s).length≤2^n:=by
 unfold seG;split
 ·split
  ·simp;exact bZs
  exact aTm _ _ _ _ _
 simp
theorem bFy (l:aE) (f:cP) (n:Nat) (b:cP) (q:List bF) (i:Nat):(seI l f n b q i).length≤i*2^n:=by
 unfold seI;exact cBc (uT (c:=2^n) fun s _=>bGb l f n q s) (cEr _ (cBr _ _))
theorem bKb {l:aE} {f:cP} {n:Nat} {b:cP} {q:List bF} {i:Nat} (hi:(e7 l b).length≤i):srP l f (n+1) b q=seI l f n b q i:=by
 rw[srP];unfold seI;rw[cCi hi];rfl
theorem bHq {l:aE} {f:cP} {q:List bF} (h:uC l f q=true):q.length≤12:=(sA.1 h).1.1.2
section
attribute [local go_sem] aAn bCc bGh bZn cDq cGi cAr cBn Nat.mul_one cAh cFa ite_self
set_option maxRecDepth 20000 in
theorem aKp (O:aV) (l:aE) (f:cP) (nn:Nat) (ih:SeC l f nn) (hl:hM l) (k:Nat) (h:Hd) (P:List (List bF)) (a:cP) (q:List bF) (hk:O k=.bx [h.sl P.length]) (hq:q.length≤12) (hqn:13≤q.length+(nn+1)) (hP:P.length+2^(nn+1)≤100000000):aFz Tryz.prog O 178 [.bp k 0,.agg (aQ l),.agg (cN f),.agg (cN a),cA q] [rgP h P] (SeR O k l f P (nn+1) a q):=by
 obtain ⟨O1,rfl⟩: ∃O1,O=set O1 k (.bx [h.sl P.length]):=⟨O,by funext j;rw[bC];split<;>simp_all⟩;have hbl:=aIv l a;have hpw:2^(nn+1)=2*2^nn:=by rw[Nat.pow_succ,bZx]
 have hp1:1≤2^nn:=bZs;refine aHd Tryz.func178 rfl aZ fun w0 I0 A0=>?_;have hF:=wM w0 I0 (dZ A0) (GOf [rgP h P]);refine eU hF [0,1,2,3,4] ?_;refine bD fun _ Z1=>aPy hF [0,4,6,7,8] ?_;refine fF (mP _ l a hl) ?_;refine Z1 _ _ (eU hF [0,4,6,7,10] ?_);refine dL (gU [0,4,6,7,10,11] (fun n sF ρ=> ∃i,∃hx,∃V,n=(e7 l a).length-i∧sF=[rgP hx V]∧(i≤(e7 l a).length)∧(V=P++seI l f nn a q i)∧ρ=cO (set O1 k (.bx [hx.sl (V).length])) [(0,.bp (k+100000) 0),(4,cA q),(6,.bx (aQ l)),(7,.bx (cN f)),(10,cA (e7 l a)),(11,vi (i:Nat))]) _ ⟨0,h,P,rfl,rfl,?_,?_,?_⟩ ?_)
 ·exact bE
 ·(unfold seI;simp)
 ·exact b9
 rintro n sF ρ ⟨i,hx,V,rfl,rfl,l0_0,l0_1,rfl⟩ _ Z3;have hgl:=bFy l f nn a q i;have hgb2:i<(e7 l a).length→V.length+2^nn≤100000000:=fun h=>by
  rw[l0_1,cAb];have:i*2^nn≤1*2^nn:=cEr _ aN;omega
 refine bD fun _ Z4=>eU hF [0,4,6,7,10,11] ?_;refine fK (fun c0=>?_) fun c0=>?_
 ·refine dN (Z4 _ _ (bD fun _ Z6=>dL (eU hF [0,4,6,7,10,11] ?_)));refine eU hF [0,4,6,7,10,11,12] ?_;refine eU hF [0,4,6,7,10,11,12] ?_;refine bD fun _ Z10=>bD fun _ Z11=>?_;refine aUs (s1:=[rgP hx (V)]) (s2:=[]) (l:=(q++[((e7 l a).getD i default)]).map cM) 12 gS (by simp (disch:=omega) only[go_sem,seval]<;>first|rfl|simp) rfl (fun hz=>?_);refine yL (s1:=[rgP hx (V)]) (s2:=[]) 12 gS (by simp (disch:=omega) only[go_sem,seval]<;>first|rfl|(simp only[cAr])) rfl (cF.frzL cM (q++[((e7 l a).getD i default)])) rfl ?_;refine aPy hF [0,4,6,7,10,11,12] ?_;refine fF (aEr _ l f (q++[((e7 l a).getD i default)]) hl (by simp;omega)) ?_;refine Z11 _ _ (fK (fun c1=>?_) fun c1=>?_)
  ·have hft:uC l f (q++[((e7 l a).getD i default)])=false:=(by simpa using c1);have hgi:seI l f nn a q (i+1)=seI l f nn a q i:=(by rw[bCh c0];unfold seG;rw[if_neg (by rw[hft];simp),cEw]);refine gB (Z6 _ _ (pG hF [0,4,6,7,10,11] ?_));refine Z3 _ _ _ bE ⟨i+1,hx,V,rfl,rfl,bE,bE,b9⟩
  have hft:uC l f (q++[((e7 l a).getD i default)])=true:=(by simpa using c1);refine dN (Z10 _ _ (bD fun _ Z12=>bH hF ?_));refine dE [0,4,6,7,10,11,12] [] ?_;refine w4 (nD _ l ((e7 l a).getD i default)) ?_;refine Z12 _ _ (bD fun _ Z13=>eU hF [0,4,6,7,10,11,12,14] ?_);refine fK (fun c2=>?_) fun c2=>?_
  ·have he:sT l ((e7 l a).getD i default)=true:=(by simpa using c2);have hgi:seI l f nn a q (i+1)=seI l f nn a q i++[(q++[((e7 l a).getD i default)])]:=(by rw[bCh c0];unfold seG;rw[if_pos hft,if_pos he]);refine bD fun _ Z15=>cQ (Le.keepC [0,4,6,7,10,11,12] _) ?_;refine fY ?_;refine ef hF ?_;refine ef hF ?_;refine ef hF ?_;refine ef hF ?_;refine ef hF ?_;refine ef hF ?_;refine ef hF ?_;show iU _ _ _ _ _ _ _ _;refine gT (s1:=[]) (s2:=[]) 55 gS (by simp (disch:=omega) only[go_sem,seval]<;>rfl) rfl ?_;refine ef hF ?_;show iU _ _ _ _ _ _ _ _;refine lS (s1:=[]) (s2:=[]) (e:=67) (z:=1) (l:=(V++[(q++[((e7 l a).getD i default)])]).map ePt) 58 gS (by simp (disch:=omega) only[go_sem,seval]<;>(first|rfl|(simp;done)|(simp;rfl)|(simp[encL,cM];done)|(simp[encL,cM];rfl))) rfl (fun h2=>?_)
   try simp (disch:=omega) only[go_sem,seval]
   refine ef hF ?_;refine ef hF ?_;refine ef hF ?_;refine Z15 _ _ (gB (Z6 _ _ (pG hF [0,4,6,7,10,11] ?_)));refine Z3 _ _ _ bE ⟨i+1,h2,V++[(q++[((e7 l a).getD i default)])],rfl,rfl,bE,bE,b9⟩
  have he:sT l ((e7 l a).getD i default)=false:=(by simpa using c2);have hgi:seI l f nn a q (i+1)=seI l f nn a q i++srP l f nn (cR l ((e7 l a).getD i default)).1 (q++[((e7 l a).getD i default)]):=(by rw[bCh c0];unfold seG;rw[if_pos hft,if_neg (by rw[he];simp)]);refine dN (Z13 _ _ (bD fun _ Z16=>bH hF ?_));refine sZ 12 [0,4,6,7,10,11,12] [0,4,6,7,10,11,12,62,63,64,65,66,67,61,68,69,16,15] [] [] [[],[],[],[1,2],[1,2,3],[0,1,2,3,4],[0,1,2,3,4,5],[0,1,2,3,4,5,6],[0,1,2,3,4,5,6],[],[0,1,2,3,4,5,6,7,9],[0,1,2,3,4,5,6,7,8,9,10]] [[10],[10],[10],[10],[10],[10],[10],[10],[],[10],[],[]] (fun bQ=>cO (set O1 k (.bx [hx.sl (V).length])) [(0,.bp (k+100000) 0),(4,cA q),(6,.bx (aQ l)),(7,.bx (cN f)),(10,cA (e7 l a)),(11,vi (i:Nat)),(12,cA (q++[((e7 l a).getD i default)])),(62,aX (bQ 0) (.agg (aQ l))),(63,aX (bQ 1) (cA (e7 l a))),(64,aX (bQ 2) (vi (i:Nat))),(65,aX (bQ 3) (.dp (cM ((e7 l a).getD i default)))),(66,aX (bQ 4) (.agg (cM ((e7 l a).getD i default)))),(67,aX (bQ 5) (.tup [.agg (cN (cR l ((e7 l a).getD i default)).1),vb (cR l ((e7 l a).getD i default)).2])),(61,aX (bQ 6) (.tup [.agg (cN (cR l ((e7 l a).getD i default)).1),vb (cR l ((e7 l a).getD i default)).2])),(68,aX (bQ 7) (.agg (cN (cR l ((e7 l a).getD i default)).1))),(69,aX (bQ 8) (vb (cR l ((e7 l a).getD i default)).2)),(16,aX (bQ 11) (vb (cR l ((e7 l a).getD i default)).2)),(15,jB (bQ 10) (bQ 9) (.bx (cN (cR l ((e7 l a).getD i default)).1)) (.bx [vi 0,vi 0]))]) (fun iQ hiQ oQ hoQ bQ hbQ KQ hKQ=>?_) ?_
  ·match iQ,hiQ with
   |0,_|1,_|2,_|3,_|4,_|6,_|7,_|8,_|9,_|10,_|11,_=>
    exact mkp hoQ hbQ hKQ
   |5,_=>
    exact mkc hoQ hbQ hKQ (kB _ l ((e7 l a).getD i default))
  refine stz ?_;refine Z16 _ _ (cQ (Le.keepC [0,4,6,7,10,11,12,15] _) ?_);refine fY ?_;refine ef hF ?_;refine ef hF ?_;refine ef hF ?_;refine ef hF ?_;refine ef hF ?_;show iU _ _ _ _ _ _ _ _;refine aFm (cur:=_) (rs:=[rgP hx (V)]) (s2:=[]) rfl rfl rfl gS aZ (by simp (disch:=omega) only[go_sem,seval]) (by simp (disch:=omega) only[go_sem,seval]) (by simp (disch:=omega) only[go_sem,seval]<;>rfl) aZ (by simp (disch:=omega) only[go_sem,seval]<;>exact List.Perm.refl _) (ih _ (k+100000) hx V (cR l ((e7 l a).getD i default)).1 (q++[((e7 l a).getD i default)]) (by simp (disch:=omega) only[go_sem,seval]) (bHq hft) (by simp;omega) (hgb2 c0)) ?_;rintro rs3 O3 r3 ⟨h3,rfl,rfl,rfl⟩;refine stz ?_;refine Z6 _ _ (pG hF [0,4,6,7,10,11] ?_);refine Z3 _ _ _ bE ⟨i+1,h3,V++srP l f nn (cR l ((e7 l a).getD i default)).1 (q++[((e7 l a).getD i default)]),rfl,rfl,bE,bE,b9⟩
 refine gB ?_
 (try simp only[oD,lV,bZf,↓reduceIte]);exact bDm (s:=k) (cs0:=[h.sl P.length]) (cs:=[hx.sl (V).length]) (.inr rfl) rfl (by rw[bC,if_pos rfl]) rfl rfl rfl (by simp (disch:=omega) only[go_sem,seval]<;>first|rfl|simp) ⟨hx,by rw[bKb (i:=i) aN,← l0_1],by rw[bKb (i:=i) aN,← l0_1],rfl⟩
end
theorem vQ {l:aE} {f:cP} (hl:hM l): ∀n,SeC l f n
 |0=>fun O k h P a q h1 h2 h3=>absurd h3 aN
 |n+1=>fun O k h P a q h1 h2 h3 h4=>aKp O l f n (vQ hl n) hl k h P a q h1 h2 h3 h4
end Go.Sg
