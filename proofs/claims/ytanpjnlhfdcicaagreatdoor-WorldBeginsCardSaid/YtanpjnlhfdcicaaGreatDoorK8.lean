/- Several texts as one. -/
import Derived.Test.YtanpjnlhfdcicaaGreatDoorK7
set_option linter.unusedSectionVars false
set_option linter.unusedVariables false
set_option linter.unusedSimpArgs false
set_option maxRecDepth 20000
set_option maxHeartbeats 16000000
namespace Go.Sg
open Go.Proofs
def FoR (O:aN) (k:Nat) (l:aC) (P:List (List bJ)) (n:Nat) (a:fH) (q:List bJ) (rs:List Rg) (O':aN) (r:DV):Prop:=
 ∃h',rs=[rgP h' (P++goP l n a q)]∧O'=set O k (.bx (fnX l h' (P++goP l n a q).length))∧r=.tup []
def FoC (l:aC) (n:Nat):Prop:= ∀(O:aN) (k:Nat) (h hp:Hd) (P:List (List bJ)) (a:fH) (q:List bJ) (nq:Nat),nq=q.length→O k=.bx (fnX l h P.length)→q.length≤12→13≤q.length+n→P.length+2^n≤100000000→
 aNj Tryz.prog O 145 [.bp k 0,hp.sl nq,.agg (fM a)] [rgQ hp q,rgP h P] (FoR O k l P n a q)
def goG (l:aC) (n:Nat) (q:List bJ) (s:bJ):List (List bJ):=if rT l s=true then [q++[s]] else goP l n (eT l s).1 (q++[s])
def goI (l:aC) (n:Nat) (b:fH) (q:List bJ) (i:Nat):List (List bJ):=((iZ l b).take i).flatMap (goG l n q)
theorem bRk {l:aC} {n:Nat} {b:fH} {q:List bJ} {i:Nat} (h:i<(iZ l b).length):goI l n b q (i+1)=goI l n b q i++goG l n q ((iZ l b).getD i default):=by
 unfold goI;rw[kX default h,aBl,List.flatMap_singleton]
theorem bYe (l:aC) (n:Nat) (q:List bJ) (s:bJ):(goG l n q s).length≤2^n:=by
 unfold goG;split
 ·simp;exact Nat.one_le_two_pow
 exact aSg _ _ _ _
theorem cCw (l:aC) (n:Nat) (b:fH) (q:List bJ): ∀i,(goI l n b q i).length≤i*2^n
 |i=>by
  unfold goI;refine eL (aDp (c:=2^n) fun s _=>bYe l n q s) (gF _ ?_);exact aBu _ _
theorem cDk {l:aC} {n:Nat} {b:fH} {q:List bJ} (h:q.length=12∨aBs l q b.fEl=false):goP l (n+1) b q=[]:=by rw[goP,if_pos h]
theorem bTl {l:aC} {n:Nat} {b:fH} {q:List bJ} (h: ¬(q.length=12∨aBs l q b.fEl=false)) {i:Nat} (hi:(iZ l b).length≤i):goP l (n+1) b q=goI l n b q i:=by
 rw[goP,if_neg h];unfold goI;rw[jD hi];rfl
theorem bVn {l:aC} {n:Nat} {b:fH} {q:List bJ} (h: ¬(q.length=12∨aBs l q b.fEl=false)) (h1:(iZ l b).length=1):goP l (n+1) b q=goG l n q ((iZ l b).getD 0 default):=by
 rw[bTl h (i:=0+1) aV,bRk aV];unfold goI;simp
theorem yW {l:aC} {n:Nat} {q:List bJ} {s:bJ}:goG l n q s=qF l (q++[s])++if rT l s=true then [] else goP l n (eT l s).1 (q++[s]):=by
 unfold goG qF;rw[lR];split<;>simp
section
attribute [local go_sem] kD nS oX gR fI xK cJ iL Nat.mul_one iD gH ite_self aSl aSt aMv aMn aVi aTs aUf aVm iP
set_option maxRecDepth 20000 in
theorem aYo (O:aN) (l:aC) (nn:Nat) (ih: ∀m,m≤nn→FoC l m) (hl:gO l) (hv: ∀e,(bH l e).2=true→0≤(bH l e).1.fEl) (k:Nat) (h hp:Hd) (P:List (List bJ)) (a:fH) (q:List bJ) (nq:Nat) (hnq:nq=q.length) (hk:O k=.bx (fnX l h P.length)) (hq:q.length≤12) (hqn:13≤q.length+(nn+1)) (hP:P.length+2^(nn+1)≤100000000):aNj Tryz.prog O 145 [.bp k 0,hp.sl nq,.agg (fM a)] [rgQ hp q,rgP h P] (FoR O k l P (nn+1) a q):=by
 subst hnq;obtain ⟨O1,rfl⟩: ∃O1,O=set O1 k (.bx (fnX l h P.length)):=⟨O,by funext j;rw[aK];split<;>simp_all⟩;refine sU Tryz.func145 rfl bF fun w0 I0 A0=>?_;have hF:=pS w0 I0 (cG A0) (GOf [rgQ hp q,rgP h P]);refine bJn (s1:=[]) (s2:=[rgP h P]) 1 eN (by simp (disch:=omega) only[go_sem,seval]<;>first|rfl|simp) rfl ?_;refine bI hF [0,1,2] ?_;refine bCd [0,1,5] rfl (fun l' hl=>by have hb:((0:Nat)==l')=false:=(by simpa using fC hl);simp only[findLabel,hb];rfl) (fun n sF ρ=> ∃m,∃p,∃b,∃U,∃hx,n=m∧sF=[rgP hx U]∧(U++goP l m b p=P++goP l (nn+1) a q)∧(p.length≤12)∧(13≤p.length+m)∧(U.length+2^m≤100000000)∧(m≤nn+1)∧ρ=dU (set O1 k (.bx (fnX l hx (U).length))) [(0,.bp (k+100000) 0),(1,yR p),(5,.bx (fM b))]) _ ⟨nn+1,q,a,P,h,rfl,rfl,?_,?_,?_,?_,?_,?_⟩ ?_
 ·rfl
 ·exact bD
 ·exact bD
 ·exact bD
 ·exact bD
 ·exact dT
 rintro n sF ρ ⟨m,p,b,U,hx,rfl,rfl,s0_0,s0_1,s0_2,s0_3,s0_4,rfl⟩ _ Z1;obtain ⟨m1,rfl⟩: ∃m1,n=m1+1:=⟨n-1,by omega⟩;have hbl:=bFc l b;have hpw:2^(m1+1)=2*2^m1:=by rw[Nat.pow_succ,oE]
 have hp1:1≤2^m1:=Nat.one_le_two_pow;refine aW fun _ Z2=>aW fun _ Z3=>gI hF [0,1,5] ?_;refine rO (fun g0=>aNk _ p 1 sz aV l (k+100000) (hx.sl U.length) b.fEl sr) ?_;refine Z3 _ _ (cQ (fun c0=>?_) fun c0=>?_)
 ·have hcc:p.length=12∨aBs l p b.fEl=false:=(by simpa using c0);refine dV ?_
  (try simp only[fQ,d8,aMr,↓reduceIte]);exact aNg (s:=k) (cs0:=fnX l h P.length) (cs:=fnX l hx (U).length) (.inl rfl) rfl (by rw[aK,if_pos rfl]) rfl rfl rfl (by simp (disch:=omega) only[go_sem,seval]<;>first|rfl|simp) ⟨hx,by rw[← s0_0,cDk hcc,kZ],by rw[← s0_0,cDk hcc,kZ],rfl⟩
 have hcc: ¬(p.length=12∨aBs l p b.fEl=false):=(by simpa using c0);have hp11:p.length<12:=aV;refine bU (Z2 _ _ (aW fun _ Z4=>iU hF ?_));refine gJ [0,1,5] [(6,27)] ?_;refine cdz (vF _ l b hl) ?_;refine Z4 _ _ (aW fun _ Z5=>bI hF [0,1,5,6] ?_);refine cQ (fun c1=>?_) fun c1=>?_
 ·have h1:(iZ l b).length=1:=aV;refine bI hF [0,1,5,6] ?_;refine aW fun _ Z8=>aW fun _ Z9=>cC (Le.keepC [0,1,5] _) ?_;refine cU ?_;refine ef hF ?_;refine ef hF ?_;show lW _ _ _ _ _ _ _ _;refine sZ (cur:=_) (rs:=[rgP hx U]) (s2:=[]) rfl rfl rfl eN bF sz sz sr bF (by simp (disch:=omega) only[go_sem,seval]<;>exact List.Perm.refl _) (rG _ l (p++[((iZ l b).getD 0 default)]) (U) hx (k+100000) 1 sz (by simp (disch:=omega) only[go_sem,seval]<;>first|rfl|simp) _ dH (by simp;omega) dH aV) ?_;rintro rs1 O2 r1 ⟨h2,rfl,rfl,rfl⟩
  try simp (disch:=omega) only[go_sem,seval]
  refine ef hF ?_;refine Z9 _ _ (bI hF [0,1,5] ?_);refine cQ (fun c2=>?_) fun c2=>?_
  ·have he:rT l ((iZ l b).getD 0 default)=false:=(by
    cases hx2:rT l ((iZ l b).getD 0 default) with
    |false=>rfl
    |true=>have hq2:=(aUh (l:=l) (q:=p++[((iZ l b).getD 0 default)]) (by rw[lR];exact hx2)).2;rw[hq2] at c2;simp at c2)
   obtain ⟨hpP,hpE⟩:=aNi (l:=l) (q:=p++[((iZ l b).getD 0 default)]) (by rw[lR];exact he);refine bQk ?_
   try simp only[fQ,d8,aMr,↓reduceIte]
   refine Z1 _ _ _ ?_ ⟨m1,p++[((iZ l b).getD 0 default)],aEg l (p++[((iZ l b).getD 0 default)]),U++qF l (p++[((iZ l b).getD 0 default)]),h2,rfl,rfl,?_,?_,?_,?_,bD,dT⟩
   ·omega
   ·rw[← s0_0,bVn hcc h1,yW,hpP,hpE,he,lR];simp
   ·simp;omega
   ·simp;omega
   ·rw[hpP];simp;omega
  have he:rT l ((iZ l b).getD 0 default)=true:=(by
   cases hx2:rT l ((iZ l b).getD 0 default) with
   |true=>rfl
   |false=>
    have hq2:=(aNi (l:=l) (q:=p++[((iZ l b).getD 0 default)]) (by rw[lR];exact hx2)).2;have hn2:=aQw (l:=l) (s:=((iZ l b).getD 0 default)) (by rw[hx2];simp);have hv2:=hv ⟨((iZ l b).getD 0 default).fEl,((iZ l b).getD 0 default).xAv⟩ (congrArg Prod.snd hn2);rw[hq2,lR] at c2;have hv3:0≤(eT l ((iZ l b).getD 0 default)).1.fEl:=hv2;omega)
  obtain ⟨hpP,hpE⟩:=aUh (l:=l) (q:=p++[((iZ l b).getD 0 default)]) (by rw[lR];exact he);refine bU (Z8 _ _ (dV ?_))
  (try simp only[fQ,d8,aMr,↓reduceIte]);exact aNg (s:=k) (cs0:=fnX l h P.length) (cs:=fnX l h2 (U++qF l (p++[((iZ l b).getD 0 default)])).length) (.inl rfl) rfl (by rw[aK,if_pos rfl]) rfl rfl rfl (by simp (disch:=omega) only[go_sem,seval]<;>first|rfl|simp) ⟨h2,by rw[← s0_0,bVn hcc h1,yW,he,if_pos rfl,kZ],by rw[← s0_0,bVn hcc h1,yW,he,if_pos rfl,kZ],rfl⟩
 have h1: ¬(iZ l b).length=1:=aV;refine bU (Z5 _ _ (bI hF [0,1,6] ?_));refine bZ (eY [0,1,43,44,45] (fun n sF ρ=> ∃i,∃hx,∃V,n=(iZ l b).length-i∧sF=[rgP hx V]∧(i≤(iZ l b).length)∧(V=U++goI l m1 b p i)∧ρ=dU (set O1 k (.bx (fnX l hx (V).length))) [(0,.bp (k+100000) 0),(1,yR p),(43,fJ (iZ l b)),(44,vi ((iZ l b).length:Nat)),(45,vi (i:Nat))]) _ ⟨0,hx,U,rfl,rfl,?_,?_,?_⟩ ?_)
 ·exact bD
 ·(unfold goI;simp)
 ·exact dT
 rintro n sF ρ ⟨i,hx,V,rfl,rfl,l0_0,l0_1,rfl⟩ _ Z12;have hgl:=cCw l m1 b p i;have hgb2:i<(iZ l b).length→V.length+2^m1≤100000000:=fun h=>by
  rw[l0_1,fP];have:i*2^m1≤1*2^m1:=gF _ aV;omega
 refine bI hF [0,1,6,43,44,45] ?_;refine aW fun _ Z14=>cQ (fun c3=>?_) fun c3=>?_
 ·refine bU (Z14 _ _ (aW fun _ Z15=>bZ (bI hF [0,1,6,43,44,45] ?_)));refine aW fun _ Z17=>aCa 6 [0,1,6,8,43,44,45] [0,1,8,43,44,45,49,51,52,9,50,53] [[],[0],[],[2],[0,1,2,3],[0,1,2,3,4]] [[1,4,5],[4,5],[4,5],[4,5],[5],[]] (fun (_:_root_.Unit) bQ=>dU (set O1 k (.bx (fnX l hx (V).length))) [(0,.bp (k+100000) 0),(1,yR p),(8,.bx (cV ((iZ l b).getD i default))),(43,fJ (iZ l b)),(44,vi ((iZ l b).length:Nat)),(45,vi (i:Nat)),(49,bC (bQ 0) (.own 1 p.length)),(51,bC (bQ 2) (.agg (cV ((iZ l b).getD i default)))),(52,bC (bQ 3) (.sl 3 1 (fun i_=>[cV ((iZ l b).getD i default)].getD i_ []))),(9,bC (bQ 5) (.row 87 3 (p.map cV++[cV ((iZ l b).getD i default)]))),(50,(cond (bQ 4) (.any) (cond (bQ 1) (yR p) (.any)))),(53,(cond (bQ 5) (.any) (cond (bQ 4) (.row 87 3 (p.map cV++[cV ((iZ l b).getD i default)])) (.any))))]) (fun (_:_root_.Unit) bQ=>[rgP hx V]) () hF (fun iQ hiQ oQ hoQ gg bQ hbQ KQ hKQ=>?_) (fun gg=>?_)
  ·match iQ,hiQ with
   |0,_|2,_|3,_|4,_|5,_=>
    exact qC hF hoQ hbQ (hKQ ())
   |1,_=>
    obtain rfl:=dO hoQ;simp only[stM,tE,tI,oK,oS,pH,jC,jE] at hbQ;show lW _ _ _ _ _ _ _ _;refine fK hF ?_;refine bV rfl bF bF ?_;simp (disch:=omega) only[go_sem,seval,hbQ]
    repeat refine cP kN ?_
    refine jJ _ (qG _ p 1 sz aV) ?_;simp (disch:=omega) only[go_sem,seval,hbQ]
    repeat refine cP kN ?_
    refine hKQ () _ _ ?_ ?_
    ·first|rfl|(simp (disch:=omega) only[go_sem,seval,hbQ];done)|(simp (disch:=omega) only[go_sem,seval,hbQ]<;>rfl)
    simp (disch:=omega) only[go_sem,seval,hbQ]<;>first|rfl|simp
  refine lL ?_;refine Z17 _ _ (aW fun _ Z18=>cC (Le.keepC [0,1,6,9,43,44,45] _) ?_);refine cU ?_;refine ef hF ?_;refine ef hF ?_;show lW _ _ _ _ _ _ _ _;refine sZ (cur:=_) (rs:=[rgP hx V]) (s2:=[]) rfl rfl rfl eN bF sz sz sr bF (by simp (disch:=omega) only[go_sem,seval]<;>exact List.Perm.refl _) (rG _ l (p++[((iZ l b).getD i default)]) (V) hx (k+100000) 9 sz (by simp (disch:=omega) only[go_sem,seval]<;>first|rfl|simp) _ dH (by simp;omega) dH aV) ?_;rintro rs1 O2 r1 ⟨h2,rfl,rfl,rfl⟩
  try simp (disch:=omega) only[go_sem,seval]
  refine ef hF ?_;refine ef hF ?_;refine Z18 _ _ (bI hF [0,1,6,9,10,43,44,45] ?_);refine cQ (fun c4=>?_) fun c4=>?_
  ·have he:rT l ((iZ l b).getD i default)=false:=(by
    cases hx2:rT l ((iZ l b).getD i default) with
    |false=>rfl
    |true=>have hq2:=(aUh (l:=l) (q:=p++[((iZ l b).getD i default)]) (by rw[lR];exact hx2)).2;rw[hq2] at c4;simp at c4)
   obtain ⟨hpP,hpE⟩:=aNi (l:=l) (q:=p++[((iZ l b).getD i default)]) (by rw[lR];exact he);have hb2:(V++qF l (p++[((iZ l b).getD i default)])).length+2^m1≤100000000:=(by rw[hpP,kZ];exact hgb2 c3);have hgi:goI l m1 b p (i+1)=goI l m1 b p i++qF l (p++[((iZ l b).getD i default)])++goP l m1 (aEg l (p++[((iZ l b).getD i default)])) (p++[((iZ l b).getD i default)]):=(by rw[bRk c3,yW,he,hpP,hpE,lR];simp);refine bJl (s1:=[]) (s2:=[rgP h2 (V++qF l (p++[((iZ l b).getD i default)]))]) (l:=(p++[((iZ l b).getD i default)]).map cV) 9 eN (by simp (disch:=omega) only[go_sem,seval]<;>first|rfl|simp) rfl (fun hz=>?_);refine cC (Le.keepC [0,1,6,9,10,43,44,45] _) ?_;refine cU ?_;refine ef hF ?_;refine ef hF ?_;refine ef hF ?_;show lW _ _ _ _ _ _ _ _;refine sZ (cur:=_) (rs:=[rgQ hz (p++[((iZ l b).getD i default)]),rgP h2 (V++qF l (p++[((iZ l b).getD i default)]))]) (s2:=[]) rfl rfl rfl eN bF sz sz sr bF (by simp (disch:=omega) only[go_sem,seval]<;>exact List.Perm.refl _) (ih m1 aV _ (k+100000) h2 hz (V++qF l (p++[((iZ l b).getD i default)])) (aEg l (p++[((iZ l b).getD i default)])) (p++[((iZ l b).getD i default)]) _ dH sz (by simp;omega) (by simp;omega) hb2) ?_;rintro rs3 O3 r3 ⟨h3,rfl,rfl,rfl⟩;refine lL ?_;refine Z15 _ _ (eO hF [0,1,6,43,44,45] ?_);refine Z12 _ _ _ bD ⟨i+1,h3,(V++qF l (p++[((iZ l b).getD i default)]))++goP l m1 (aEg l (p++[((iZ l b).getD i default)])) (p++[((iZ l b).getD i default)]),rfl,rfl,bD,?_,dT⟩
   ·(rw[l0_1,hgi];simp)
  have he:rT l ((iZ l b).getD i default)=true:=(by
   cases hx2:rT l ((iZ l b).getD i default) with
   |true=>rfl
   |false=>
    have hq2:=(aNi (l:=l) (q:=p++[((iZ l b).getD i default)]) (by rw[lR];exact hx2)).2;have hn2:=aQw (l:=l) (s:=((iZ l b).getD i default)) (by rw[hx2];simp);have hv2:=hv ⟨((iZ l b).getD i default).fEl,((iZ l b).getD i default).xAv⟩ (congrArg Prod.snd hn2);rw[hq2,lR] at c4;have hv3:0≤(eT l ((iZ l b).getD i default)).1.fEl:=hv2;omega)
  have hgi:goI l m1 b p (i+1)=goI l m1 b p i++qF l (p++[((iZ l b).getD i default)]):=(by rw[bRk c3,yW,he,if_pos rfl,kZ]);refine bU (Z15 _ _ (eO hF [0,1,6,43,44,45] ?_));refine Z12 _ _ _ bD ⟨i+1,h2,(V++qF l (p++[((iZ l b).getD i default)])),rfl,rfl,bD,?_,dT⟩
  ·(rw[l0_1,hgi];simp)
 refine fV ?_
 (try simp only[fQ,d8,aMr,↓reduceIte]);exact aNg (s:=k) (cs0:=fnX l h P.length) (cs:=fnX l hx (V).length) (.inr rfl) rfl (by rw[aK,if_pos rfl]) rfl rfl rfl (by simp (disch:=omega) only[go_sem,seval]<;>first|rfl|simp) ⟨hx,by rw[← s0_0,bTl hcc (i:=i) aV,← l0_1],by rw[← s0_0,bTl hcc (i:=i) aV,← l0_1],rfl⟩
end
theorem aDc {l:aC} (hl:gO l) (hv: ∀e,(bH l e).2=true→0≤(bH l e).1.fEl): ∀n,∀m,m≤n→FoC l m
 |0,m,hm=>fun O k h hp P a q nq h1 h2 h3 h4=>absurd h4 aV
 |n+1,m,hm=>by
  rcases uU hm with h|rfl
  ·exact aDc hl hv n m aV
  exact fun O k h hp P a q nq h1 h2 h3 h4 h5=>aYo O l n (aDc hl hv n) hl hv k h hp P a q nq h1 h2 h3 h4 h5
def qJ (fr:Int→List bL) (n:Nat):List bL:=(List.range n).flatMap fun i=>fr (i:Nat)
theorem bEc (fr:Int→List bL) (n:Nat):qJ fr (n+1)=qJ fr n++fr (n:Nat):=by
 unfold qJ;rw[xS,aBl];simp
theorem aRi {fr:Int→List bL} (h: ∀i,(fr i).length≤10000): ∀n,(qJ fr n).length≤10000*n
 |0=>by simp[qJ]
 |n+1=>by rw[bEc,fP];have:=aRi h n;have:=h (n:Nat);omega
def iH (l:aC) (fr:Int→List bL):List bL×Int:=if mK l≠0 then ([],mK l) else if 48<(qJ fr l.xAa.length).length then ([],2) else (qJ fr l.xAa.length,0)
theorem bOw {l:aC} {fr:Int→List bL} (h:mK l≠0):iH l fr=([],mK l):=by unfold iH;rw[if_pos h]
theorem bVd {l:aC} {fr:Int→List bL} (h:mK l=0) (h2:48<(qJ fr l.xAa.length).length):iH l fr=([],2):=by unfold iH;rw[if_neg (by simp[h]),if_pos h2]
theorem bPo {l:aC} {fr:Int→List bL} (h:mK l=0) (h2: ¬48<(qJ fr l.xAa.length).length):iH l fr=(qJ fr l.xAa.length,0):=by unfold iH;rw[if_neg (by simp[h]),if_neg h2]
abbrev cOz (l:List bL):DV:=rowL 157 14 bK l
section
attribute [local go_sem] iP wJ wX wB sS aFg aFf aDt aEb aDk aDj yO y5 zC uO aHy aHz aIg aIo aIa aHp aIs aHs aHq aHo yM zM yH yX
theorem aTw (O:aN) (l:aC) (fr:Int→List bL) (hl:gO l) (hF:mK l=0→ ∀O (i:Nat),i<l.xAa.length→aZ Tryz.prog O 97 [.agg (aQ l),vi (i:Nat)] (pW (fr (i:Nat)))) (hb: ∀i,(fr i).length≤10000):aZ Tryz.prog O 56 [.agg (aQ l)] (.tup [pW (iH l fr).1,vi (iH l fr).2]):=by
 have hl4:=hl.sg;refine bG 0 rfl (.agg (d:=uK l.xAa) (by simp[aQ]) (.sl _ _ _)) fun hs=>?_;refine eV Tryz.func56 ?_;refine aB [0] ?_;refine aA fun _ Z1=>aA fun _ Z2=>bN [1] ?_;refine f9 (oW _ l hl) ?_;refine Z2 _ (aB [1,4] ?_);refine aO (fun c0=>?_) fun c0=>?_
 ·refine aB [4] ?_;refine aL (rtu (.cons ?_ (.cons ?_ .nil)))
  ·exact roN sz (by (rw[bOw (by simpa using c0)]))
  exact vU (by ((try simp only[go_sem,seval]);try simp (disch:=omega) only[go_sem,seval])<;>((rw[bOw (by simpa using c0)]))) rfl rfl
 have hck:mK l=0:=(by simpa using c0);refine aD (Z1 _ (aB [1] ?_));refine aA fun _ Z6=>aB [1,5] ?_;refine aI (l4 5 157 14 bK rfl rfl ?_);refine aX [1,5,14,15] (fun n ρ=> ∃i,n=l.xAa.length-i∧(i≤l.xAa.length)∧ρ=dU O [(1,.bx (aQ l)),(5,cOz (qJ fr i)),(14,vi (l.xAa.length:Nat)),(15,vi (i:Nat))]) _ ⟨0,rfl,?_,?_⟩ ?_
 ·exact bD
 ·exact dT
 rintro n ρ ⟨i,rfl,l0_0,rfl⟩ _ Z8;have hal:=aRi hb i;refine aB [1,5,14,15] ?_;refine aA fun _ Z10=>aO (fun c1=>?_) fun c1=>?_
 ·refine aD (Z10 _ (aA fun _ Z11=>aI (aB [1,5,14,15] ?_)));refine bN [1,5,6,14,15] ?_;refine f9 (hF hck _ i c1) ?_;refine Z11 _ (bE [1,5,14,15] ?_);refine Z8 _ _ bD ⟨i+1,rfl,bD,?_⟩;((try simp only[go_sem,seval]);try simp (disch:=omega) only[go_sem,seval])<;>(show set (set _ 5 (DV.row _ 14 (_++(List.range (fr (i:Nat)).length).map (fun j=>bK ((fr (i:Nat)).getD j default))))) 1 _=_;rw[cGv (l:=fr (i:Nat)) (e:=bK) dH (fun j hj=>rfl),← eM,← bEc];rfl)
 refine bA (Z6 _ (aA fun _ Z13=>aB [5] ?_));refine aO (fun c2=>?_) fun c2=>?_
 ·obtain rfl:i=l.xAa.length:=aV;refine aB [] ?_;refine aL (rtu (.cons ?_ (.cons ?_ .nil)))
  ·exact roN sz (by (rw[bVd hck aV]))
  exact vU (by ((try simp only[go_sem,seval]);try simp (disch:=omega) only[go_sem,seval])<;>((rw[bVd hck aV]))) rfl rfl
 obtain rfl:i=l.xAa.length:=aV;refine aD (Z13 _ (aA fun _ Z16=>iS 5 _ rfl rfl ?_));refine bE [5] ?_;refine Z16 _ (aL (rtu (.cons ?_ (.cons ?_ .nil))))
 ·exact roL rfl (by (rw[bPo hck aV]))
 exact vU (by ((try simp only[go_sem,seval]);try simp (disch:=omega) only[go_sem,seval])<;>((rw[bPo hck aV]))) rfl rfl
end
def gP (l:aC) (f a:fH):List (List bJ):=goP l 13 a []
def gnX (l:aC) (d:DV):List DV:=aQ l++[d]
theorem bVh (l:aC) (h:Hd) (n:Nat) (d:DV):(fnX l h n).set 6 d=gnX l d:=rfl
theorem cBk {l:aC} {d:DV}:(gnX l d).length=7:=rfl
theorem bMu {l:aC} {d:DV}:(gnX l d).drop 6=[d]:=rfl
theorem bZk {l:aC} {d:DV}:(gnX l d).getD 6 .any=d:=rfl
theorem bYu {l:aC} {z n:Nat} {f:Nat→List DV} (p:Nat→Bool):d6 p (gnX l (.sl z n f))=true:=rfl
theorem cAk {l:aC} {z n:Nat} {f:Nat→List DV}:kT (fun x=>x+100000) (gnX l (.sl z n f))=gnX l (.sl z n f):=rfl
theorem cOh: ∃i,Tryz.prog.info? 3=some i∧i.zero=some (oG.val 0):=by
 refine ⟨_,rfl,rfl⟩
theorem cPn {l:aC} {i:Int} {P:List (List bJ)} {k:Nat} (h: ¬1<pJ (nB l i) (P.take (k+1)) (nB l i (P.getD k []))):nbR l i P k=aGk l i (P.getD k []):=by unfold nbR rH;rw[if_neg h]
theorem cPf {l:aC} {i:Int} {P:List (List bJ)} {k:Nat} (h:1<pJ (nB l i) (P.take (k+1)) (nB l i (P.getD k []))):nbR l i P k={aGk l i (P.getD k []) with xAq:=nB l i (P.getD k [])++(⟨#[46]⟩++fmt (pJ (nB l i) (P.take (k+1)) (nB l i (P.getD k [])):Nat))}:=by unfold nbR rH;rw[if_pos h];rfl
theorem bDz {n:Nat} (h:n≤21):(⟨#[46]⟩:ByteArray).size+n≤maxLen:=by unfold maxLen;show 1+n≤_;omega
theorem bHo {n m:Nat} (h:n≤21) (hm:m≤2001):m+((⟨#[46]⟩:ByteArray).size+n)≤maxLen:=by unfold maxLen;show m+(1+n)≤_;omega
theorem bHu (a b:ByteArray):(a++b).size=a.size+b.size:=ByteArray.size_append
theorem cJk {l:aC} (hs: ∀i,i<l.xAa.length→(l.xAa.getD i default).xAq.size≤1000) {i:Nat} (hi:i<l.xAa.length) (q:List bJ):(nB l i q).size≤2001:=by
 show ((l.xAa.getD (i:Int).toNat default).xAq++⟨#[45]⟩++nmQ l (exQ l q)).size≤_;have h1:=hs i hi;have h2:=bUi hs (aQg l q).1;rw[bHu,bHu,yG];show _+1+_≤_;omega
theorem bRv (l:aC) (i:Int) (P:List (List bJ)) (n:Nat):((xQ l i P n).map bK).take n=(xQ l i P n).map bK:=jD (by rw[cJ,aEc];exact bW _)
theorem cGf {l:aC} {i:Nat} (hi:i<l.xAa.length) (h:(bH l (l.xAa.getD i default).fAt).2=true):gK gP l (i:Nat)=xQ l i (gP l (l.xAa.getD i default).fAt (bH l (l.xAa.getD i default).fAt).1) (gP l (l.xAa.getD i default).fAt (bH l (l.xAa.getD i default).fAt).1).length:=by
 unfold gK;rw[if_neg aV];simp only[yG];rw[if_neg (by rw[h];simp)]
theorem cKc {l:aC} {i:Nat} (hi:i<l.xAa.length) (h:(bH l (l.xAa.getD i default).fAt).2=false):gK gP l (i:Nat)=[]:=by
 unfold gK;rw[if_neg aV];simp only[yG];rw[if_pos h]
theorem bTf (l:aC) (f a:fH):(gP l f a).length≤8192:=aSg l 13 a []
abbrev gQ (l:aC) (i:Nat):List (List bJ):=gP l (l.xAa.getD i default).fAt (bH l (l.xAa.getD i default).fAt).1
section
attribute [local go_sem] iP wJ wX wB sS aFg aFf aDt aEb aDk aDj yO y5 zC uO aHy aHz aIg aIo aIa aHp aIs aHs aHq aHo yM zM yH yX bRv cJ aSl aSt aMv aMn aVi aTs aUf aVm bVh cBk bMu bZk bYu cAk aEc
set_option maxRecDepth 20000 in
theorem aPa (O:aN) (l:aC) (i:Nat) (hi:i<l.xAa.length) (hl:gO l) (hes:pK l=true) (hs: ∀i,i<l.xAa.length→(l.xAa.getD i default).xAq.size≤1000) (hv: ∀e,(bH l e).2=true→0≤(bH l e).1.fEl):aZ Tryz.prog O 97 [.agg (aQ l),vi (i:Nat)] (pW (gK gP l (i:Nat))):=by
 obtain ⟨i3,hi3,hz3⟩:=cOh;have hl4:=hl.sg;have hgl:(gQ l i).length≤8192:=bTf l (l.xAa.getD i default).fAt (bH l (l.xAa.getD i default).fAt).1;refine iT Tryz.func97 rfl bF fun w0 I0 A0=>?_;have hF:=pS w0 I0 (cG A0) (GOf []);refine bI hF [0,1] ?_;refine aW fun _ Z1=>bI hF [1,2] ?_;refine cQ (fun c0=>?_) fun c0=>?_
 ·omega
 refine bU (Z1 _ _ (aW fun _ Z3=>iU hF ?_));refine aBi 14 [1,2] [1,2,24,25,26,27,28,29,30,31,23,32,33,6,5] [] [] [[],[],[1],[],[1,2,3],[1,2,3,4],[1,2,3,4,5],[0,1,2,3,4,5,6],[0,1,2,3,4,5,6,7],[0,1,2,3,4,5,6,7,8],[0,1,2,3,4,5,6,7,8],[],[0,1,2,3,4,5,6,7,8,9,11],[0,1,2,3,4,5,6,7,8,9,10,11,12]] [[12],[12],[12],[12],[12],[12],[12],[12],[12],[12],[],[12],[],[]] (fun bQ=>dU O [(1,vi (i:Nat)),(2,.bx (aQ l)),(24,bC (bQ 0) (.agg (aQ l))),(25,bC (bQ 1) (.bp 2 4)),(26,bC (bQ 2) (uK l.xAa)),(27,bC (bQ 3) (vi (i:Nat))),(28,bC (bQ 4) (.dp (jW (l.xAa.getD i default)))),(29,bC (bQ 5) (.dp ((jW (l.xAa.getD i default)).drop 1))),(30,bC (bQ 6) (.agg (fM (l.xAa.getD i default).fAt))),(31,bC (bQ 7) (.tup [.agg (fM (bH l (l.xAa.getD i default).fAt).1),vb (bH l (l.xAa.getD i default).fAt).2])),(23,bC (bQ 8) (.tup [.agg (fM (bH l (l.xAa.getD i default).fAt).1),vb (bH l (l.xAa.getD i default).fAt).2])),(32,bC (bQ 9) (.agg (fM (bH l (l.xAa.getD i default).fAt).1))),(33,bC (bQ 10) (vb (bH l (l.xAa.getD i default).fAt).2)),(6,bC (bQ 13) (vb (bH l (l.xAa.getD i default).fAt).2)),(5,rP (bQ 12) (bQ 11) (.bx (fM (bH l (l.xAa.getD i default).fAt).1)) (.bx [vi 0,vi 0]))]) (fun iQ hiQ oQ hoQ bQ hbQ KQ hKQ=>?_) ?_
 ·match iQ,hiQ with
  |0,_|1,_|2,_|3,_|4,_|5,_|6,_|8,_|9,_|10,_|11,_|12,_|13,_=>
   exact mkp hoQ hbQ hKQ
  |7,_=>
   exact mkc hoQ hbQ hKQ (n0 _ l (l.xAa.getD i default).fAt)
 refine lL ?_;refine Z3 _ _ (aW fun _ Z4=>bI hF [1,2,5,6] ?_);refine cQ (fun c1=>?_) fun c1=>?_
 ·have hjo:(bH l (l.xAa.getD i default).fAt).2=false:=(by simpa using c1);refine bI hF [] ?_;refine dV ?_;have hw:eK (.v (.slice none 0 0)) (pW (gK gP l (i:Nat))):=by rw[cKc hi hjo];exact eK.nilL _
  (try simp only[fQ,d8]);refine dN 4 ?_;exact dX.pure _ sr (by first|exact hw|(((try simp only[go_sem,seval]);try simp (disch:=omega) only[go_sem,seval]);exact hw)) rfl
 have hjo:(bH l (l.xAa.getD i default).fAt).2=true:=(by simpa using c1);refine bU (Z4 _ _ (bI hF [1,2,5] ?_));refine aW fun _ Z8=>kF [] [] 65 1 rfl ?_;refine kF [] [_] 87 3 rfl ?_;refine cC (Le.keepC [1,2,5,7] _) ?_;refine cU ?_;refine ef hF ?_;show lW _ _ _ _ _ _ _ _;refine sZ (cur:=_) (rs:=[rgQ mJ [],rgP mJ []]) (s2:=[]) rfl rfl rfl eN bF sz sz sr bF (by ((try simp only[go_sem,seval]);try simp (disch:=omega) only[go_sem,seval])<;>exact List.Perm.refl _) (aDc hl hv 13 13 (bW _) _ 7 mJ mJ [] (bH l (l.xAa.getD i default).fAt).1 [] 0 rfl sr dH dH dH) ?_;rintro rs3 O3 r3 ⟨h3,rfl,rfl,rfl⟩;refine lL ?_;refine Z8 _ _ (aW fun _ Z9=>?_);refine gL (s1:=[]) (s2:=[]) 7 6 sf (by rw[cJ];rfl) rfl (eK.frzL ePt (gQ l i)) rfl ?_;rw[bVh];refine kF [] [] 157 14 rfl ?_;refine eO hF [1,2,7] ?_;refine Z9 _ _ (bI hF [1,2,7,8] ?_);refine aW fun _ Z11=>bI hF [1,2,7,8,9] ?_;refine bZ (eY [1,2,8,9,42,43,44] (fun n sF ρ=> ∃k,∃hx,n=(gQ l i).length-k∧sF=[.row hx 157 14 ((xQ l i (gQ l i) k).map bK)]∧(k≤(gQ l i).length)∧ρ=dU O [(1,vi (i:Nat)),(2,.bx (aQ l)),(8,hx.sl k),(9,.mo (esT aLx oG (x3 (nB l i) ((gQ l i).take k)))),(42,encL 1 ePt (gQ l i)),(43,vi ((gQ l i).length:Nat)),(44,vi (k:Nat))]) _ ⟨0,mJ,rfl,rfl,?_,?_⟩ ?_)
 ·exact bD
 ·exact dT
 rintro n sF ρ ⟨k,hx,rfl,rfl,l0_0,rfl⟩ _ Z13;have hgm:=fun h:k<(gQ l i).length=>aKj (l:=l) (n:=13) (a:=(bH l (l.xAa.getD i default).fAt).1) (q:=[]) (p:=((gQ l i).getD k [])) dH List.Pairwise.nil (kI h);have hcg:((lD (x3 (nB l i) ((gQ l i).take k)) (nB l (i:Nat) ((gQ l i).getD k []))).getD 0)=(pJ (nB l i) ((gQ l i).take k) (nB l (i:Nat) ((gQ l i).getD k [])):Nat):=bSf _ _ _ rfl _;have hcl:=bGq (nB l i) ((gQ l i).take k) (nB l (i:Nat) ((gQ l i).getD k []));have htl:=aBu k (gQ l i);have hfl:=aEc l i (gQ l i) k;have hcn:k<(gQ l i).length→((lD (x3 (nB l i) ((gQ l i).take k)) (nB l (i:Nat) ((gQ l i).getD k []))).getD 0)+1=(((pJ (nB l i) ((gQ l i).take (k+1)) (nB l i ((gQ l i).getD k []))):Nat):Int):=fun h=>by
  rw[hcg,kX [] h,aAa,if_pos rfl];push_cast;rfl
 have hcm:k<(gQ l i).length→rI (x3 (nB l i) ((gQ l i).take k)) (nB l (i:Nat) ((gQ l i).getD k [])) (((lD (x3 (nB l i) ((gQ l i).take k)) (nB l (i:Nat) ((gQ l i).getD k []))).getD 0)+1)=(x3 (nB l i) ((gQ l i).take (k+1))):=fun h=>by
  rw[kX [] h,aFz]
 have hcl1:=bGq (nB l i) ((gQ l i).take (k+1)) (nB l (i:Nat) ((gQ l i).getD k []));have htl1:=aBu (k+1) (gQ l i);have hfs:=bWe ((pJ (nB l i) ((gQ l i).take (k+1)) (nB l i ((gQ l i).getD k []))):Nat) aV aV;have hns:=cJk hs hi ((gQ l i).getD k []);refine bI hF [1,2,7,8,9,41,42,43,44] ?_;refine aW fun _ Z15=>cQ (fun c2=>?_) fun c2=>?_
 ·refine bU (Z15 _ _ (aW fun _ Z16=>bZ (bI hF [1,2,7,8,9,41,42,43,44] ?_)));refine aW fun _ Z18=>gI hF [1,2,7,8,9,11,41,42,43,44,46] ?_;refine f9 (aNe _ l (i:Nat) ((gQ l i).getD k []) hl hes ⟨by omega,by omega⟩ hs (hgm (by assumption)).1 (by have:=(hgm (by assumption)).2.1;omega) (hgm (by assumption)).2.2.1) ?_;refine Z18 _ _ (aW fun _ Z19=>cC (Le.keepC [1,2,7,8,9,12,41,42,43,44] _) ?_);refine cU ?_;refine ef hF ?_;refine ef hF ?_;refine ef hF ?_;show lW _ _ _ _ _ _ _ _;refine fK hF ?_;refine pZ aLx oG (s:=9) (M:=(x3 (nB l i) ((gQ l i).take k))) (a:=(nB l (i:Nat) ((gQ l i).getD k []))) (zb:=0) (ok:=false) rfl rfl bF bF sr sr sr trivial rfl bF hi3 hz3 (vY _) (fun p _=>vY p.1) (aVj _ _ _ rfl) ?_
  try ((try simp only[go_sem,seval]);try simp (disch:=omega) only[go_sem,seval])
  refine ef hF ?_;show lW _ _ _ _ _ _ _ _;refine fK hF ?_;refine wK aLx oG (kt:=9) (e:=3) (s:=9) (M:=(x3 (nB l i) ((gQ l i).take k))) (a:=(nB l (i:Nat) ((gQ l i).getD k []))) (b:=(((lD (x3 (nB l i) ((gQ l i).take k)) (nB l (i:Nat) ((gQ l i).getD k []))).getD 0)+1)) (.inl rfl) rfl rfl bF sr sr sr trivial rfl sr trivial rfl bF (vY _) (fun p _=>vY p.1) (aVj _ _ _ rfl) ?_;refine lL ?_;refine Z19 _ _ (aW fun _ Z20=>aW fun _ Z21=>cC (Le.keepC [1,2,7,8,9,12,41,42,43,44] _) ?_);refine cU ?_;refine ef hF ?_;refine ef hF ?_;refine ef hF ?_;show lW _ _ _ _ _ _ _ _;refine fK hF ?_;refine pZ aLx oG (s:=9) (M:=(rI (x3 (nB l i) ((gQ l i).take k)) (nB l (i:Nat) ((gQ l i).getD k [])) (((lD (x3 (nB l i) ((gQ l i).take k)) (nB l (i:Nat) ((gQ l i).getD k []))).getD 0)+1))) (a:=(nB l (i:Nat) ((gQ l i).getD k []))) (zb:=0) (ok:=false) rfl rfl bF bF sr sr sr trivial rfl bF hi3 hz3 (vY _) (fun p _=>vY p.1) (aHg (aVj _ _ _ rfl)) ?_
  try ((try simp only[go_sem,seval]);try simp (disch:=omega) only[go_sem,seval])
  refine ef hF ?_;refine Z21 _ _ (aW fun _ Z22=>?_);simp only[aPr,↓reduceIte,iE];rw[hcm (by assumption),hcn (by assumption)];refine eO hF [1,2,7,8,9,12,13,41,42,43,44] ?_;refine Z22 _ _ (cQ (fun c3=>?_) fun c3=>?_)
  ·have hnb:nbR l i (gQ l i) k={(aGk l i ((gQ l i).getD k [])) with xAq:=(nB l (i:Nat) ((gQ l i).getD k []))++(⟨#[46]⟩++fmt ((pJ (nB l i) ((gQ l i).take (k+1)) (nB l i ((gQ l i).getD k []))):Nat))}:=cPf aV;refine iU hF ?_;refine aBi 8 [1,2,7,8,9,12,13,41,42,43,44] [1,2,8,9,13,42,43,44,63,64,65,66,67,68,69,12] [] [] [[],[0],[],[2],[2,3],[0,1,2,3,4],[0,1,2,3,4,5],[0,1,2,3,4,5,6]] [[7],[7],[7],[7],[7],[7],[7],[]] (fun bQ=>dU O [(1,vi (i:Nat)),(2,.bx (aQ l)),(8,hx.sl k),(9,.mo (esT aLx oG (x3 (nB l i) ((gQ l i).take (k+1))))),(13,vi ((pJ (nB l i) ((gQ l i).take (k+1)) (nB l i ((gQ l i).getD k []))):Nat)),(42,encL 1 ePt (gQ l i)),(43,vi ((gQ l i).length:Nat)),(44,vi (k:Nat)),(63,bC (bQ 0) (.bp 12 0)),(64,bC (bQ 1) (vs (nB l (i:Nat) ((gQ l i).getD k [])))),(65,bC (bQ 2) (vi ((pJ (nB l i) ((gQ l i).take (k+1)) (nB l i ((gQ l i).getD k []))):Nat))),(66,bC (bQ 3) (vs (fmt ((pJ (nB l i) ((gQ l i).take (k+1)) (nB l i ((gQ l i).getD k []))):Nat)))),(67,bC (bQ 4) (vs (⟨#[46]⟩++fmt ((pJ (nB l i) ((gQ l i).take (k+1)) (nB l i ((gQ l i).getD k []))):Nat)))),(68,bC (bQ 5) (vs ((nB l (i:Nat) ((gQ l i).getD k []))++(⟨#[46]⟩++fmt ((pJ (nB l i) ((gQ l i).take (k+1)) (nB l i ((gQ l i).getD k []))):Nat))))),(69,bC (bQ 6) (.bp 12 0)),(12,rP (bQ 7) true (.bx (bK {(aGk l i ((gQ l i).getD k [])) with xAq:=(nB l (i:Nat) ((gQ l i).getD k []))++(⟨#[46]⟩++fmt ((pJ (nB l i) ((gQ l i).take (k+1)) (nB l i ((gQ l i).getD k []))):Nat))})) (.bx (bK (aGk l i ((gQ l i).getD k [])))))]) (fun iQ hiQ oQ hoQ bQ hbQ KQ hKQ=>?_) ?_
   ·match iQ,hiQ with
    |0,_|1,_|2,_|4,_|5,_|6,_|7,_=>
     obtain rfl:=dO hoQ;simp only[stM,tE,tI,oK,oS,pH,jC,jE] at hbQ;show opI _ _ _ false _ _;((try simp only[go_sem,seval,hbQ]);try simp (disch:=omega) only[go_sem,seval,hbQ])
     repeat refine cP (by first|exact bDz hfs|exact bHo hfs hns|exact le_f3 hfs hns|exact kN) ?_
     refine hKQ _ ?_;((try simp only[go_sem,seval,hbQ]);try simp (disch:=omega) only[go_sem,seval,hbQ])<;>first|rfl|simp
    |3,_=>
     obtain rfl:=dO hoQ;simp only[stM,tE,tI,oK,oS,pH,jC,jE] at hbQ;show opI _ _ _ false _ _;((try simp only[go_sem,seval,hbQ]);try simp (disch:=omega) only[go_sem,seval,hbQ])
     repeat refine cP (by first|exact bDz hfs|exact bHo hfs hns|exact le_f3 hfs hns|exact kN) ?_
     refine lU (bCq _ ((pJ (nB l i) ((gQ l i).take (k+1)) (nB l i ((gQ l i).getD k []))):Nat) aV aV) ?_ ?_
     ·rfl
     try ((try simp only[go_sem,seval,hbQ]);try simp (disch:=omega) only[go_sem,seval,hbQ])
     repeat refine cP (by first|exact bDz hfs|exact bHo hfs hns|exact le_f3 hfs hns|exact kN) ?_
     refine hKQ _ ?_;((try simp only[go_sem,seval,hbQ]);try simp (disch:=omega) only[go_sem,seval,hbQ])<;>first|rfl|simp
   ((try simp only[go_sem,seval]);try simp (disch:=omega) only[go_sem,seval])
   repeat refine cP (by first|exact bDz hfs|exact bHo hfs hns|exact le_f3 hfs hns|exact kN) ?_
   refine Z20 _ _ ?_;refine vJ 12 (ds:=bK (nbR l i (gQ l i) k)) rfl sf (by rw[hnb];exact rQ.refl _) ?_;refine cC (Le.keepC [1,2,7,8,9,12,41,42,43,44] _) ?_;refine cU ?_;refine ef hF ?_;refine ef hF ?_;refine ef hF ?_;show lW _ _ _ _ _ _ _ _;refine iI (s1:=[]) (s2:=[]) 70 eN sr rfl ?_;refine ef hF ?_;show lW _ _ _ _ _ _ _ _;refine nV (s1:=[]) (s2:=[]) (l:=(xQ l i (gQ l i) (k+1)).map bK) 73 eN (by ((try simp only[go_sem,seval]);try simp (disch:=omega) only[go_sem,seval])<;>(first|rfl|(rw[aUp,eM];done)|(rw[aUp,eM];rfl))) rfl (fun h2=>?_);refine ef hF ?_;refine Z16 _ _ (eO hF [1,2,7,8,9,41,42,43,44] ?_);refine Z13 _ _ _ bD ⟨k+1,h2,rfl,rfl,bD,dT⟩
  have hnb:nbR l i (gQ l i) k=(aGk l i ((gQ l i).getD k [])):=cPn aV;refine bU (Z20 _ _ ?_);refine vJ 12 (ds:=bK (nbR l i (gQ l i) k)) rfl sf (by rw[hnb];exact rQ.refl _) ?_;refine cC (Le.keepC [1,2,7,8,9,12,41,42,43,44] _) ?_;refine cU ?_;refine ef hF ?_;refine ef hF ?_;refine ef hF ?_;show lW _ _ _ _ _ _ _ _;refine iI (s1:=[]) (s2:=[]) 70 eN sr rfl ?_;refine ef hF ?_;show lW _ _ _ _ _ _ _ _;refine nV (s1:=[]) (s2:=[]) (l:=(xQ l i (gQ l i) (k+1)).map bK) 73 eN (by ((try simp only[go_sem,seval]);try simp (disch:=omega) only[go_sem,seval])<;>(first|rfl|(rw[aUp,eM];done)|(rw[aUp,eM];rfl))) rfl (fun h2=>?_);refine ef hF ?_;refine Z16 _ _ (eO hF [1,2,7,8,9,41,42,43,44] ?_);refine Z13 _ _ _ bD ⟨k+1,h2,rfl,rfl,bD,dT⟩
 refine fV (Z11 _ _ (aW fun _ Z23=>?_));obtain rfl:k=(gQ l i).length:=aV;refine aYt (s1:=[]) (s2:=[]) 8 eN (by ((try simp only[go_sem,seval]);try simp (disch:=omega) only[go_sem,seval])<;>first|rfl|(simp only[cJ])) rfl (eK.frzL bK (xQ l i (gQ l i) (gQ l i).length)) rfl ?_;refine eO hF [8] ?_;refine Z23 _ _ (dV ?_)
 (try simp only[fQ,d8]);refine dN 4 ?_;exact dX.encL (l':=xQ l i (gQ l i) (gQ l i).length) sr (cGf hi hjo).symm
end
theorem qR {l:aC} (h:mK l=0):aGh l=true∧pK l=true∧joI l=0:=by
 unfold mK at h;split at h
 ·cases h
 split at h
 ·rename_i h1;exact absurd h h1
 rename_i h1;split at h
 ·cases h
 rename_i h2;split at h
 ·rename_i h3;exact absurd h h3
 rename_i h3;refine ⟨?_,?_,zY.1 h3⟩
 ·have h1:nmI l=0:=zY.1 h1;unfold nmI at h1;split at h1
  ·assumption
  cases h1
 cases hx:pK l with
 |true=>rfl
 |false=>exact absurd (.inl hx) h2
theorem aTb {l:aC} (hl:gO l) (h:mK l=0):Vld l∧(jR l.xAd).Nodup:=
 ⟨⟨hl,(qR h).2.1,fun e he=>bOg (aTn (qR h).2.2).1 he⟩,(aTn (qR h).2.2).2⟩
theorem cFs {l:aC} (h:mK l=0): ∀i,i<l.xAa.length→(l.xAa.getD i default).xAq.size≤1000:=by
 intro i hi;have h1:=(qR h).1;unfold aGh at h1;rw[dI] at h1;have h2:=h1 (aBb l) (by unfold d9;simp);rw[dI] at h2;have h3:=h2 (l.xAa.getD i default).xAq (dZ.2 ⟨_,kI hi,rfl⟩);unfold pE at h3;rw[cD,dR] at h3;omega
theorem bXy {l:aC} (hv:Vld l): ∀e,(bH l e).2=true→0≤(bH l e).1.fEl:=fun e he=>(aUg hv he).1.1
theorem bSz {l:aC}: ∀{n:Nat} {a:fH} {q p:List bJ},(∀s∈q,vD l s.fEl=true)→p∈goP l n a q→ ∀s∈p,vD l s.fEl=true
 |0,_,_,_,_,h=>by cases h
 |n+1,a,q,p,hq,h=>by
  unfold goP at h;split at h
  ·cases h
  obtain ⟨s,hs,hp⟩:=y1.1 h;have hs2: ∀x∈q++[s],vD l x.fEl=true:=fun x hx=>by
   rcases iV.1 hx with hx|hx
   ·exact hq x hx
   rw[lH.1 hx,(aKc hs).1];exact (aKc hs).2.2.2
  split at hp
  ·rw[lH.1 hp];exact hs2
  exact bSz hs2 hp
theorem aKl {q:List bJ} {i:Nat} (hi:i<q.length):z7 q i=q[i]:=by
 unfold z7;rw[cA,cH hi];rfl
theorem bBo {l:aC} {q:List bJ} (hex: ∀s∈q,vD l s.fEl=true) {s:bJ} (hs:s∈q):fD l s.fEl∈jK l q:=by
 obtain ⟨i,hi,rfl⟩:=aOl.1 hs;have:=(aOg (l:=l) (q:=q) (fun i hi=>by rw[aKl hi];exact hex _ (xY hi)) q.length (bW _) (fD l (q[i]).fEl)).2 ⟨i,hi,by show fD l (z7 q i).fEl=_;rw[aKl hi]⟩
 rwa [iL] at this
theorem bEo {l:aC} {ov:Int} {sc:List Int}: ∀(n:Nat) (o:List bJ) (a:fH×Bool),(∀s∈o,sc.contains (fD l s.fEl)=false)→ ∀s∈ovG l ov sc n o a,sc.contains (fD l s.fEl)=false
 |0,o,a,h=>h
 |n+1,o,a,h=>by
  unfold ovG;split
  ·rename_i hc;refine bEo n _ _ fun s hs=>?_;rcases iV.1 hs with hs|hs
   ·exact h s hs
   rw[lH.1 hs,aZn (kI (by have:=hc.2.2;omega))];have hb:=hc.2.1;unfold aTj at hb;rw[uL] at hb;exact hb.2
  exact h
theorem aUe (l:aC) (r:bL): ∀s∈uW l r,r.xAe.contains (fD l s.fEl)=false:=by
 unfold uW;split
 ·exact bEo _ _ _ dH
 simp
structure RtP (l:aC) (r:bL):Prop where
 nd:(r.xAf.map (·.fEl)).Nodup
 ex: ∀s∈r.xAf,vD l s.fEl=true
 len:r.xAf.length≤12
 sec:r.xAe=jK l r.xAf
 pt:r.xAk=rW l r.xAf
 ov:r.xAl=[]∧r.xAs=[]∧r.xAr=[]∧r.xAy=[]∧r.xBj=[]∧r.xBk=[]
theorem aZk (r:bL) (c:Nat):(rH r c).xAf=r.xAf∧(rH r c).xAe=r.xAe∧(rH r c).xAk=r.xAk∧((rH r c).xAl=r.xAl∧(rH r c).xAs=r.xAs∧(rH r c).xAr=r.xAr∧(rH r c).xAy=r.xAy∧(rH r c).xBj=r.xBj∧(rH r c).xBk=r.xBk):=by
 unfold rH;split<;>exact ⟨rfl,rfl,rfl,rfl,rfl,rfl,rfl,rfl,rfl⟩
theorem bWk {l:aC} {i:Int} {r:bL} (h:r∈gK gP l i):RtP l r:=by
 unfold gK at h;split at h
 ·cases h
 simp only at h;split at h
 ·cases h
 unfold xQ at h;obtain ⟨k,hk,rfl⟩:=dZ.1 h;have hk:=gU.1 hk;have hm:=aKj (l:=l) (n:=13) (a:=(bH l (l.xAa.getD i.toNat default).fAt).1) (q:=[]) (p:=(gP l (l.xAa.getD i.toNat default).fAt (bH l (l.xAa.getD i.toNat default).fAt).1).getD k []) dH List.Pairwise.nil (kI hk);have hx:=bSz (l:=l) (n:=13) (a:=(bH l (l.xAa.getD i.toNat default).fAt).1) (q:=[]) (p:=(gP l (l.xAa.getD i.toNat default).fAt (bH l (l.xAa.getD i.toNat default).fAt).1).getD k []) dH (kI hk);generalize gP l (l.xAa.getD i.toNat default).fAt (bH l (l.xAa.getD i.toNat default).fAt).1=P at*;obtain ⟨n1,n2,n3,n4,n5,n6,n7,n8,n9⟩:=aZk (aGk l i (P.getD k [])) (pJ (nB l i) (P.take (k+1)) (nB l i (P.getD k [])));exact ⟨by show ((rH _ _).xAf.map _).Nodup;rw[n1];exact hm.2.2.1,by show ∀s∈(rH _ _).xAf,_;rw[n1];exact hx,by show (rH _ _).xAf.length≤12;rw[n1];exact hm.2.1,by show (rH _ _).xAe=jK l (rH _ _).xAf;rw[n1,n2];rfl,by show (rH _ _).xAk=rW l (rH _ _).xAf;rw[n1,n3];rfl,n4,n5,n6,n7,n8,n9⟩
theorem aJy (l:aC) (q:List bJ):(rW l q).length≤q.length:=eL (aFo _) (zK l q)
theorem RtP.rtk {l:aC} {r:bL} (h:RtP l r):Rtk r:=by
 have h1:=h.len;have h2:=aUj l r.xAf;have h3:=aJy l r.xAf;obtain ⟨a1,a2,a3,a4,a5,a6⟩:=h.ov;exact ⟨by omega,by rw[h.pt];omega,by rw[h.sec];omega,by rw[a1];simp,by rw[a2];simp,by rw[a3];simp,by rw[a4];simp,by rw[a5];simp,by rw[a6];simp⟩
theorem RtP.rtkO {l:aC} {r:bL} (h:RtP l r):Rtk (ovF l r):=by
 have h0:=h.rtk;have h1:=aUa l r;have h2:=aUj l (uW l r);have h3:=aJy l (uW l r);exact ⟨h0.pa,h0.po,h0.se,(by show (uW l r).length≤100;omega),(by show (rW l (uW l r)).length≤100;omega),(by show (jK l (uW l r)).length≤100;omega),h0.fl,h0.gu,h0.ga⟩
theorem RtP.nodup {l:aC} {r:bL} (h:RtP l r):(((ovF l r).xAf++(ovF l r).xAl).map (·.fEl)).Nodup:=by
 show ((r.xAf++uW l r).map (·.fEl)).Nodup;rw[eM,nO];refine ⟨h.nd,bBs l r,fun x hx y hy e=>?_⟩;obtain ⟨s,hs,rfl⟩:=dZ.1 hx;obtain ⟨o,ho,rfl⟩:=dZ.1 hy;have h1:=bBo h.ex hs;have h2:=aUe l r o ho;rw[h.sec] at h2;have e:s.fEl=o.fEl:=e;rw[e] at h1;have h3:(jK l r.xAf).contains (fD l o.fEl)=true:=by simpa using h1
 rw[h3] at h2;cases h2
theorem bRq (l:aC) (i:Int):(gK gP l i).length≤10000:=by
 unfold gK;split
 ·simp
 simp only;split
 ·simp
 rw[aEc];have:=bTf l (l.xAa.getD i.toNat default).fAt (bH l (l.xAa.getD i.toNat default).fAt).1;omega
theorem bEk {l:aC} {r:bL} (h:r∈(iH l (gK gP l)).1):RtP l r:=by
 have:r∈qJ (gK gP l) l.xAa.length:=by
  unfold iH at h;split at h
  ·cases h
  split at h
  ·cases h
  exact h
 unfold qJ at this;obtain ⟨i,_,hi⟩:=y1.1 this;exact bWk hi
theorem aKn (l:aC):(iH l (gK gP l)).1.length≤48:=by
 unfold iH;split
 ·simp
 split
 ·simp
 show (qJ (gK gP l) l.xAa.length).length≤48;omega
theorem aAl {l:aC} (h:(iH l (gK gP l)).2=0):mK l=0:=by
 unfold iH at h;split at h
 ·exact h
 rename_i h1;exact zY.1 h1
def uZ (l:aC) (r:bL):bL:=aJv l (ovF l r)
def u5 (l:aC):dC:=if (iH l (gK gP l)).2=0 then ⟨(iH l (gK gP l)).1.map (uZ l),kB l,(kB l).map (fD l),(l.xAe.length:Nat),(l.xAa.length:Nat)⟩ else ⟨[],[],[],0,0⟩
theorem cRq {l:aC} (h: ¬(iH l (gK gP l)).2=0):u5 l=⟨[],[],[],0,0⟩:=by unfold u5;rw[if_neg h]
theorem aRk {l:aC} (h:(iH l (gK gP l)).2=0):u5 l=⟨(iH l (gK gP l)).1.map (uZ l),kB l,(kB l).map (fD l),(l.xAe.length:Nat),(l.xAa.length:Nat)⟩:=by unfold u5;rw[if_pos h]
theorem eK.takeL {α:Type} [Inhabited α] {z n:Nat} (e:α→List DV) {l:List α} (h:n≤l.length):eK (.sl z n fun i=>e (l.getD i default)) (encL z e (l.take n)):=by
 unfold encL;rw[iO,qP h];exact eK.sl z _ fun i hi=>by rw[cA,cA,List.getElem?_take_of_lt hi]
abbrev kU (b:eF):bJ:=b.xAc.getD (b.xAc.length-1) default
def aZa (l:aC) (b:eF):Int:=mI l (b.xAc.take (b.xAc.length-1))+b.xBc-b.xAn
abbrev eLg (l:aC) (s:bJ):Int:=(l.xAh.getD s.fEl.toNat default).xAn
def bXf (l:aC) (b:eF):Bool:=decide ((((x4 l b.xAc=false∨b.xAn<1)∨1000000<b.xAn)∨b.xBc<1)∨eLg l (kU b)<b.xBc)
def cJb (l:aC) (b:eF):Bool:=decide (aZa l b<0∨(1<b.xAc.length∧eLg l (b.xAc.getD 0 default)≤aZa l b))
def aVf (l:aC) (b:eF):Int:=if bXf l b=true then 1 else if cJb l b=true then 10 else 0
theorem cJs {l:aC} {q:List bJ} (h:x4 l q=true):0<q.length∧q.length≤64:=by
 unfold x4 at h;rw[cD,dR] at h;exact h.1
theorem bDb {l:aC} {q:List bJ} (hes:pK l=true) (h:x4 l q=true) {i:Nat} (hi:i<q.length):(0≤(q.getD i default).fEl∧(q.getD i default).fEl<(l.xAh.length:Int))∧500≤eLg l (q.getD i default)∧eLg l (q.getD i default)≤1000000:=by
 have h1:0≤(q.getD i default).fEl∧(q.getD i default).fEl<(l.xAh.length:Int):=mG.1 (cIr h hi);have h3:aFn l (l.xAh.getD (q.getD i default).fEl.toNat default)=true:=rY hes aV;unfold aFn at h3;simp only[dR] at h3;show _∧500≤(l.xAh.getD (q.getD i default).fEl.toNat default).xAn∧(l.xAh.getD (q.getD i default).fEl.toNat default).xAn≤1000000;exact ⟨h1,by omega,by omega⟩
theorem aPn (O:aN) (l:aC) (q:List bJ) (hl:gO l) (hq:q.length≤100):aZ Tryz.prog O 116 [.agg (aQ l),fJ q] (vb (x4 l q)):=by
 have hl1:=hl.sec;have hl2:=hl.el;have hl3:=hl.jo;have hl4:=hl.sg;have hl5:=hl.bl;refine bG 0 rfl (.agg (d:=sL l.xAh) (by simp[aQ]) (.sl _ _ _)) fun he=>?_;refine bG 1 rfl (.sl _ _ _) fun hql=>?_;refine eV Tryz.func116 ?_;refine aB [0,1] ?_;refine aA fun _ Z1=>aB [1,2] ?_;refine aO (fun c0=>?_) fun c0=>?_
 ·refine aB [] ?_;refine aL (dN 4 (xb ?_))
  ((symm;exact cNv aV))
 refine aD (Z1 _ (aA fun _ Z4=>bN [1,2] ?_));refine f9 (xX _ l) ?_;refine Z4 _ (aA fun _ Z5=>aB [1,2,5] ?_);refine aI (aX [1,2,5,24,25,26] (fun n ρ=> ∃i,n=q.length-i∧(i≤q.length)∧(nX (aHi l q) i)∧ρ=dU O [(1,fJ q),(2,.bx (aQ l)),(5,.fn 198 [] [.dp (aQ l)]),(24,fJ q),(25,vi (q.length:Nat)),(26,vi (i:Nat))]) _ ⟨0,rfl,?_,?_,?_⟩ ?_)
 ·exact bD
 ·exact lP _
 ·exact dT
 rintro n ρ ⟨i,rfl,l0_0,l0_1,rfl⟩ _ Z7;have hsx:((i:Int)-1).toNat=i-1:=by omega
 refine bB [1,2,5,24,25,26] ?_;refine aA fun _ Z9=>aO (fun c1=>?_) fun c1=>?_
 ·refine aD (Z9 _ (aA fun _ Z10=>aI (bB [1,2,5,24,25,26] ?_)));refine aA fun _ Z12=>aA fun _ Z13=>eZ [1,2,5,6,7,24,25,26] ?_;refine pV (vX _ l (q.getD i default) hl) ?_;refine Z13 _ (bB [1,2,5,6,7,9,24,25,26] ?_);refine aO (fun c2=>?_) fun c2=>?_
  ·refine bB [] ?_;refine aL (mA 4 ?_);refine xbh ?_
   ((symm;exact bSk c1 (cJj (by simpa using c2))))
  refine aD (Z12 _ (aA fun _ Z16=>bB [1,2,5,6,7,24,25,26] ?_));refine aI (aX [1,2,5,24,25,26,6,7,41,42,43] (fun n ρ=> ∃k,n=i-k∧(k≤i)∧(nX (neN q i) k)∧ρ=dU O [(1,fJ q),(2,.bx (aQ l)),(5,.fn 198 [] [.dp (aQ l)]),(24,fJ q),(25,vi (q.length:Nat)),(26,vi (i:Nat)),(6,vi (i:Nat)),(7,.bx (cV (q.getD i default))),(41,.sl 3 i fun k=>cV (q.getD k default)),(42,vi (i:Nat)),(43,vi (k:Nat))]) _ ⟨0,rfl,?_,?_,?_⟩ ?_)
  ·exact bD
  ·exact lP _
  ·exact eX
  rintro n ρ ⟨k,rfl,l1_0,l1_1,rfl⟩ _ Z18;refine bB [1,2,5,6,7,24,25,26,39,40,41,42,43] ?_;refine aA fun _ Z20=>aO (fun c3=>?_) fun c3=>?_
  ·refine aD (Z20 _ (aA fun _ Z21=>aI (bB [1,2,5,6,7,24,25,26,39,40,41,42,43] ?_)));refine bB [1,2,5,6,7,11,24,25,26,39,40,41,42,43] ?_;refine aO (fun c4=>?_) fun c4=>?_
   ·refine bB [] ?_;refine aL (mA 4 ?_);refine xbh ?_
    ((symm;exact bSk c1 (by unfold aHi;rw[rR (f:=neN q i) (i:=k) aV (by unfold neN;exact e9 (by simpa using c4)),aBt])))
   refine aD (Z21 _ (cN [1,2,5,6,7,24,25,26,39,40,41,42,43] ?_));refine Z18 _ _ bD ⟨k+1,rfl,bD,?_,?_⟩
   ·exact kE l1_1 (by unfold neN;exact dF (by simpa using c4))
   exact eX
  refine bA (Z16 _ (aA fun _ Z25=>bB [1,2,5,6,7,24,25,26] ?_));refine aO (fun c5=>?_) fun c5=>?_
  ·refine bA (Z10 _ (cN [1,2,5,24,25,26] ?_));refine Z7 _ _ bD ⟨i+1,rfl,bD,?_,?_⟩
   ·exact kE l0_1 (by unfold aHi;rw[bMb (by simpa using c2) (fun h=>by omega),t6 l1_1 aV];rfl)
   exact eX
  refine aD (Z25 _ (aA fun _ Z27=>eZ [1,2,5,6,7,24,25,26] ?_));refine pV (uB _ l (q.getD (i-1) default)) ?_;refine Z27 _ (bB [1,2,5,7,12,13,24,25,26] ?_);refine aO (fun c6=>?_) fun c6=>?_
  ·refine bB [] ?_;refine aL (mA 4 ?_);refine xbh ?_
   ((symm;exact bSk c1 (cFv aV (by simpa using c6))))
  refine aD (Z10 _ (cN [1,2,5,24,25,26] ?_));refine Z7 _ _ bD ⟨i+1,rfl,bD,?_,?_⟩
  ·exact kE l0_1 (by unfold aHi;rw[bMb (by simpa using c2) (fun _=>by simpa using c6),t6 l1_1 aV];rfl)
  exact eX
 refine bA (Z5 _ (bB [] ?_));refine aL (mA 4 ?_);refine xbh ?_
 ((symm;exact cRo aV l0_0 aV l0_1))
theorem aUr (O:aN) (b:eF) (h0:0<b.xAc.length) (hq:b.xAc.length≤100):aZ Tryz.prog O 117 [.agg (jL b)] (.agg (cV (kU b))):=by
 have hsx:((b.xAc.length:Int)-1).toNat=b.xAc.length-1:=by omega
 refine eV Tryz.func117 ?_;refine bB [0] ?_;refine bB [1,2] ?_;refine aL ?_;refine nM 2 87 rfl xU (by ((try simp only[go_sem,seval,hsx]);try simp (disch:=omega) only[go_sem,seval,hsx])<;>(rfl)) xU xU
theorem aJs (O:aN) (l:aC) (b:eF) (hl:gO l) (hes:pK l=true) (hq:b.xAc.length≤100) (h0:0<b.xAc.length) (hb:1≤b.xBc∧b.xBc≤1000000) (hg:1≤b.xAn∧b.xAn≤1000000):aZ Tryz.prog O 118 [.agg (aQ l),.agg (jL b)] (vi (aZa l b)):=by
 have hsx:((b.xAc.length:Int)-1).toNat=b.xAc.length-1:=by omega
 have hlb:=aFy hes b.xAc (b.xAc.length-1);refine eV Tryz.func118 ?_;refine bB [0,1] ?_;refine aA fun _ Z1=>jF [2,3] [] ?_;refine bKi (jB [.agg (aQ l),fJ (b.xAc.take (b.xAc.length-1))] (.cons (eK.refl _) (.cons (eK.takeL cV aV) .nil)) (pR _ l (b.xAc.take (b.xAc.length-1)) hl hes (by rw[iO];omega))) ?_;refine Z1 _ (bB [3,5] ?_);refine aL (mA 4 ?_);exact dX.is (by ((try simp only[go_sem,seval,hsx]);try simp (disch:=omega) only[go_sem,seval,hsx])<;>(rfl)) rfl rfl
theorem aBr (O:aN) (l:aC) (b:eF) (hl:gO l) (hes:pK l=true) (hq:b.xAc.length≤100):aZ Tryz.prog O 66 [.agg (aQ l),.agg (jL b)] (vi (aVf l b)):=by
 have hE:x4 l b.xAc=true→ ∀i,i<b.xAc.length→(0≤(b.xAc.getD i default).fEl∧(b.xAc.getD i default).fEl<(l.xAh.length:Int))∧500≤eLg l (b.xAc.getD i default)∧eLg l (b.xAc.getD i default)≤1000000:=fun h i hi=>bDb hes h hi;have hN:x4 l b.xAc=true→0<b.xAc.length:=fun h=>(cJs h).1;refine eV Tryz.func66 ?_;refine aB [0,1] ?_;refine aA fun _ Z1=>aA fun _ Z2=>gJ [2,3] [] ?_;refine cdz (aPn _ l b.xAc hl hq) ?_;refine rO (fun g0=>aUr _ b (hN (by simp at g0;exact g0.1.1.1)) hq) ?_;refine Z2 _ (aO (fun c0=>?_) fun c0=>?_)
 ·refine aB [] ?_;refine aL (dN 4 ?_);exact dX.is (by ((try simp only[go_sem,seval]);try simp (disch:=omega) only[go_sem,seval])<;>(rw[aVf,if_pos (by unfold bXf;exact dF c0)])) rfl rfl
 refine aD (Z1 _ (aA fun _ Z4=>?_));obtain ⟨⟨⟨⟨hv,hb3⟩,hb4⟩,hb5⟩,hb6⟩:=id c0;have hz:500≤(l.xAh.getD (kU b).fEl.toNat default).xAn∧(l.xAh.getD (kU b).fEl.toNat default).xAn≤1000000:=(hE hv (b.xAc.length-1) (by have:=hN hv;omega)).2;have hp0:bXf l b=false:=e9 (by simp only[not_or];exact ⟨⟨⟨⟨by rw[hv];simp,by omega⟩,by omega⟩,by omega⟩,by show ¬(l.xAh.getD (kU b).fEl.toNat default).xAn<b.xBc;omega⟩);refine bN [2,3] ?_;refine f9 (aJs _ l b hl hes hq (hN hv) aV aV) ?_;refine Z4 _ (aA fun _ Z5=>aA fun _ Z6=>gJ [2,3,5] [] ?_);refine Z6 _ (aO (fun c1=>?_) fun c1=>?_)
 ·refine aB [] ?_;refine aL (dN 4 ?_);exact dX.is (by ((try simp only[go_sem,seval]);try simp (disch:=omega) only[go_sem,seval])<;>(rw[aVf,hp0,if_neg dH,if_pos (by unfold cJb;exact dF c1)])) rfl rfl
 refine aD (Z5 _ (aB [] ?_));refine aL (dN 4 ?_);exact dX.is (by ((try simp only[go_sem,seval]);try simp (disch:=omega) only[go_sem,seval])<;>(rw[aVf,hp0,if_neg dH,if_neg (by unfold cJb;rw[dR];show ¬(aZa l b<0∨(1<b.xAc.length∧(l.xAh.getD (b.xAc.getD 0 default).fEl.toNat default).xAn≤aZa l b));omega)])) rfl rfl
def bJk (l:aC) (t:cT) (b:eF):Bool:=decide ((((mK l≠0∨bCt t≠0)∨aVf l b≠0)∨b.xAn≠t.xAn)∨b.xAc.length=0)
def sR (l:aC) (t:cT) (b:eF):Int:=if bJk l t b=true then 1 else if lX l ⟨(kU b).fEl,(kU b).xAv⟩<0 then 9 else 0
def aCp (l:aC) (t:cT) (b:eF):aNy:=⟨t.fId,-(mI l (b.xAc.take (b.xAc.length-1)))-b.xBc,lX l ⟨(kU b).fEl,(kU b).xAv⟩,mI l [kU b]-b.xBc,b.xAc,[],[],[],[],0,0,0,0,0⟩
theorem bDf {l:aC} {b:eF} (hes:pK l=true) (h:aVf l b=0):x4 l b.xAc=true∧1≤b.xAn∧b.xAn≤1000000∧1≤b.xBc∧b.xBc≤(l.xAh.getD (b.xAc.getD (b.xAc.length-1) default).fEl.toNat default).xAn:=by
 unfold aVf at h;split at h
 ·cases h
 rename_i hp;unfold bXf at hp;simp only[dR,not_or] at hp;obtain ⟨⟨⟨⟨h1,h2⟩,h3⟩,h4⟩,h5⟩:=hp;have h5: ¬(l.xAh.getD (b.xAc.getD (b.xAc.length-1) default).fEl.toNat default).xAn<b.xBc:=h5;exact ⟨by simpa using h1,by omega,by omega,by omega,by omega⟩
theorem aGj (O:aN) (l:aC) (s:bJ) (hl:gO l) (hes:pK l=true):aZ Tryz.prog O 128 [.agg (aQ l),.agg (cV s)] (vi (mI l [s])):=by
 refine eV Tryz.func128 ?_;refine aB [0,1] ?_;refine aA fun _ Z1=>bN [2,3] ?_;refine f9 (jB [.agg (aQ l),fJ [s]] (.cons (eK.refl _) (.cons (eK.litL [s] rfl rfl) .nil)) (pR _ l [s] hl hes dH)) ?_;refine Z1 _ (aL (dN 4 ?_));exact dX.is (by ((try simp only[go_sem,seval]);try simp (disch:=omega) only[go_sem,seval])<;>(exact bD)) rfl rfl
abbrev tkZ:List DV:=[vi 0,vi 0,vi 0,vi 0,.v (.slice none 0 0),.v (.slice none 0 0),.v (.slice none 0 0),.v (.slice none 0 0),.v (.slice none 0 0),vi 0,vi 0,vi 0,vi 0,vi 0]
def tV (l:aC) (t:cT) (b:eF):List DV:=if sR l t b=0 then pX (aCp l t b) else tkZ
set_option maxRecDepth 20000 in
theorem aJb (O:aN) (l:aC) (t:cT) (b:eF) (hl:gO l) (hck:mK l=0) (hq:b.xAc.length≤100):aZ Tryz.prog O 75 [.agg (aQ l),.agg (gX t),.agg (jL b)] (.tup [.agg (tV l t b),vi (sR l t b)]):=by
 have hes:=(qR hck).2.1;have hsx:((b.xAc.length:Int)-1).toNat=b.xAc.length-1:=by omega
 refine eV Tryz.func75 ?_;refine bB [0,1,2] ?_;refine aA fun _ Z1=>aA fun _ Z2=>eZ [3,4,5,6] ?_;refine pV (oW _ l hl) ?_;refine bLa (fun g0=>zT _ t) ?_;refine bLa (fun g1=>aBr _ l b hl hes hq) ?_;refine Z2 _ (aO (fun c0=>?_) fun c0=>?_)
 ·have hp:bJk l t b=true:=(by unfold bJk;exact dF c0);have he:sR l t b=1:=(by unfold sR;rw[if_pos hp]);have hb:tV l t b=tkZ:=(by unfold tV;rw[he];rfl);refine bB [6] ?_;rw[hb,he];refine aL (cHk (.cons ?_ (.cons ?_ .nil)))
  ·exact roC srh svh bF (by first|rfl|(((try simp only[go_sem,seval,hsx]);try simp (disch:=omega) only[go_sem,seval,hsx])))
  exact vU svh rfl rfl
 obtain ⟨⟨⟨⟨hd1,hd2⟩,hd3⟩,hd4⟩,hd5⟩:=id c0;have hp:bJk l t b=false:=(by unfold bJk;exact e9 (by simp only[not_or];exact ⟨⟨⟨⟨by omega,by omega⟩,by omega⟩,by omega⟩,by omega⟩));obtain ⟨hv,hv2,hv3,hv4,hv5⟩:=bDf hes hd3;have hvb:=(bDb hes hv (i:=b.xAc.length-1) aV).2.2;have hlb:=aFy hes b.xAc (b.xAc.length-1);have hl1:0≤mI l [kU b]∧mI l [kU b]≤1000000*((1:Nat):Int):=aFy hes [kU b] 1;have hvb:(l.xAh.getD (b.xAc.getD (b.xAc.length-1) default).fEl.toNat default).xAn≤1000000:=hvb;refine aD (Z1 _ (bB [3,4,5,6] ?_));refine bB [3,4,5,6,8] ?_;refine aA fun _ Z6=>eZ [3,4,5,6,8,9] ?_;refine pV (lS _ l ⟨(kU b).fEl,(kU b).xAv⟩) ?_;refine Z6 _ (aA fun _ Z7=>bB [3,4,5,6,8,9,10] ?_);refine aO (fun c1=>?_) fun c1=>?_
 ·have he:sR l t b=9:=(by unfold sR;rw[hp,if_neg dH,if_pos c1]);have hb:tV l t b=tkZ:=(by unfold tV;rw[he];rfl);refine bB [6] ?_;rw[hb,he];refine aL (cHk (.cons ?_ (.cons ?_ .nil)))
  ·exact roC srh svh bF (by first|rfl|(((try simp only[go_sem,seval,hsx]);try simp (disch:=omega) only[go_sem,seval,hsx])))
  exact vU svh rfl rfl
 have he:sR l t b=0:=(by unfold sR;rw[hp,if_neg dH,if_neg aV]);have hb:tV l t b=pX (aCp l t b):=(by unfold tV;rw[he];rfl);refine aD (Z7 _ (aA fun _ Z10=>bBx 25 [3,4,5,6,8,9,10] [3,4,5,8,9,10,58,59,60,61,62,63,64,65,66,67,68,69,70,71,72,73,74,75,76,77,78,79,80,7,6] [] [] [[],[0],[],[],[3],[],[3,4,5],[2,3,4,5,6],[2,3,4,5,6,7],[],[9],[2,3,4,5,6,7,8,9,10],[],[],[],[2,3,4,5,6,7,13,14],[],[16],[2,3,4,5,6,7,13,14,15,16,17],[],[19],[2,3,4,5,6,7,13,14,15,19,20],[0,1,2,3,4,5,6,7,8,9,10,11,12,13,14,15,16,17,18,19,20,21],[0,1,2,3,4,5,6,7,8,9,10,11,12,13,14,15,16,17,18,19,20,21,22],[0,1,2,3,4,5,6,7,8,9,10,11,12,13,14,15,16,17,18,19,20,21,22,23]] [[23],[23],[23],[23],[23],[23],[23],[23],[23],[23],[23],[23],[23],[23],[23],[23],[23],[23],[23],[23],[23],[23],[23],[],[]] (fun bQ=>dU O [(3,.bx (aQ l)),(4,.bx (gX t)),(5,.bx (jL b)),(8,vi ((b.xAc.length:Int)-1)),(9,.bx (cV (kU b))),(10,vi (lX l ⟨(kU b).fEl,(kU b).xAv⟩)),(58,bC (bQ 0) (.bp 4 0)),(59,bC (bQ 1) (vi t.fId)),(60,bC (bQ 2) (.agg (aQ l))),(61,bC (bQ 3) (.bp 5 0)),(62,bC (bQ 4) (fJ b.xAc)),(63,bC (bQ 5) (vi ((b.xAc.length:Int)-1))),(64,bC (bQ 6) (.sl 3 (b.xAc.length-1) fun k=>cV (b.xAc.getD k default))),(65,bC (bQ 7) (vi (mI l (b.xAc.take (b.xAc.length-1))))),(66,bC (bQ 8) (vi (-(mI l (b.xAc.take (b.xAc.length-1)))))),(67,bC (bQ 9) (.bp 5 1)),(68,bC (bQ 10) (vi b.xBc)),(69,bC (bQ 11) (vi (-(mI l (b.xAc.take (b.xAc.length-1)))-b.xBc))),(70,bC (bQ 12) (vi (lX l ⟨(kU b).fEl,(kU b).xAv⟩))),(71,bC (bQ 13) (.agg (aQ l))),(72,bC (bQ 14) (.agg (cV (kU b)))),(73,bC (bQ 15) (vi (mI l [kU b]))),(74,bC (bQ 16) (.bp 5 1)),(75,bC (bQ 17) (vi b.xBc)),(76,bC (bQ 18) (vi (mI l [kU b]-b.xBc))),(77,bC (bQ 19) (.bp 5 0)),(78,bC (bQ 20) (fJ b.xAc)),(79,bC (bQ 21) (fJ b.xAc)),(80,bC (bQ 22) (.agg [vi t.fId,vi (-(mI l (b.xAc.take (b.xAc.length-1)))-b.xBc),vi (lX l ⟨(kU b).fEl,(kU b).xAv⟩),vi (mI l [kU b]-b.xBc),fJ b.xAc,.v (.slice none 0 0),.v (.slice none 0 0),.v (.slice none 0 0),.v (.slice none 0 0),vi 0,vi 0,vi 0,vi 0,vi 0])),(7,bC (bQ 24) (vi 0)),(6,rP (bQ 23) true (.bx [vi t.fId,vi (-(mI l (b.xAc.take (b.xAc.length-1)))-b.xBc),vi (lX l ⟨(kU b).fEl,(kU b).xAv⟩),vi (mI l [kU b]-b.xBc),fJ b.xAc,.v (.slice none 0 0),.v (.slice none 0 0),.v (.slice none 0 0),.v (.slice none 0 0),vi 0,vi 0,vi 0,vi 0,vi 0]) (.bx [vi 0,vi 0,vi 0,vi 0,.v (.slice none 0 0),.v (.slice none 0 0),.v (.slice none 0 0),.v (.slice none 0 0),.v (.slice none 0 0),vi 0,vi 0,vi 0,vi 0,vi 0]))]) (fun iQ hiQ oQ hoQ bQ hbQ KQ hKQ=>?_) ?_))
 ·match iQ,hiQ with
  |0,_|1,_|2,_|3,_|4,_|5,_|6,_|8,_|9,_|10,_|11,_|12,_|13,_|14,_|16,_|17,_|18,_|19,_|20,_|22,_|23,_|24,_=>
   exact o0 hoQ hbQ hKQ
  |7,_=>
   exact aWa hoQ hbQ hKQ (jB [.agg (aQ l),fJ (b.xAc.take (b.xAc.length-1))] (jS (.cons (eK.takeL cV aV) .nil)) (pR _ l (b.xAc.take (b.xAc.length-1)) hl hes (by rw[iO];omega)))
  |15,_=>
   exact aWa hoQ hbQ hKQ (aGj _ l (kU b) hl hes)
  |21,_=>
   exact aWa hoQ hbQ hKQ (dA (jQ _ b.xAc aV))
 refine gE ?_;refine Z10 _ ?_;rw[hb,he];refine pN 6 (ds:=pX (aCp l t b)) rfl (by ((try simp only[go_sem,seval,hsx]);try simp (disch:=omega) only[go_sem,seval,hsx]);rfl) (jS (jS (jS (jS (jS (gA (gA (gA (gA (jS (jS (jS (jS (jS .nil)))))))))))))) ?_;refine aL (cHk (.cons ?_ (.cons ?_ .nil)))
 ·exact roC srh svh bF (by first|rfl|(((try simp only[go_sem,seval,hsx]);try simp (disch:=omega) only[go_sem,seval,hsx])))
 exact vU svh rfl rfl
theorem bMt (l:aC) (q:List bJ):(jK l q).length≤q.length:=by have:=zJ l q q.length;rwa [iL] at this
abbrev lA (l:List cT):DV:=encL 10 gX l
abbrev jZ (l:List eF):DV:=encL 3 jL l
abbrev cDm (l:List aNy):DV:=encL 14 pX l
abbrev cSi (l:List rC):DV:=encL 4 lT l
def idN (ts:List cT) (k:Nat):Int:=(ts.getD k default).fId
def bBb (ts:List cT) (k:Nat):Bool:=decide (k=0∨idN ts (k-1)<idN ts k)
def wM (l:aC) (ts:List cT) (bs:List eF):Nat→Nat→Int
 |0,_=>0
 |k+1,i=>if sR l (ts.getD i default) (bs.getD i default)≠0 then sR l (ts.getD i default) (bs.getD i default) else wM l ts bs k (i+1)
def iA (l:aC) (b:eF):List Int:=srt (jK l b.xAc)
def o6 (l:aC) (bs:List eF):List Int:=bs.flatMap (iA l)
def aPi (ts:List cT) (bs:List eF):Bool:=decide ((ts.length=0∨6<ts.length)∨bs.length≠ts.length)
def qY (l:aC) (ts:List cT) (bs:List eF):Int:=
 if aPi ts bs=true then 1 else if (List.range ts.length).all (bBb ts)=false then 7 else if wM l ts bs ts.length 0≠0 then wM l ts bs ts.length 0 else if (o6 l bs).Nodup then 0 else 10
def t8 (l:aC) (ts:List cT) (bs:List eF) (n:Nat):List aNy:=(List.range n).map fun i=>aCp l (ts.getD i default) (bs.getD i default)
def sM (ts:List cT) (n:Nat):List rC:=(List.range n).map fun i=>bIh (idN ts i)
def y4 (l:aC) (ts:List cT) (bs:List eF):aUs:=⟨t8 l ts bs ts.length,sM ts ts.length⟩
theorem cIx (l:aC) (ts:List cT) (bs:List eF) (n:Nat):t8 l ts bs (n+1)=t8 l ts bs n++[aCp l (ts.getD n default) (bs.getD n default)]:=by unfold t8;rw[xS,eM];rfl
theorem cGn (ts:List cT) (n:Nat):sM ts (n+1)=sM ts n++[bIh (idN ts n)]:=by unfold sM;rw[xS,eM];rfl
theorem aZt (l:aC) (ts:List cT) (bs:List eF) (n:Nat):(t8 l ts bs n).length=n:=by simp[t8]
theorem bMg (ts:List cT) (n:Nat):(sM ts n).length=n:=by simp[sM]
theorem bRb {l:aC} {ts:List cT} {bs:List eF} {n i:Nat} (h:i<n):wM l ts bs (n-i) i=if sR l (ts.getD i default) (bs.getD i default)≠0 then sR l (ts.getD i default) (bs.getD i default) else wM l ts bs (n-(i+1)) (i+1):=by
 rw[show n-i=(n-(i+1))+1 by omega,wM]
theorem cTq {l:aC} {ts:List cT} {bs:List eF} (h:aPi ts bs=true):qY l ts bs=1:=by rw[qY,if_pos h]
theorem cOj {l:aC} {ts:List cT} {bs:List eF} (h:aPi ts bs=false) (h2:(List.range ts.length).all (bBb ts)=false):qY l ts bs=7:=by rw[qY,if_neg (by rw[h];simp),if_pos h2]
theorem cUq {l:aC} {ts:List cT} {bs:List eF} (h:aPi ts bs=false) (h2:(List.range ts.length).all (bBb ts)=true) (h3:wM l ts bs ts.length 0≠0):qY l ts bs=wM l ts bs ts.length 0:=by rw[qY,if_neg (by rw[h];simp),if_neg (by rw[h2];simp),if_pos h3]
theorem cNd {l:aC} {ts:List cT} {bs:List eF} (h:aPi ts bs=false) (h2:(List.range ts.length).all (bBb ts)=true) (h3:wM l ts bs ts.length 0=0) (h4: ¬(o6 l bs).Nodup):qY l ts bs=10:=by rw[qY,if_neg (by rw[h];simp),if_neg (by rw[h2];simp),if_neg aV,if_neg h4]
theorem cRu {l:aC} {ts:List cT} {bs:List eF} (h:aPi ts bs=false) (h2:(List.range ts.length).all (bBb ts)=true) (h3:wM l ts bs ts.length 0=0) (h4:(o6 l bs).Nodup):qY l ts bs=0:=by rw[qY,if_neg (by rw[h];simp),if_neg (by rw[h2];simp),if_neg aV,if_pos h4]
theorem bNf {l:aC} {bs:List eF} {i:Nat} (h:i<bs.length):o6 l (bs.take (i+1))=o6 l (bs.take i)++iA l (bs.getD i default):=by
 rw[kX default h];unfold o6;rw[aBl];simp
theorem bEl {l:aC} {bs:List eF} {i j:Nat} (h:i<bs.length):(o6 l (bs.take i)++(iA l (bs.getD i default)).take j).Sublist (o6 l bs):=by
 refine List.Sublist.trans (List.Sublist.append_left (List.take_sublist j _) _) ?_;rw[← bNf h];have h2:o6 l bs=o6 l (bs.take (i+1))++o6 l (bs.drop (i+1)):=by
  unfold o6;rw[← aBl,u6]
 rw[h2];exact List.sublist_append_left _ _
theorem aRq (l:aC) (b:eF):(iA l b).length≤b.xAc.length:=by
 unfold iA;have:=bMt l b.xAc;unfold srt;rw[List.length_mergeSort];exact this
theorem cAr {l:aC} {bs:List eF} {i j:Nat} (h:i<bs.length) (hj:j<(iA l (bs.getD i default)).length) (hm:(iA l (bs.getD i default)).getD j default∈o6 l (bs.take i)++(iA l (bs.getD i default)).take j): ¬(o6 l bs).Nodup:=fun hn=>by
 have h1:=hn.sublist (bEl (l:=l) (j:=j+1) h);rw[kX default hj,← tB,nO] at h1;exact h1.2.2 _ hm _ (lH.2 rfl) rfl
theorem cBm {l:aC} {bs:List eF} {i j:Nat} (hj:j<(iA l (bs.getD i default)).length) (h:(o6 l (bs.take i)++(iA l (bs.getD i default)).take j).Nodup) (hm:(iA l (bs.getD i default)).getD j default∉o6 l (bs.take i)++(iA l (bs.getD i default)).take j):(o6 l (bs.take i)++(iA l (bs.getD i default)).take (j+1)).Nodup:=by
 rw[kX default hj,← tB,nO];refine ⟨h,by simp,fun a ha b hb e=>hm ?_⟩;rw[lH] at hb;rw[← hb,← e];exact ha
abbrev bAm (h:Hd) (B:List aNy):Rg:=.row h 67 14 (B.map pX)
abbrev bBc (h:Hd) (B:List rC):Rg:=.row h 79 4 (B.map lT)
theorem aXf (l:aC) (t:cT) (b:eF):(tV l t b).length=14:=by unfold tV;split<;>rfl
theorem bIr (l:aC) (t:cT) (b:eF):(tV l t b).take 14=tV l t b:=jD (by rw[aXf];exact bW _)
theorem bQq (l:aC) (t:cT) (b:eF):kT (fun x=>x+100000) (tV l t b)=tV l t b:=by unfold tV;split<;>rfl
theorem bOz (l:aC) (t:cT) (b:eF) (p:Nat→Bool):d6 p (tV l t b)=true:=by unfold tV;split<;>rfl
def cnX (a b:DV):List DV:=[a,b]
section
variable (a b d:DV)
theorem cAt:(cnX a b).length=2:=rfl
theorem bSs:(cnX a b).take 2=cnX a b:=rfl
theorem cHj:(cnX a b).getD 0 .any=a:=rfl
theorem cLh:(cnX a b).getD 1 .any=b:=rfl
theorem bTo:(cnX a b).set 0 d=cnX d b:=rfl
theorem bTv:(cnX a b).set 1 d=cnX a d:=rfl
theorem cCt (ha:yF (fun x=>x+100000) a=a) (hb:yF (fun x=>x+100000) b=b):kT (fun x=>x+100000) (cnX a b)=cnX a b:=by unfold cnX;simp only[kT,ha,hb]
theorem cKe (l:aC) (ts:List cT) (bs:List eF):cnX (cDm (t8 l ts bs ts.length)) (cSi (sM ts ts.length))=rB (y4 l ts bs):=rfl
theorem bYp (p:Nat→Bool):d6 p (cnX a b)=(fL p a&&fL p b):=by unfold cnX;simp[d6]
end
set_option maxRecDepth 20000 in
theorem aIy (O:aN) (l:aC) (q:List bJ) (hl:gO l) (hes:pK l=true) (hq:q.length≤100):aZ Tryz.prog O 72 [.agg (aQ l),fJ q] (aUu (jK l q)):=by
 have hl1:=hl.sec;have hl2:=hl.el;have hl3:=hl.jo;have hl4:=hl.sg;have hl5:=hl.bl;obtain ⟨i4,hi4,hz4⟩:=bHf;refine bG 0 rfl (.agg (d:=sL l.xAh) (by simp[aQ]) (.sl _ _ _)) fun he=>?_;refine bG 1 rfl (.sl _ _ _) fun hql=>?_;refine eV Tryz.func72 ?_;refine aB [0,1] ?_;refine aB [1,2] ?_;refine aB [1,2,5] ?_;refine aA fun _ Z3=>aB [1,2,5,6] ?_;refine aI (l4 5 3 1 eI rfl rfl ?_);refine aX [2,5,6,11,12,13] (fun n ρ=> ∃i,n=q.length-i∧(i≤q.length)∧ρ=dU O [(2,.bx (aQ l)),(5,aUu (jK l (q.take i))),(6,.mo (esT oG pA (mtS (jK l (q.take i))))),(11,fJ q),(12,vi (q.length:Nat)),(13,vi (i:Nat))]) _ ⟨0,rfl,?_,?_⟩ ?_
 ·exact bD
 ·exact dT
 rintro n ρ ⟨i,rfl,l0_0,rfl⟩ _ Z5;have hsl:=zJ l q i;refine aB [1,2,5,6,11,12,13] ?_;refine aA fun _ Z7=>aO (fun c0=>?_) fun c0=>?_
 ·refine aD (Z7 _ (aA fun _ Z8=>aI (aB [1,2,5,6,11,12,13] ?_)));refine aA fun _ Z10=>aA fun _ Z11=>bN [1,2,5,6,8,11,12,13] ?_;refine f9 (lN _ l (q.getD i default).fEl) ?_;refine Z11 _ (aO (fun c1=>?_) fun c1=>?_)
  ·refine bA (Z8 _ (bE [1,2,5,6,11,12,13] ?_));refine Z5 _ _ bD ⟨i+1,rfl,bD,?_⟩;((try simp only[go_sem,seval]);try simp (disch:=omega) only[go_sem,seval])<;>(rw[bNj l c0 (by simpa using c1)];rfl)
  have hex:=mG.1 (by simpa using c1);have hex2:vD l (q.getD i default).fEl=true:=(by simpa using c1);refine aD (Z10 _ (aB [1,2,5,6,8,11,12,13] ?_));refine aA fun _ Z13=>cM (Le.keepC [1,2,5,6,9,11,12,13] _) ?_;refine fU ?_;refine ez ?_;refine ez ?_;show OW _ _ _ _ _ _;refine pZ oG pA (s:=6) (M:=mtS (jK l (q.take i))) (a:=(lI l (q.getD i default).fEl.toNat).xBb) (zb:=false) (ok:=false) rfl rfl bF bF sr sr sr trivial rfl bF hi4 hz4 (jN _) (fun p _=>jN p.1) (by rw[tM];exact xA l q i) ?_
  try ((try simp only[go_sem,seval]);try simp (disch:=omega) only[go_sem,seval])
  refine ez ?_;refine Z13 _ (aO (fun c2=>?_) fun c2=>?_)
  ·have hn:(lI l (q.getD i default).fEl.toNat).xBb∉(jK l (q.take i)):=aLh (by rw[← aAd];simpa using c2);refine aA fun _ Z14=>cM (Le.keepC [1,2,5,6,9,11,12,13] _) ?_;refine fU ?_;refine ez ?_;refine ez ?_;show OW _ _ _ _ _ _;refine wK oG pA (kt:=3) (e:=4) (s:=6) (M:=mtS (jK l (q.take i))) (a:=(lI l (q.getD i default).fEl.toNat).xBb) (b:=true) (.inl rfl) rfl rfl bF sr sr sr trivial rfl sr trivial rfl bF (jN _) (fun p _=>jN p.1) (by rw[tM];exact xA l q i) ?_;refine lL ?_;refine Z14 _ (bE [1,2,5,6,9,11,12,13] ?_);refine Z8 _ (bE [1,2,5,6,11,12,13] ?_);refine Z5 _ _ bD ⟨i+1,rfl,bD,?_⟩;((try simp only[go_sem,seval]);try simp (disch:=omega) only[go_sem,seval])<;>(rw[bNm l c0 hex2 hn,aVb hn,eM];rfl)
  have hn:(lI l (q.getD i default).fEl.toNat).xBb∈(jK l (q.take i)):=dK (by rw[← aAd];simpa using c2);refine aD (Z8 _ (bE [1,2,5,6,11,12,13] ?_));refine Z5 _ _ bD ⟨i+1,rfl,bD,?_⟩;((try simp only[go_sem,seval]);try simp (disch:=omega) only[go_sem,seval])<;>(rw[bMd l c0 hn];rfl)
 refine bA (Z3 _ (aB [5] ?_));refine aL (dN 4 ?_);exact dX.ownL rfl aV rfl rfl (by (rw[jD c0]))
theorem vI (O:aN) (l:aC) (b:eF) (hl:gO l) (hes:pK l=true) (hq:b.xAc.length≤100):aZ Tryz.prog O 33 [.agg (aQ l),.agg (jL b)] (d5 (iA l b)):=by
 have hsl:=bMt l b.xAc;refine eV Tryz.func33 ?_;refine aB [0,1] ?_;refine aA fun _ Z1=>bN [2,3] ?_;refine f9 (aIy _ l b.xAc hl hes hq) ?_;refine Z1 _ (aA fun _ Z2=>bN [5] ?_);refine ⟨_,aCd (s:=5) rfl Tryz.slices_Sort_int_none (fun blk off cap zs w h1 h2 h3=>Tryz.slices_Sort_int blk off cap zs w h1 h2 h3) aV,?_⟩;rintro O1 r1 ⟨rfl,rfl⟩;refine lL ?_;refine Z2 _ (aA fun _ Z3=>iS 5 _ rfl rfl ?_);refine bE [5] ?_;refine Z3 _ (aL (dN 4 ?_));exact dX.encL rfl (by rfl)
def aDi (l:aC) (ts:List cT) (bs:List eF):List DV:=if qY l ts bs=0 then rB (y4 l ts bs) else [.v (.slice none 0 0),.v (.slice none 0 0)]
theorem aTp {l:aC} {ts:List cT} {bs:List eF} (h:qY l ts bs≠0):aDi l ts bs=[.v (.slice none 0 0),.v (.slice none 0 0)]:=by unfold aDi;rw[if_neg h]
theorem bQm {l:aC} {ts:List cT} {bs:List eF} (h:qY l ts bs=0):aDi l ts bs=rB (y4 l ts bs):=by unfold aDi;rw[if_pos h]
section
attribute [local go_sem] aXf bIr bQq bOz cAt bSs cHj cLh bTo bTv cCt bYp or_self iP cJ
set_option maxRecDepth 20000 in
theorem bCw (O:aN) (l:aC) (ts:List cT) (bs:List eF) (hl:gO l) (hck:mK l=0) (ht:ts.length≤10) (hb:bs.length≤10) (hq: ∀i,i<bs.length→(bs.getD i default).xAc.length≤100):aZ Tryz.prog O 43 [.agg (aQ l),lA ts,jZ bs] (.tup [.agg (aDi l ts bs),vi (qY l ts bs)]):=by
 have hes:=(qR hck).2.1;obtain ⟨i4,hi4,hz4⟩:=bHf;refine iT Tryz.func43 rfl bF fun w0 I0 A0=>?_;have hF:=pS w0 I0 (cG A0) (GOf []);refine bI hF [0,1,2] ?_;refine bI hF [1,2,3,6] ?_;refine aW fun _ Z2=>bI hF [1,2,3,6,8] ?_;refine cQ (fun c0=>?_) fun c0=>?_
 ·have hp:aPi ts bs=true:=dF c0;have he:qY l ts bs=1:=cTq hp;have hv:=aTp (l:=l) (ts:=ts) (bs:=bs) (by rw[he];decide);refine bI hF [6] ?_;refine dV ?_
  (try simp only[fQ,d8]);rw[hv,he];refine sO rfl sz (.cons (roC sr sr bF (by first|rfl|(((try simp only[go_sem,seval]);try simp (disch:=omega) only[go_sem,seval])))) (.cons (vU sr rfl rfl) .nil))
 have hp:aPi ts bs=false:=e9 aV;refine bU (Z2 _ _ (aW fun _ Z5=>bI hF [1,2,3,6,8] ?_));refine bZ (eY [1,2,3,6,8,9] (fun n sF ρ=> ∃i,n=ts.length-i∧sF=[]∧(1≤i∧i≤ts.length)∧(nX (bBb ts) i)∧ρ=dU O [(1,lA ts),(2,jZ bs),(3,.bx (aQ l)),(6,.bx [.v (.slice none 0 0),.v (.slice none 0 0)]),(8,vi (ts.length:Nat)),(9,vi (i:Nat))]) _ ⟨1,rfl,rfl,?_,?_,?_⟩ ?_)
 ·exact bD
 ·exact kE (lP _) rfl
 ·exact dT
 rintro n sF ρ ⟨i,rfl,rfl,l0_0,l0_1,rfl⟩ _ Z7;have hsx:((i:Int)-1).toNat=i-1:=by omega
 refine aW fun _ Z8=>lB hF [1,2,3,6,8,9] ?_;refine cQ (fun c1=>?_) fun c1=>?_
 ·refine bU (Z8 _ _ (aW fun _ Z10=>bZ (aW fun _ Z11=>iU hF ?_)));refine jF [1,2,3,6,8,9] [] ?_;refine Z11 _ _ (cQ (fun c2=>?_) fun c2=>?_)
  ·refine lB hF [6] ?_;refine dV ?_;have hv:=aTp (l:=l) (ts:=ts) (bs:=bs) (by rw[cOj hp (rR c1 (e9 (by unfold idN;omega)))];decide);have he:=cOj (l:=l) hp (rR c1 (e9 (by unfold idN;omega)))
   (try simp only[fQ,d8]);rw[hv,he];refine sO rfl sz (.cons (roC sr sr bF (by first|rfl|(((try simp only[go_sem,seval]);try simp (disch:=omega) only[go_sem,seval])))) (.cons (vU sr rfl rfl) .nil))
  refine bU (Z10 _ _ (wE hF [1,2,3,6,8,9] ?_));refine Z7 _ _ _ bD ⟨i+1,rfl,rfl,bD,?_,?_⟩
  ·exact kE l0_1 (dF (by unfold idN;omega))
  exact eX
 refine fV (Z5 _ _ (lB hF [1,2,3,6] ?_));refine aW fun _ Z14=>aW fun _ Z15=>?_;have ho:=t6 l0_1 (n:=ts.length) aV;refine wE hF [1,2,3,6,10] ?_;refine Z15 _ _ (bZ (kF [] [] 67 14 rfl ?_));refine kF [bAm mJ (t8 l ts bs 0)] [] 79 4 rfl ?_;refine eY [1,2,3,6,10,53,54,55] (fun n sF ρ=> ∃i,∃aT,∃aS,n=ts.length-i∧sF=[bAm aT (t8 l ts bs i),bBc aS (sM ts i)]∧(i≤ts.length)∧(wM l ts bs ts.length 0=wM l ts bs (ts.length-i) i)∧ρ=dU O [(1,lA ts),(2,jZ bs),(3,.bx (aQ l)),(6,.bx [.v (.slice none 0 0),.v (.slice none 0 0)]),(10,.bx (cnX (aT.sl (t8 l ts bs i).length) (aS.sl (sM ts i).length))),(53,lA ts),(54,vi (ts.length:Nat)),(55,vi (i:Nat))]) _ ⟨0,mJ,mJ,rfl,rfl,?_,?_,?_⟩ ?_
 ·exact bD
 ·rfl
 ·exact eX
 rintro n sF ρ ⟨i,aT,aS,rfl,rfl,l1_0,l1_1,rfl⟩ _ Z16;have htl:=aZt l ts bs i;have hsl:=bMg ts i;refine lB hF [1,2,3,6,10,53,54,55] ?_;refine aW fun _ Z18=>cQ (fun c3=>?_) fun c3=>?_
 ·refine bU (Z18 _ _ (aW fun _ Z19=>bZ (lB hF [1,2,3,6,10,53,54,55] ?_)));refine aW fun _ Z21=>?_;have hqi:=hq i aV;refine aUi 13 [1,2,3,6,10,11,12,53,54,55] [1,2,3,6,10,11,12,53,54,55,61,62,63,64,65,66,67,60,68,69,14,13] [[],[],[],[],[2,3],[2,3,4],[0,1,2,3,4,5],[0,1,2,3,4,5,6],[0,1,2,3,4,5,6,7],[0,1,2,3,4,5,6,7],[],[0,1,2,3,4,5,6,7,8,10],[0,1,2,3,4,5,6,7,8,9,10,11]] [[11],[11],[11],[11],[11],[11],[11],[11],[11],[],[11],[],[]] (fun (_:_root_.Unit) bQ=>dU O [(1,lA ts),(2,jZ bs),(3,.bx (aQ l)),(6,.bx [.v (.slice none 0 0),.v (.slice none 0 0)]),(10,.bx (cnX (aT.sl (t8 l ts bs i).length) (aS.sl (sM ts i).length))),(11,vi (i:Nat)),(12,.bx (gX (ts.getD i default))),(53,lA ts),(54,vi (ts.length:Nat)),(55,vi (i:Nat)),(61,bC (bQ 0) (.agg (aQ l))),(62,bC (bQ 1) (.agg (gX (ts.getD i default)))),(63,bC (bQ 2) (jZ bs)),(64,bC (bQ 3) (vi (i:Nat))),(65,bC (bQ 4) (.dp (jL (bs.getD i default)))),(66,bC (bQ 5) (.agg (jL (bs.getD i default)))),(67,bC (bQ 6) (.tup [.agg (tV l (ts.getD i default) (bs.getD i default)),vi (sR l (ts.getD i default) (bs.getD i default))])),(60,bC (bQ 7) (.tup [.agg (tV l (ts.getD i default) (bs.getD i default)),vi (sR l (ts.getD i default) (bs.getD i default))])),(68,bC (bQ 8) (.agg (tV l (ts.getD i default) (bs.getD i default)))),(69,bC (bQ 9) (vi (sR l (ts.getD i default) (bs.getD i default)))),(14,bC (bQ 12) (vi (sR l (ts.getD i default) (bs.getD i default)))),(13,rP (bQ 11) (bQ 10) (.bx (tV l (ts.getD i default) (bs.getD i default))) (.bx tkZ))]) (fun (_:_root_.Unit) bQ=>[bAm aT (t8 l ts bs i),bBc aS (sM ts i)]) () hF (fun iQ hiQ oQ hoQ gg bQ hbQ KQ hKQ=>?_) (fun gg=>?_)
  ·match iQ,hiQ with
   |0,_|1,_|2,_|3,_|4,_|5,_|7,_|8,_|9,_|10,_|11,_|12,_=>
    exact cKg hF hoQ hbQ (hKQ ())
   |6,_=>
    exact cSg hF hoQ hbQ (hKQ ()) (aJb _ l (ts.getD i default) (bs.getD i default) hl hck hqi)
  refine gE ?_;refine Z21 _ _ (aW fun _ Z22=>lB hF [1,2,3,6,10,12,13,14,53,54,55] ?_);refine cQ (fun c4=>?_) fun c4=>?_
  ·have hz:sR l (ts.getD i default) (bs.getD i default)≠0:=(by simpa using c4);have hF0:wM l ts bs ts.length 0=sR l (ts.getD i default) (bs.getD i default):=(by rw[l1_1,bRb (by assumption),if_pos hz]);have he:qY l ts bs=sR l (ts.getD i default) (bs.getD i default):=(by rw[cUq hp ho (by rw[hF0];exact hz),hF0]);have hv:=aTp (l:=l) (ts:=ts) (bs:=bs) (by rw[he];exact hz);refine lB hF [6,14] ?_;refine dV ?_
   (try simp only[fQ,d8]);rw[hv,he];refine sO rfl sz (.cons (roC sr sr bF (by first|rfl|(((try simp only[go_sem,seval]);try simp (disch:=omega) only[go_sem,seval])))) (.cons (vU sr rfl rfl) .nil))
  have hz:sR l (ts.getD i default) (bs.getD i default)=0:=(by simpa using c4);have hbc:tV l (ts.getD i default) (bs.getD i default)=pX (aCp l (ts.getD i default) (bs.getD i default)):=(by unfold tV;rw[if_pos hz]);rw[hbc];refine bU (Z22 _ _ (aW fun _ Z25=>cC (Le.keepC [1,2,3,6,10,12,13,53,54,55] _) ?_));refine cU ?_;refine efh hF ?_;refine efh hF ?_;refine efh hF ?_;refine efh hF ?_;show lW _ _ _ _ _ _ _ _;refine iI (s1:=[]) (s2:=[bBc aS (sM ts i)]) 75 eN srh rfl ?_;refine efh hF ?_;show lW _ _ _ _ _ _ _ _;refine nV (s1:=[]) (s2:=[bBc aS (sM ts i)]) (l:=(t8 l ts bs (i+1)).map pX) 78 eN (by ((try simp only[go_sem,seval,hsx]);try simp (disch:=omega) only[go_sem,seval,hsx])<;>(first|rfl|(rw[cIx,eM];try rfl))) rfl (fun hT=>?_);refine efh hF ?_;refine efh hF ?_;refine Z25 _ _ (aUi 9 [1,2,3,6,10,12,53,54,55] [1,2,3,6,12,53,54,55,80,82,83,84,85,86,87,10,81] [[],[0],[],[2],[2,3],[2,3,4],[0,1,2,3,4,5],[0,1,2,3,4,5,6],[0,1,2,3,4,5,6,7]] [[1,6,8],[6,8],[6,8],[6,8],[6,8],[6,8],[8],[8],[]] (fun (hx:Hd) bQ=>dU O [(1,lA ts),(2,jZ bs),(3,.bx (aQ l)),(6,.bx [.v (.slice none 0 0),.v (.slice none 0 0)]),(12,.bx (gX (ts.getD i default))),(53,lA ts),(54,vi (ts.length:Nat)),(55,vi (i:Nat)),(80,bC (bQ 0) (.bp 10 1)),(82,bC (bQ 2) (.bp 12 0)),(83,bC (bQ 3) (vi (ts.getD i default).fId)),(84,bC (bQ 4) (.agg (lT (bIh (idN ts i))))),(85,bC (bQ 5) (.sl 4 1 (fun i_=>[lT (bIh (idN ts i))].getD i_ []))),(86,bC (bQ 6) (hx.sl (sM ts (i+1)).length)),(87,bC (bQ 7) (.bp 10 1)),(10,rP (bQ 8) true (.bx (cnX (hT.sl (t8 l ts bs (i+1)).length) (hx.sl (sM ts (i+1)).length))) (.bx (cnX (hT.sl (t8 l ts bs (i+1)).length) (aS.sl (sM ts i).length)))),(81,(cond (bQ 6) (.any) (cond (bQ 1) (aS.sl (sM ts i).length) (.any))))]) (fun (hx:Hd) bQ=>(cond (bQ 6) [bAm hT (t8 l ts bs (i+1)),bBc hx (sM ts (i+1))] [bAm hT (t8 l ts bs (i+1)),bBc aS (sM ts i)])) ⟨none,none,0⟩ hF (fun iQ hiQ oQ hoQ hx bQ hbQ KQ hKQ=>?_) (fun hx=>?_))
  ·match iQ,hiQ with
   |0,_|1,_|2,_|3,_|5,_|7,_|8,_=>
    exact cKg hF hoQ hbQ (hKQ hx)
   |4,_=>
    exact cSg hF hoQ hbQ (hKQ hx) (zE _ (idN ts i))
   |6,_=>
    obtain rfl:=dO hoQ;simp only[stM,tE,tI,oK,oS,pH,jC,jE] at hbQ;rw[hbQ.1];simp only[fI];show lW _ _ _ _ _ _ _ _;refine iI (s1:=[bAm hT (t8 l ts bs (i+1))]) (s2:=[]) 81 eN (by ((try simp only[go_sem,seval,hsx,hbQ]);try simp (disch:=omega) only[go_sem,seval,hsx,hbQ])<;>rfl) rfl ?_;refine nT [bAm hT (t8 l ts bs (i+1))] [] 79 4 ((sM ts (i+1)).map lT) 86 eN ?_;show lW _ _ _ _ _ _ _ _;refine fK hF ?_;refine bV rfl bF bF ?_;((try simp only[go_sem,seval,hsx,hbQ]);try simp (disch:=omega) only[go_sem,seval,hsx,hbQ])
    repeat refine cP kN ?_
    refine ⟨rfl,by ((try simp only[go_sem,seval,hsx,hbQ]);try simp (disch:=omega) only[go_sem,seval,hsx,hbQ])<;>(first|rfl|(rw[cGn,eM];try rfl)),fun hx=>?_⟩
    try ((try simp only[go_sem,seval,hsx,hbQ]);try simp (disch:=omega) only[go_sem,seval,hsx,hbQ])
    refine hKQ hx _ _ ?_ ?_
    ·first|rfl|(((try simp only[go_sem,seval,hsx,hbQ]);try simp (disch:=omega) only[go_sem,seval,hsx,hbQ]);done)|(((try simp only[go_sem,seval,hsx,hbQ]);try simp (disch:=omega) only[go_sem,seval,hsx,hbQ])<;>rfl)
    ((try simp only[go_sem,seval,hsx,hbQ]);try simp (disch:=omega) only[go_sem,seval,hsx,hbQ])<;>first|rfl|simp
  refine gE ?_;refine Z19 _ _ (wE hF [1,2,3,6,10,53,54,55] ?_);refine Z16 _ _ _ bD ⟨i+1,hT,hx,rfl,rfl,bD,?_,?_⟩
  ·(rw[l1_1,bRb (by assumption),if_neg (by simpa using hz)])
  exact eX
 refine fV (Z14 _ _ (aW fun _ Z26=>?_));have hF0:wM l ts bs ts.length 0=0:=(by rw[l1_1,show ts.length-i=0 by omega];rfl);obtain rfl:i=ts.length:=by omega
 refine gL (s1:=[]) (s2:=[bBc aS (sM ts ts.length)]) 10 0 sf sf rfl (eK.frzL pX (t8 l ts bs ts.length)) rfl ?_;rw[bTo];refine gL (s1:=[]) (s2:=[]) 10 1 sf sf rfl (eK.frzL lT (sM ts ts.length)) rfl ?_;rw[bTv];rw[cKe];refine wE hF [2,3,6,10] ?_;refine Z26 _ _ (aW fun _ Z27=>lB hF [2,3,6,10,15] ?_);refine bZ (eY [3,6,10,15,90,91,92] (fun n sF ρ=> ∃i,n=bs.length-i∧sF=[]∧(i≤bs.length)∧((o6 l (bs.take i)).Nodup)∧ρ=dU O [(3,.bx (aQ l)),(6,.bx [.v (.slice none 0 0),.v (.slice none 0 0)]),(10,.bx (rB (y4 l ts bs))),(15,.mo (esT oG pA (mtS (o6 l (bs.take i))))),(90,jZ bs),(91,vi (bs.length:Nat)),(92,vi (i:Nat))]) _ ⟨0,rfl,rfl,?_,?_,?_⟩ ?_)
 ·exact bD
 ·exact List.nodup_nil
 ·exact eX
 rintro n sF ρ ⟨i,rfl,rfl,l2_0,l2_1,rfl⟩ _ Z29;refine lB hF [2,3,6,10,15,90,91,92] ?_;refine aW fun _ Z31=>cQ (fun c5=>?_) fun c5=>?_
 ·refine bU (Z31 _ _ (aW fun _ Z32=>bZ (lB hF [2,3,6,10,15,90,91,92] ?_)));refine aW fun _ Z34=>bYl hF [2,3,6,10,15,17,90,91,92] ?_;refine pV (vI _ l (bs.getD i default) hl hes (hq i (by assumption))) ?_;refine Z34 _ _ (bZ (eY [3,6,10,15,90,91,92,98,99,100] (fun n sF ρ=> ∃j,n=(iA l (bs.getD i default)).length-j∧sF=[]∧(j≤(iA l (bs.getD i default)).length)∧((o6 l (bs.take i)++(iA l (bs.getD i default)).take j).Nodup)∧ρ=dU O [(3,.bx (aQ l)),(6,.bx [.v (.slice none 0 0),.v (.slice none 0 0)]),(10,.bx (rB (y4 l ts bs))),(15,.mo (esT oG pA (mtS ((o6 l (bs.take i)++(iA l (bs.getD i default)).take j))))),(90,jZ bs),(91,vi (bs.length:Nat)),(92,vi (i:Nat)),(98,d5 (iA l (bs.getD i default))),(99,vi ((iA l (bs.getD i default)).length:Nat)),(100,vi (j:Nat))]) _ ⟨0,rfl,rfl,?_,?_,?_⟩ ?_))
  ·exact bD
  ·(rw[List.take_zero,kZ];exact l2_1)
  ·((try simp only[go_sem,seval,hsx]);try simp (disch:=omega) only[go_sem,seval,hsx])<;>(rw[List.take_zero,kZ])
  rintro n sF ρ ⟨j,rfl,rfl,l3_0,l3_1,rfl⟩ _ Z35;have hsb:=aRq l (bs.getD i default);have hqi:=hq i (by assumption);refine lB hF [2,3,6,10,15,90,91,92,98,99,100] ?_;refine aW fun _ Z37=>cQ (fun c6=>?_) fun c6=>?_
  ·refine bU (Z37 _ _ (aW fun _ Z38=>bZ (lB hF [2,3,6,10,15,90,91,92,98,99,100] ?_)));refine aW fun _ Z40=>aW fun _ Z41=>cC (Le.keepC [2,3,6,10,15,19,90,91,92,98,99,100] _) ?_;refine cU ?_;refine efh hF ?_;refine efh hF ?_;show lW _ _ _ _ _ _ _ _;refine fK hF ?_;refine pZ oG pA (s:=15) (M:=mtS (o6 l (bs.take i)++(iA l (bs.getD i default)).take j)) (a:=((iA l (bs.getD i default)).getD j default)) (zb:=false) (ok:=false) rfl rfl bF bF srh srh srh trivial rfl bF hi4 hz4 (jN _) (fun p _=>jN p.1) (by rw[tM];exact l3_1) ?_;refine gE ?_;refine Z41 _ _ (cQ (fun c7=>?_) fun c7=>?_)
   ·have hm:((iA l (bs.getD i default)).getD j default)∈(o6 l (bs.take i)++(iA l (bs.getD i default)).take j):=dK (by rw[← aAd];simpa using c7);have hn:=cAr (l:=l) (by assumption) (by assumption) hm;have he:=cNd hp ho hF0 hn;have hv:=aTp (l:=l) (ts:=ts) (bs:=bs) (by rw[he];decide);refine lB hF [6] ?_;refine dV ?_
    (try simp only[fQ,d8]);rw[hv,he];refine sO rfl sz (.cons (roC sr sr bF (by first|rfl|(((try simp only[go_sem,seval]);try simp (disch:=omega) only[go_sem,seval])))) (.cons (vU sr rfl rfl) .nil))
   have hm:((iA l (bs.getD i default)).getD j default)∉(o6 l (bs.take i)++(iA l (bs.getD i default)).take j):=aLh (by rw[← aAd];simpa using c7);refine bU (Z40 _ _ (cC (Le.keepC [2,3,6,10,15,19,90,91,92,98,99,100] _) ?_));refine cU ?_;refine efh hF ?_;refine efh hF ?_;show lW _ _ _ _ _ _ _ _;refine fK hF ?_;refine wK oG pA (kt:=3) (e:=4) (s:=15) (M:=mtS (o6 l (bs.take i)++(iA l (bs.getD i default)).take j)) (a:=((iA l (bs.getD i default)).getD j default)) (b:=true) (.inl rfl) rfl rfl bF srh srh srh trivial rfl srh trivial rfl bF (jN _) (fun p _=>jN p.1) (by rw[tM];exact l3_1) ?_;refine gE ?_;refine Z38 _ _ (wE hF [2,3,6,10,15,90,91,92,98,99,100] ?_);refine Z35 _ _ _ bD ⟨j+1,rfl,rfl,bD,?_,?_⟩
   ·exact cBm (by assumption) l3_1 hm
   ((try simp only[go_sem,seval,hsx]);try simp (disch:=omega) only[go_sem,seval,hsx])<;>(rw[kX default (by assumption),← tB,← aVb hm];try rfl)
  refine fV (Z32 _ _ (wE hF [2,3,6,10,15,90,91,92] ?_));refine Z29 _ _ _ bD ⟨i+1,rfl,rfl,bD,?_,?_⟩
  ·(rw[bNf (by assumption)];have h9:=l3_1;rw[jD (l:=iA l (bs.getD i default)) aV] at h9;exact h9)
  ((try simp only[go_sem,seval,hsx]);try simp (disch:=omega) only[go_sem,seval,hsx])<;>(rw[bNf (by assumption),jD (l:=iA l (bs.getD i default)) aV];try rfl)
 refine fV (Z27 _ _ (aW fun _ Z43=>?_));have hn:(o6 l bs).Nodup:=(by have h9:=l2_1;rw[jD aV] at h9;exact h9);have he:=cRu hp ho hF0 hn;have hv:=bQm he;refine wE hF [6,10] ?_;refine Z43 _ _ (dV ?_)
 (try simp only[fQ,d8]);rw[hv,he];refine sO rfl sz (.cons (roC sr sr bF (by first|rfl|(((try simp only[go_sem,seval]);try simp (disch:=omega) only[go_sem,seval])))) (.cons (vU sr rfl rfl) .nil))
end
section
variable (O:aN) (l:aC) (r:bL) (e:fH)
def pI:aN:=dU O [(3,.bx (aQ l)),(4,.bx (bK r)),(5,.bx (fM e)),(6,.bx [vi 0,vi 0]),(7,.bx [vi 0]),(8,.bx [vb false])]
def bBu:aN:=dU (pI O l r e) [(3,.bp 100003 0),(4,.bp 100004 0),(5,.bp 100005 0),(6,.bp 100006 0),(7,.bp 100007 0),(8,.bp 100008 0)]
theorem bEe (s:Nat):bBu O l r e (s+100000)=sh (pI O l r e s):=by
 show dU (pI O l r e) _ (s+100000)=_
 repeat rw[aDs,aK,if_neg aV]
 rw[aKi,cI]
theorem bHt (i:Nat) (hi':i<100000):bBu O l r e i=.any∨(i<Tryz.f102.ntmps∧(∃cs,pI O l r e i=.bx cs)∧bBu O l r e i=.bp (i+100000) 0):=by
 by_cases h:i=3∨i=4∨i=5∨i=6∨i=7∨i=8
 ·right;rcases h with rfl|rfl|rfl|rfl|rfl|rfl<;>exact ⟨by decide,⟨_,rfl⟩,rfl⟩
 left;show dU (pI O l r e) _ i=_
 repeat rw[aDs,aK,if_neg aV]
 rw[aKi];exact nG _ hi'
theorem aKf:hi (pI O l r e)=bS O:=by
 unfold pI
 repeat rw[aDs,zN _ _ aV]
 rw[aKi,aYd]
end
theorem bOa {P:Program} {nt:Nat} {c:Code} {Q:Exit→aN→Prop} {ρ:aN} (h: ∀Q',(∀e ρ,Q e ρ→Q' e ρ)→AW P nt c Q' ρ):AW P nt c Q ρ:=h Q fun _ _ h=>h
theorem bEp {ρ:aN} {s:Nat} {x:DV} (h:ρ s=x):set ρ s x=ρ:=by
 funext i;rw[aK];split
 ·rename_i e;rw[e,h]
 rfl
theorem cBu {P:Program} {ρ:aN} {a:Nat} {t:TypeId} {c:DV} (h:ρ a=.bx [c]) (hl:eA P t=some none) (hs:sh c=c):aPd P ρ (.cell a t) c:=⟨[c],h,.inr ⟨hl,c,rfl,by rw[hs];exact eK.refl _⟩⟩
theorem aQx {o:Oper} (hop:o.op=.binOp .neq 20 (.tmp 3) (.const .nilIface) 20) (a:Act) (w:Go.World) (u:TypeId) (v:Value) (h:a.eval (.tmp 3)=.iface u v):(execOp a.eval o).run Tryz.prog w=.ok (.value (.bool true)) w:=by
 have h2:a.eval (.const .nilIface)=.nilIface:=rfl;have h3:(eqGuard .neq 20 (.tmp 3) (.const .nilIface) (.iface u v) .nilIface).run Tryz.prog w=.ok () w:=rfl;have h4:(binOp .neq 20 (.iface u v) .nilIface).run Tryz.prog w=.ok (.bool true) w:=rfl;simp[execOp,hop,h,h2,h3,h4]
theorem aRd {o:Oper} (hop:o.op=.binOp .neq 20 (.tmp 3) (.const .nilIface) 20) (a:Act) (w:Go.World) (h:a.eval (.tmp 3)=.nilIface):(execOp a.eval o).run Tryz.prog w=.ok (.value (.bool false)) w:=by
 have h2:a.eval (.const .nilIface)=.nilIface:=rfl;have h3:(eqGuard .neq 20 (.tmp 3) (.const .nilIface) .nilIface .nilIface).run Tryz.prog w=.ok () w:=rfl;have h4:(binOp .neq 20 .nilIface .nilIface).run Tryz.prog w=.ok (.bool false) w:=rfl;simp[execOp,hop,h,h2,h3,h4]
section
attribute [local go_sem] kD oX
section
attribute [local go_sem] gR fI
theorem aJu (O:aN) (l:aC) (r:bL) (e:fH) (hl:gO l):aZ Tryz.prog O 102 [.agg (aQ l),.agg (bK r),.agg (fM e)] (.tup [.agg (bO (prT (yK l r 4 e)).1),vi (prT (yK l r 4 e)).2.1,vb (prT (yK l r 4 e)).2.2]):=by
 have hp:=fun O=>aAs O l r e hl;have q3:bS (pI O l r e) 100003=.bx (aQ l):=rfl;have q4:bS (pI O l r e) 100004=.bx (bK r):=rfl;have q5:bS (pI O l r e) 100005=.bx (fM e):=rfl;have q6:bS (pI O l r e) 100006=.bx [vi 0,vi 0]:=rfl;have q7:bS (pI O l r e) 100007=.bx [vi 0]:=rfl;have q8:bS (pI O l r e) 100008=.bx [vb false]:=rfl;cases hg:yK l r 4 e with
 |none=>
  rw[hg] at hp;refine aDw (ρ1:=pI O l r e) (ρ2:=bBu O l r e) (x6:=[vi 0,vi 0]) (x7:=[vi 0]) (x8:=[vb false]) (y6:=[vi 0,vi 0]) (y7:=[vi (-1)]) (y8:=[vb false]) Tryz.func102 rfl bF rfl rfl rfl rfl rfl rfl Tryz.func149 rfl rfl rfl bF rfl rfl rfl rfl rfl (aQx rfl) (aRd rfl) ?_ (aKf O l r e) ⟨_,rfl⟩ ⟨_,rfl⟩ ⟨_,rfl⟩ (bHt O l r e) (bEe O l r e) rfl rfl rfl rfl ?_ ?_
  ·refine cS [0,1,2] bF ?_;refine lL ?_;refine Le.trans (Le.keepC [3,4,5,6,7,8] _) ?_;have hle: ∀ρ':aN,ρ'=pI O l r e→Le ρ' (pI O l r e):=fun _ h=>h▸Le.refl _;refine hle _ ?_;unfold pI;simp (disch:=omega) only[go_sem,seval]<;>rfl
  ·refine bOa fun Q' hQ'=>?_;refine aA fun K hK=>?_;unfold bBu;refine qT ?_;show OWX _ _ _ _ _ _ _;refine nH ?_;refine bV rfl bF bF ?_;simp (disch:=omega) only[go_sem,seval,q3,q4,q5,q6,q7,q8]
   repeat refine cP kN ?_
   show OWX _ _ _ _ _ _ _;refine nH ?_;refine bV rfl bF bF ?_;simp (disch:=omega) only[go_sem,seval,q3,q4,q5,q6,q7,q8]
   repeat refine cP kN ?_
   show OWX _ _ _ _ _ _ _;refine nH ?_;refine bV rfl bF bF ?_;simp (disch:=omega) only[go_sem,seval,q3,q4,q5,q6,q7,q8]
   repeat refine cP kN ?_
   show OWX _ _ _ _ _ _ _;refine aQj rfl rfl rfl eN bF (by simp (disch:=omega) only[go_sem,seval,q3,q4,q5,q6,q7,q8]) (by simp (disch:=omega) only[go_sem,seval,q3,q4,q5,q6,q7,q8]) (by simp (disch:=omega) only[go_sem,seval,q3,q4,q5,q6,q7,q8]<;>rfl) bF (hp _) ?_;intro tP vP
   change Q' _ _
   refine hQ' _ _ ?_;refine ⟨pI O l r e,fun s=>?_,aKf O l r e,by simp (disch:=omega) only[go_sem,seval,q3,q4,q5,q6,q7,q8],by simp (disch:=omega) only[go_sem,seval,q3,q4,q5,q6,q7,q8],by simp (disch:=omega) only[go_sem,seval,q3,q4,q5,q6,q7,q8],rfl,rfl,rfl,.inr ⟨⟨tP,vP,rfl⟩,rfl,rfl,rfl,?_⟩⟩
   ·repeat rw[aK,if_neg aV]
    rw[cI]
   exact ⟨_,rfl,rfl,(RO.cons (roC rfl rfl bF rfl) (.cons (cBu rfl bF rfl) (.cons (cBu rfl bF rfl) .nil)):RO Tryz.prog _ [.cell 6 141,.cell 7 3,.cell 8 4] _).get⟩
  intro O2 h6 h7 h8;have r6:bS O2 100006=.bx [vi 0,vi 0]:=by rw[show (100006:Nat)=6+100000 from rfl,cI,h6];rfl
  have r7:bS O2 100007=.bx [vi 0]:=by rw[show (100007:Nat)=7+100000 from rfl,cI,h7];rfl
  have r8:bS O2 100008=.bx [vb false]:=by rw[show (100008:Nat)=8+100000 from rfl,cI,h8];rfl
  refine cS [0,1,2] bF ?_;simp (disch:=omega) only[go_sem,seval,seval,r6,r7,r8]
  repeat refine cP kN ?_
  intro s;unfold aJk;rw[aK,aK,aK];split
  ·rfl
  split
  ·rfl
  split
  ·rfl
  exact cI _ _
 |some p=>
  rw[hg] at hp;simp only[gG,prV] at hp;refine aDw (ρ1:=pI O l r e) (ρ2:=bBu O l r e) (x6:=bO p.1) (x7:=[vi p.2]) (x8:=[vb true]) (y6:=[vi 0,vi 0]) (y7:=[vi (-1)]) (y8:=[vb false]) Tryz.func102 rfl bF rfl rfl rfl rfl rfl rfl Tryz.func149 rfl rfl rfl bF rfl rfl rfl rfl rfl (aQx rfl) (aRd rfl) ?_ (aKf O l r e) ⟨_,rfl⟩ ⟨_,rfl⟩ ⟨_,rfl⟩ (bHt O l r e) (bEe O l r e) rfl rfl rfl rfl ?_ ?_
  ·refine cS [0,1,2] bF ?_;refine lL ?_;refine Le.trans (Le.keepC [3,4,5,6,7,8] _) ?_;have hle: ∀ρ':aN,ρ'=pI O l r e→Le ρ' (pI O l r e):=fun _ h=>h▸Le.refl _;refine hle _ ?_;unfold pI;simp (disch:=omega) only[go_sem,seval]<;>rfl
  ·refine bOa fun Q' hQ'=>?_;unfold bBu;refine bHv [3,4,5,6,7,8] (fun ρ=>ρ=dU (set (set (pI O l r e) 6 (.bx (bO p.1))) 7 (.bx [vi p.2])) [(3,.bp 100003 0),(4,.bp 100004 0),(5,.bp 100005 0),(6,.bp 100006 0),(7,.bp 100007 0),(8,.bp 100008 0)]) (fun K hK=>?_) ?_
   ·refine cS [3,4,5,6,7,8] bF ?_;simp (disch:=omega) only[go_sem,seval,q3,q4,q5,q6,q7,q8]
    repeat refine cP kN ?_
    refine jJ _ (aIk.pcall (hp _)) ?_;simp (disch:=omega) only[go_sem,seval,q3,q4,q5,q6,q7,q8]
    repeat refine cP kN ?_
    refine hK _ ?_;simp (disch:=omega) only[go_sem,seval,q3,q4,q5,q6,q7,q8]<;>first|rfl|simp
   rintro ρ rfl;have hX:hi (set (set (pI O l r e) 6 (.bx (bO p.1))) 7 (.bx [vi p.2]))=bS O:=by rw[zN _ _ aV,zN _ _ aV,aKf]
   have v6:bS (set (set (pI O l r e) 6 (.bx (bO p.1))) 7 (.bx [vi p.2])) 100006=.bx (bO p.1):=rfl;have v7:bS (set (set (pI O l r e) 6 (.bx (bO p.1))) 7 (.bx [vi p.2])) 100007=.bx [vi p.2]:=rfl;have v8:bS (set (set (pI O l r e) 6 (.bx (bO p.1))) 7 (.bx [vi p.2])) 100008=.bx [vb false]:=rfl;have x6:(set (set (pI O l r e) 6 (.bx (bO p.1))) 7 (.bx [vi p.2])) 6=.bx (bO p.1):=rfl;have x7:(set (set (pI O l r e) 6 (.bx (bO p.1))) 7 (.bx [vi p.2])) 7=.bx [vi p.2]:=rfl;generalize set (set (pI O l r e) 6 (.bx (bO p.1))) 7 (.bx [vi p.2])=X at*;have w6:set (bS X) 100006 (.bx [vi p.1.fEl,vi p.1.xAo])=bS X:=bEp v6;have w7:set (bS X) 100007 (.bx [vi p.2])=bS X:=bEp v7;refine aA fun K hK=>?_;refine aWe [3,4,5,6,7,8] [] [] kR bF (fun Y hY hYm hY0=>?_);have tT: ∀ρ,keepC [3,4,5,6,7,8,17,18] ρ=dU (set X 8 (.bx [vb true])) [(3,.bp 100003 0),(4,.bp 100004 0),(5,.bp 100005 0),(6,.bp 100006 0),(7,.bp 100007 0),(8,.bp 100008 0),(17,.agg (bO p.1)),(18,vi p.2)]→Y 0 #[true,true,true,true,true] ρ:=by
    intro ρ hρ;refine hY0 _ [3,4,5,6,7,8,17,18] _ bF ?_;rw[hρ];clear hY hYm hY0 hρ;simp (disch:=omega) only[go_sem,seval,v6,v7,v8,w6,w7];refine hK _ ?_;clear hK;refine aL (hQ' _ _ ?_);refine ⟨set X 8 (.bx [vb true]),fun s=>?_,by rw[zN _ _ aV];exact hX,by simp (disch:=omega) only[go_sem,seval,v6,v7,v8,w6,w7],by simp (disch:=omega) only[go_sem,seval,v6,v7,v8,w6,w7],by simp (disch:=omega) only[go_sem,seval,v6,v7,v8,w6,w7],by rw[aK,if_neg aV];exact x6,by rw[aK,if_neg aV];exact x7,by rw[aK,if_pos rfl],.inl ⟨rfl,?_⟩⟩
    ·simp (disch:=omega) only[go_sem,seval,v6,v7,v8,w6,w7];split
     ·rfl
     exact cI _ _
    have y6:t7 (set X 8 (.bx [vb true])) 6=.bx (bO p.1):=by unfold t7;rw[if_pos aV,if_pos aV,aK,if_neg aV];exact x6
    have y7:t7 (set X 8 (.bx [vb true])) 7=.bx [vi p.2]:=by unfold t7;rw[if_pos aV,if_pos aV,aK,if_neg aV];exact x7
    have y8:t7 (set X 8 (.bx [vb true])) 8=.bx [vb true]:=by unfold t7;rw[if_pos aV,if_pos aV,aK,if_pos rfl]
    exact ⟨_,rfl,rfl,(RO.cons (roC y6 rfl bF rfl) (.cons (cBu y7 bF rfl) (.cons (cBu y8 bF rfl) .nil)):RO Tryz.prog _ [.cell 6 141,.cell 7 3,.cell 8 4] _).get⟩
   have main: ∀(m:Nat) (b0 b1 b2 b3 b4:Bool),cB b0+cB b1+cB b2+cB b3+cB b4=m→(b4=true→b3=true)→(b3=true→b2=true)→(b2=true→b0=true)→(b3=true→b1=true)→(b4=true→b2=true)→(b4=true→b1=true)→(b4=true→b0=true)→(b3=true→b0=true)→ ∀ρ,keepC [3,4,5,6,7,8,17,18] ρ=dU (bif b4 then (set X 8 (.bx [vb true])) else X) [(3,.bp 100003 0),(4,.bp 100004 0),(5,.bp 100005 0),(6,.bp 100006 0),(7,.bp 100007 0),(8,.bp 100008 0),(17,bC b0 (.agg (bO p.1))),(18,bC b1 (vi p.2))]→Y m #[b0,b1,b2,b3,b4] ρ:=by
    intro m
    induction m with
    |zero=>
     intro b0 b1 b2 b3 b4 hm m4_3 m3_2 m2_0 m3_1 m4_2 m4_1 m4_0 m3_0 ρ hρ;have hc: ∀b,cB b=0→b=true:=fun b h=>by cases b;cases h;rfl
     have e0:b0=true:=hc b0 aV;have e1:b1=true:=hc b1 aV;have e2:b2=true:=hc b2 aV;have e3:b3=true:=hc b3 aV;have e4:b4=true:=hc b4 aV;subst e0 e1 e2 e3 e4;refine tT ρ (hρ.trans ?_);simp only[aQu,aPo,gR]
    |succ m ih=>
     intro b0 b1 b2 b3 b4 hm m4_3 m3_2 m2_0 m3_1 m4_2 m4_1 m4_0 m3_0 ρ hρ;have hex: ∃i,i<5∧ #[b0,b1,b2,b3,b4].getD i true=false:=by
      clear ih hρ tT hY hYm hY0;cases b0
      ·exact ⟨0,by omega,rfl⟩
      cases b1
      ·exact ⟨1,by omega,rfl⟩
      cases b2
      ·exact ⟨2,by omega,rfl⟩
      cases b3
      ·exact ⟨3,by omega,rfl⟩
      cases b4
      ·exact ⟨4,by omega,rfl⟩
      exact absurd hm (by simp[cB])
     refine hYm m _ [3,4,5,6,7,8,17,18] _ bF rfl hex ?_;clear hY hYm hY0 tT hex;intro iQ oQ hun hoQ hdep;have hiQ:iQ<5:=(oJ.1 hoQ).1
     match iQ,hiQ with
     |0,_=>
      obtain rfl:b0=false:=hun;obtain rfl:=dO hoQ
      have n2:b2=false:=by cases hc:b2 with
       |false=>rfl
       |true=>exact absurd (m2_0 hc) eN
      subst n2
      have n4:b4=false:=by cases hc:b4 with
       |false=>rfl
       |true=>exact absurd (m4_0 hc) eN
      subst n4
      have n3:b3=false:=by cases hc:b3 with
       |false=>rfl
       |true=>exact absurd (m3_0 hc) eN
      subst n3;clear hdep;rw[hρ];show opI _ _ _ false _ _;simp (disch:=omega) only[go_sem,seval,v6,v7,v8,w6,w7]
      repeat refine cP kN ?_
      refine ih true b1 false false false ?_ (fun h=>by cases h) (fun h=>by cases h) (fun h=>by cases h) (fun h=>by cases h) (fun h=>by cases h) (fun h=>by cases h) (fun h=>by cases h) (fun h=>by cases h) _ ?_
      ·simp only[cB,gR,fI] at hm ⊢;omega
      simp (disch:=omega) only[go_sem,seval,v6,v7,v8,w6,w7]<;>first|rfl|simp
     |1,_=>
      obtain rfl:b1=false:=hun;obtain rfl:=dO hoQ
      have n3:b3=false:=by cases hc:b3 with
       |false=>rfl
       |true=>exact absurd (m3_1 hc) eN
      subst n3
      have n4:b4=false:=by cases hc:b4 with
       |false=>rfl
       |true=>exact absurd (m4_1 hc) eN
      subst n4;clear hdep;rw[hρ];show opI _ _ _ false _ _;simp (disch:=omega) only[go_sem,seval,v6,v7,v8,w6,w7]
      repeat refine cP kN ?_
      refine ih b0 true b2 false false ?_ (fun h=>by cases h) (fun h=>by cases h) m2_0 (fun h=>by cases h) (fun h=>by cases h) (fun h=>by cases h) (fun h=>by cases h) (fun h=>by cases h) _ ?_
      ·simp only[cB,gR,fI] at hm ⊢;omega
      simp (disch:=omega) only[go_sem,seval,v6,v7,v8,w6,w7]<;>first|rfl|simp
     |2,_=>
      obtain rfl:b2=false:=hun;obtain rfl:=dO hoQ;have e0:b0=true:=by first|(refine hdep ⟨0,.data⟩ ?_ rfl;simp;done)|(refine hdep ⟨0,.phase⟩ ?_ rfl;simp;done)|(refine hdep ⟨0,.chain⟩ ?_ rfl;simp;done)
      subst e0
      have n3:b3=false:=by cases hc:b3 with
       |false=>rfl
       |true=>exact absurd (m3_2 hc) eN
      subst n3
      have n4:b4=false:=by cases hc:b4 with
       |false=>rfl
       |true=>exact absurd (m4_2 hc) eN
      subst n4;clear hdep;rw[hρ];show opI _ _ _ false _ _;simp (disch:=omega) only[go_sem,seval,v6,v7,v8,w6,w7]
      repeat refine cP kN ?_
      refine ih true b1 true false false ?_ (fun h=>by cases h) (fun h=>by cases h) (fun _=>rfl) (fun h=>by cases h) (fun h=>by cases h) (fun h=>by cases h) (fun h=>by cases h) (fun h=>by cases h) _ ?_
      ·simp only[cB,gR,fI] at hm ⊢;omega
      simp (disch:=omega) only[go_sem,seval,v6,v7,v8,w6,w7]<;>first|rfl|simp
     |3,_=>
      obtain rfl:b3=false:=hun;obtain rfl:=dO hoQ;have e0:b0=true:=by first|(refine hdep ⟨0,.data⟩ ?_ rfl;simp;done)|(refine hdep ⟨0,.phase⟩ ?_ rfl;simp;done)|(refine hdep ⟨0,.chain⟩ ?_ rfl;simp;done)
      have e1:b1=true:=by first|(refine hdep ⟨1,.data⟩ ?_ rfl;simp;done)|(refine hdep ⟨1,.phase⟩ ?_ rfl;simp;done)|(refine hdep ⟨1,.chain⟩ ?_ rfl;simp;done)
      have e2:b2=true:=by first|(refine hdep ⟨2,.data⟩ ?_ rfl;simp;done)|(refine hdep ⟨2,.phase⟩ ?_ rfl;simp;done)|(refine hdep ⟨2,.chain⟩ ?_ rfl;simp;done)
      subst e0 e1 e2
      have n4:b4=false:=by cases hc:b4 with
       |false=>rfl
       |true=>exact absurd (m4_3 hc) eN
      subst n4;clear hdep;rw[hρ];show opI _ _ _ false _ _;simp (disch:=omega) only[go_sem,seval,v6,v7,v8,w6,w7]
      repeat refine cP kN ?_
      refine ih true true true true false ?_ (fun h=>by cases h) (fun _=>rfl) (fun _=>rfl) (fun _=>rfl) (fun h=>by cases h) (fun h=>by cases h) (fun h=>by cases h) (fun _=>rfl) _ ?_
      ·simp only[cB,gR,fI] at hm ⊢;omega
      simp (disch:=omega) only[go_sem,seval,v6,v7,v8,w6,w7]<;>first|rfl|simp
     |4,_=>
      obtain rfl:b4=false:=hun;obtain rfl:=dO hoQ;have e0:b0=true:=by first|(refine hdep ⟨0,.data⟩ ?_ rfl;simp;done)|(refine hdep ⟨0,.phase⟩ ?_ rfl;simp;done)|(refine hdep ⟨0,.chain⟩ ?_ rfl;simp;done)
      have e1:b1=true:=by first|(refine hdep ⟨1,.data⟩ ?_ rfl;simp;done)|(refine hdep ⟨1,.phase⟩ ?_ rfl;simp;done)|(refine hdep ⟨1,.chain⟩ ?_ rfl;simp;done)
      have e2:b2=true:=by first|(refine hdep ⟨2,.data⟩ ?_ rfl;simp;done)|(refine hdep ⟨2,.phase⟩ ?_ rfl;simp;done)|(refine hdep ⟨2,.chain⟩ ?_ rfl;simp;done)
      have e3:b3=true:=by first|(refine hdep ⟨3,.data⟩ ?_ rfl;simp;done)|(refine hdep ⟨3,.phase⟩ ?_ rfl;simp;done)|(refine hdep ⟨3,.chain⟩ ?_ rfl;simp;done)
      subst e0 e1 e2 e3;clear hdep;rw[hρ];show opI _ _ _ false _ _;simp (disch:=omega) only[go_sem,seval,v6,v7,v8,w6,w7]
      repeat refine cP kN ?_
      refine ih true true true true true ?_ (fun _=>rfl) (fun _=>rfl) (fun _=>rfl) (fun _=>rfl) (fun _=>rfl) (fun _=>rfl) (fun _=>rfl) (fun _=>rfl) _ ?_
      ·simp only[cB,gR,fI] at hm ⊢;omega
      simp (disch:=omega) only[go_sem,seval,v6,v7,v8,w6,w7]<;>first|rfl|simp
   refine main 5 false false false false false rfl (fun h=>by cases h) (fun h=>by cases h) (fun h=>by cases h) (fun h=>by cases h) (fun h=>by cases h) (fun h=>by cases h) (fun h=>by cases h) (fun h=>by cases h) _ ?_;simp (disch:=omega) only[go_sem,seval,v6,v7,v8,w6,w7]<;>first|rfl|simp
  intro O2 h6 h7 h8;have r6:bS O2 100006=.bx (bO p.1):=by rw[show (100006:Nat)=6+100000 from rfl,cI,h6];rfl
  have r7:bS O2 100007=.bx [vi p.2]:=by rw[show (100007:Nat)=7+100000 from rfl,cI,h7];rfl
  have r8:bS O2 100008=.bx [vb true]:=by rw[show (100008:Nat)=8+100000 from rfl,cI,h8];rfl
  refine cS [0,1,2] bF ?_;simp (disch:=omega) only[go_sem,seval,seval,r6,r7,r8]
  repeat refine cP kN ?_
  intro s;unfold aJk;rw[aK,aK,aK];split
  ·rfl
  split
  ·rfl
  split
  ·rfl
  exact cI _ _
end
end
abbrev rgF (h:Hd) (F:List aY):Rg:=.row h 141 2 (F.map bO)
abbrev rgN (h:Hd) (G:List Int):Rg:=.row h 3 1 (G.map eI)
abbrev rgE (h:Hd) (P:List fH):Rg:=.row h 89 2 (P.map fM)
def flX (r:bL) (hF hG hP:Hd) (a b c:Nat):List DV:=[vs r.xAq,vi r.xBh,vi r.xBd,fJ r.xAf,qU r.xAk,d5 r.xAe,vi r.xBg,vi r.xAn,fJ r.xAl,qU r.xAs,d5 r.xAr,hF.sl a,hG.sl b,hP.sl c]
section
variable (r:bL) (hF hG hP h:Hd) (a b c n:Nat)
theorem bAf:(((bK r).set 11 (.v (.slice none 0 0))).set 12 (.v (.slice none 0 0))).set 13 (.v (.slice none 0 0))=flX r mJ mJ mJ 0 0 0:=rfl
theorem aTz:kT (fun x=>x+100000) (flX r hF hG hP a b c)=flX r hF hG hP a b c:=rfl
theorem aSm:(flX r hF hG hP a b c).length=14:=rfl
theorem aLl:(flX r hF hG hP a b c).take 14=flX r hF hG hP a b c:=rfl
theorem aUv (p:Nat→Bool):d6 p (flX r hF hG hP a b c)=true:=rfl
theorem bAb:(flX r hF hG hP a b c).getD 11 .any=hF.sl a:=rfl
theorem bDq:(flX r hF hG hP a b c).getD 12 .any=hG.sl b:=rfl
theorem bAt:(flX r hF hG hP a b c).getD 13 .any=hP.sl c:=rfl
theorem bCs:(flX r hF hG hP a b c).set 11 (h.sl n)=flX r h hG hP n b c:=rfl
theorem bDc:(flX r hF hG hP a b c).set 12 (h.sl n)=flX r hF h hP a n c:=rfl
theorem aZv:(flX r hF hG hP a b c).set 13 (h.sl n)=flX r hF hG h a b n:=rfl
theorem aSz (d1 d2 d3:DV):(((flX r hF hG hP a b c).set 11 d1).set 12 d2).set 13 d3=[vs r.xAq,vi r.xBh,vi r.xBd,fJ r.xAf,qU r.xAk,d5 r.xAe,vi r.xBg,vi r.xAn,fJ r.xAl,qU r.xAs,d5 r.xAr,d1,d2,d3]:=rfl
theorem bOs:(bK r).set 3 (fJ r.xAf)=bK r:=rfl
theorem bNt:(bK r).set 4 (qU r.xAk)=bK r:=rfl
theorem bNd:(bK r).set 5 (d5 r.xAe)=bK r:=rfl
theorem bVe:(bK r).set 8 (fJ r.xAl)=bK r:=rfl
theorem bRu:(bK r).set 9 (qU r.xAs)=bK r:=rfl
theorem aZz:(bK r).set 10 (d5 r.xAr)=bK r:=rfl
theorem cFz {rs:List Rg} {F:List aY} {G:List Int} {P:List fH} (h1:rgF hF F∈rs) (h2:rgN hG G∈rs) (h3:rgE hP P∈rs):Lnd rs (.agg (flX r hF hG hP F.length G.length P.length)) (.agg (bK (wFG r F G P))):=
 aJx.toAgg (.cons (.pure _ rfl) (.cons (.pure _ rfl) (.cons (.pure _ rfl) (.cons (.pure _ rfl) (.cons (.pure _ rfl) (.cons (.pure _ rfl) (.cons (.pure _ rfl) (.cons (.pure _ rfl) (.cons (.pure _ rfl) (.cons (.pure _ rfl) (.cons (.pure _ rfl) (.cons (.row h1 dH (eK.frzL bO F)) (.cons (.row h2 dH (eK.frzL eI G)) (.cons (.row h3 dH (eK.frzL fM P)) .nil))))))))))))))
end
theorem cMz (s:aY):PlV (.agg (bO s)):=.agg fun d hd=>by
 simp only[bO,gN,aHu,or_false] at hd;rcases hd with rfl|rfl<;>exact .v _
theorem cRs (s:aY) (g:Int) (b:Bool):PlV (.tup [.agg (bO s),vi g,vb b]):=.tup fun d hd=>by
 simp only[gN,aHu,or_false] at hd;rcases hd with rfl|rfl|rfl
 ·exact cMz s
 ·exact .v _
 exact .v _
theorem aKe {l:aC} {r:bL} {A B:List fH} {j:Nat} (hj:j<B.length) {st:FS} (h:st=flF l r (A++B.take j)):flF l r (A++B.take (j+1))=flA l r st (B.getD j default):=by rw[kX default hj,← tB,bFa,← h]
theorem bNh {α β:Type} (f:α→β) (l:List α):(l.map f).take l.length=l.map f:=by rw[← List.map_take,iL]
theorem bJj {α β:Type} (f:α→β) (a b:List α):((a++b).map f).take a.length=a.map f:=by rw[← List.map_take,List.take_left]
def bSv:Go.Shelf.Ren:=⟨fun|4=>148|n=>n,fun|22=>65|25=>87|n=>n,fun|n=>n⟩
theorem aQa:Go.Proofs.Lays8.n4 Tryz.prog bSv:={
 mixed:=by kernel_rfl
 f4:=⟨Tryz.f148.name,by decide,Tryz.func148.trans (congrArg some bF)⟩
 t0:=Tryz.underlying0
 a0:=Tryz.isAgg0
 z0:=Tryz.sizeOf0
 v0:=Tryz.zeroValue0
 t3:=Tryz.underlying3
 a3:=Tryz.isAgg3
 z3:=Tryz.sizeOf3
 v3:=Tryz.zeroValue3
 t4:=Tryz.underlying4
 a4:=Tryz.isAgg4
 z4:=Tryz.sizeOf4
 v4:=Tryz.zeroValue4
 t9:=Tryz.underlying9
 a9:=Tryz.isAgg9
 z9:=Tryz.sizeOf9
 v9:=Tryz.zeroValue9
 t20:=Tryz.underlying20
 a20:=Tryz.isAgg20
 z20:=Tryz.sizeOf20
 v20:=Tryz.zeroValue20
 t22:=Tryz.underlying65
 a22:=Tryz.isAgg65
 z22:=Tryz.sizeOf65
 v22:=Tryz.zeroValue65}
theorem aAo (O:aN) (n:Nat) (hn:0<n) (hb:n≤1000000):aZ Tryz.prog O 148 [.v (.slice none 0 0),vi n] (rowL 87 3 cV []):=
 aCj aQa rfl rfl (show nE Tryz.prog 65=some (87,3,24) by kernel_rfl) (show eW Tryz.prog 87=some [.int .i64 0,.int .i64 0,.int .i64 0] by kernel_rfl) eN rfl rfl O n hn aV aV
theorem aCo (O:aN) (n:Nat) (hb:n≤1000000):aZ Tryz.prog O 148 [.v (.slice none 0 0),vi n] (rowL 87 3 cV []):=by
 rcases nL n with h|h
 ·subst h;exact zH aQa rfl rfl O 87 3
 exact aAo O n h hb
abbrev aPx (ls:List (List bJ)):DV:=encL 1 (fun l=>[fJ l]) ls
section
attribute [local go_sem] or_self iP aSz bAf aTz aSm aLl aUv bAb bDq bAt bCs bDc aZv bOs bNt bNd bVe bRu aZz uJ
theorem zO (O:aN) (ls:List (List bJ)) (hb:ls.flatten.length≤100000):aZ Tryz.prog O 100 [aPx ls] (yR ls.flatten):=by
 refine bG 0 rfl (.sl _ _ _) fun hl=>?_;refine eV Tryz.func100 ?_;refine aB [0] ?_;refine aB [0] ?_;refine aA fun _ Z2=>aB [0,3] ?_;refine aI (aX [0,3,9,10,11] (fun n ρ=> ∃i,∃s,n=ls.length-i∧(i≤ls.length)∧(s+(ls.drop i).flatten.length=ls.flatten.length)∧ρ=dU O [(0,aPx ls),(3,vi (s:Nat)),(9,aPx ls),(10,vi (ls.length:Nat)),(11,vi (i:Nat))]) _ ⟨0,0,rfl,?_,?_,?_⟩ ?_)
 ·exact bD
 ·simp
 ·exact dT
 rintro n ρ ⟨i,s,rfl,l0_0,l0_1,rfl⟩ _ Z4;refine aB [0,3,9,10,11] ?_;refine aA fun _ Z6=>aO (fun c0=>?_) fun c0=>?_
 ·refine aD (Z6 _ (aA fun _ Z7=>aI (aB [0,3,9,10,11] ?_)));refine aA fun _ Z9=>?_;have hs:s+(ls.getD i default).length+(ls.drop (i+1)).flatten.length=ls.flatten.length:=by rw[← l0_1,dL default c0,List.flatten_cons,fP];omega
  refine bE [0,3,5,9,10,11,13] ?_;refine Z9 _ (aB [0,3,9,10,11] ?_);refine aO (fun c1=>?_) fun c1=>?_
  ·omega
  refine aD (Z7 _ (bE [0,3,9,10,11] ?_));refine Z4 _ _ bD ⟨i+1,s+(ls.getD i default).length,rfl,bD,?_,dT⟩
  ·exact hs
 refine bA (Z2 _ (aA fun _ Z11=>bN [0,3] ?_));refine f9 (aCo _ s aV) ?_;refine Z11 _ (aA fun _ Z12=>aB [0,6] ?_);refine aI (aX [6,25,26,27] (fun n ρ=> ∃j,∃out,n=ls.length-j∧(j≤ls.length)∧(out++(ls.drop j).flatten=ls.flatten)∧ρ=dU O [(6,yR out),(25,aPx ls),(26,vi (ls.length:Nat)),(27,vi (j:Nat))]) _ ⟨0,[],rfl,?_,?_,?_⟩ ?_)
 ·exact bD
 ·rfl
 ·exact dT
 rintro n ρ ⟨j,out,rfl,l1_0,l1_1,rfl⟩ _ Z14;refine aB [0,6,25,26,27] ?_;refine aA fun _ Z16=>aO (fun c2=>?_) fun c2=>?_
 ·refine aD (Z16 _ (aA fun _ Z17=>aI (aB [0,6,25,26,27] ?_)));have hs:(out++ls.getD j default).length≤ls.flatten.length:=by rw[← l1_1,dL default c2,List.flatten_cons,fP,fP,fP];omega
  rw[fP] at hs;refine bE [0,6,8,25,26,27,29] ?_;refine Z17 _ (bE [0,6,25,26,27] ?_);refine Z14 _ _ bD ⟨j+1,out++ls.getD j default,rfl,bD,?_,dT⟩
  ·rw[← l1_1,dL default c2,List.flatten_cons,tB]
 refine bA (Z12 _ (aB [6] ?_));refine aL (dN 2 ?_);exact dX.ownL rfl aV rfl rfl (by rw[← l1_1,iW c2];simp)
end
section
attribute [local go_sem] or_self iP aSz bAf aTz aSm aLl aUv bAb bDq bAt bCs bDc aZv bOs bNt bNd bVe bRu aZz
theorem aJr (O:aN) (x y:aY):aZ Tryz.prog O 103 [.agg (bO x),.agg (bO y)] (vi (stC x y)):=by
 refine eV Tryz.func103 ?_;refine aB [0,1] ?_;refine aA fun _ Z1=>gJ [2,3] [] ?_;refine cdz (mE _ x.fEl y.fEl) ?_;refine cdz (mE _ x.xAo y.xAo) ?_;refine cdz (jB [d5 [tW x.fEl y.fEl,tW x.xAo y.xAo]] (.cons (eK.litL [tW x.fEl y.fEl,tW x.xAo y.xAo] rfl rfl) .nil) (aBc _ [tW x.fEl y.fEl,tW x.xAo y.xAo])) ?_;refine Z1 _ (aL (dN 4 ?_));exact dX.is (by ((try simp only[go_sem,seval]);try simp (disch:=omega) only[go_sem,seval])<;>(rfl)) rfl rfl
end
theorem cSe (O:aN) (s:Nat) (l:List aY) (hs:O s=aCy l) (hb:l.length≤100000):iC Tryz.prog O 78 [.own s l.length,.fn 103 [] []] fun O' x=>O'=set O s (aCy (msS l))∧x=.tup []:=
 aHr (enc:=fun x=>[.int .i64 x.fEl,.int .i64 x.xAo]) (cf:=stC) (fun _=>rfl) (fun _=>rfl) eN (fun x v hv=>by simp at hv;rcases hv with rfl|rfl<;>rfl) hs (sP l)
  (fun _ b c w=>AnyF.slices_SortFunc_none Tryz.sort78 b c _ w)
  (fun w blk c hH hblk hc=>by
   have:=AnyQ.slices_SortFunc_total Tryz.sort78 2 Tryz.isAgg141 Tryz.sizeOf141 (fun x:aY=>[.int .i64 x.fEl,.int .i64 x.xAo]) (fun _=>rfl) (fun x v hv=>by simp at hv;rcases hv with rfl|rfl<;>rfl) stC cSz 103 #[] blk 0 c l.toArray w
    (enters_of Tryz.func103 bF rfl) (by simpa using hc) hH hblk (by simp;omega) (fun x y h k=>by rw[aNu] at h k;exact aSe h k)
   rw[aNu] at this
   change Calls Tryz.prog 78 _ _ _ at this
   simpa[msS] using this)
  (fun x y=>aJr _ x y)
section
attribute [local go_sem] or_self iP aSz bAf aTz aSm aLl aUv bAb bDq bAt bCs bDc aZv bOs bNt bNd bVe bRu aZz cJ bNh bJj
set_option maxRecDepth 20000 in
theorem aPl (O:aN) (l:aC) (r:bL) (hv:Vld l) (hJ:(jR l.xAd).Nodup) (hnd:((r.xAf++r.xAl).map (·.fEl)).Nodup) (hr:Rtk r):aZ Tryz.prog O 57 [.agg (aQ l),.agg (bK r)] (.agg (bK (aJv l r))):=by
 have hl:=hv.few;have hr1:=hr.pa;have hr2:=hr.po;have hr3:=hr.se;have hr4:=hr.ov;have hr5:=hr.op;have hr6:=hr.os;have hfl2:[r.xAf,r.xAl].flatten=(r.xAf++r.xAl):=by simp
 have hql:(r.xAf++r.xAl).length≤200:=by rw[fP];omega
 refine iT Tryz.func57 rfl bF fun w0 I0 A0=>?_;have hF:=pS w0 I0 (cG A0) (GOf []);refine bI hF [0,1] ?_;refine aW fun _ Z1=>gI hF [2,3,4] ?_;refine f9 (dA (jQ _ r.xAf aV)) ?_;refine Z1 _ _ (aW fun _ Z2=>gI hF [2,3,4] ?_);refine f9 (dA (jT _ r.xAk aV)) ?_;refine Z2 _ _ (aW fun _ Z3=>gI hF [2,3,4] ?_);refine f9 (dA (l9 _ r.xAe aV)) ?_;refine Z3 _ _ (aW fun _ Z4=>gI hF [2,3,4] ?_);refine f9 (dA (jQ _ r.xAl aV)) ?_;refine Z4 _ _ (aW fun _ Z5=>gI hF [2,3,4] ?_);refine f9 (dA (jT _ r.xAs aV)) ?_;refine Z5 _ _ (aW fun _ Z6=>gI hF [2,3,4] ?_);refine f9 (dA (l9 _ r.xAr aV)) ?_;refine Z6 _ _ (bI hF [2,3,4] ?_);refine aW fun _ Z8=>aW fun _ Z9=>gI hF [2,3,4] ?_;refine f9 (jB [aPx [r.xAf,r.xAl]] (.cons (eK.litL [r.xAf,r.xAl] rfl rfl) .nil) (dA (by rw[← hfl2];exact zO _ [r.xAf,r.xAl] (by rw[hfl2];omega)):aZ Tryz.prog _ 100 [aPx [r.xAf,r.xAl]] (fJ (r.xAf++r.xAl)))) ?_;refine Z9 _ _ (bZ (kF [] [] 89 2 rfl ?_));refine kF [] [_] 3 1 rfl ?_;refine kF [] [_,_] 141 2 rfl ?_;refine eY [4,2,3,44,45,46] (fun n sF ρ=> ∃i,∃aF,∃aG,∃aP,∃st,n=(r.xAf++r.xAl).length-i∧sF=[rgF aF st.1,rgN aG st.2.1,rgE aP st.2.2]∧(i≤(r.xAf++r.xAl).length)∧(st=flF l r (qB l ((r.xAf++r.xAl).take i)))∧ρ=dU O [(4,.bx [vs ⟨#[]⟩,vi 0,vi 0,.v (.slice none 0 0),.v (.slice none 0 0),.v (.slice none 0 0),vi 0,vi 0,.v (.slice none 0 0),.v (.slice none 0 0),.v (.slice none 0 0),.v (.slice none 0 0),.v (.slice none 0 0),.v (.slice none 0 0)]),(2,.bx (aQ l)),(3,.bx (flX r aF aG aP st.1.length st.2.1.length st.2.2.length)),(44,fJ (r.xAf++r.xAl)),(45,vi ((r.xAf++r.xAl).length:Nat)),(46,vi (i:Nat))]) _ ⟨0,mJ,mJ,mJ,([],[],[]),rfl,rfl,?_,?_,?_⟩ ?_
 ·exact bD
 ·rfl
 ·exact dT
 rintro n sF ρ ⟨i,aF,aG,aP,st,rfl,rfl,l0_0,l0_1,rfl⟩ _ Z10;have hbw:=bQt l ((r.xAf++r.xAl).take i);have htk:=aBu i (r.xAf++r.xAl);have hbx:=bHb l ((r.xAf++r.xAl).getD i default);have hfl:=aTg l r (qB l ((r.xAf++r.xAl).take i));refine bI hF [2,3,4,44,45,46] ?_;refine aW fun _ Z12=>cQ (fun c0=>?_) fun c0=>?_
 ·refine bU (Z12 _ _ (aW fun _ Z13=>bZ (bI hF [2,3,4,44,45,46] ?_)));refine aW fun _ Z15=>gI hF [2,3,4,6,44,45,46] ?_;refine f9 (aJn _ l ((r.xAf++r.xAl).getD i default) hl) ?_;refine Z15 _ _ (bZ (eY [4,2,3,44,45,46,52,53,54] (fun n sF ρ=> ∃j,∃aF,∃aG,∃aP,∃st,n=(nC l ((r.xAf++r.xAl).getD i default)).length-j∧sF=[rgF aF st.1,rgN aG st.2.1,rgE aP st.2.2]∧(j≤(nC l ((r.xAf++r.xAl).getD i default)).length)∧(st=flF l r (qB l ((r.xAf++r.xAl).take i)++(nC l ((r.xAf++r.xAl).getD i default)).take j))∧ρ=dU O [(4,.bx [vs ⟨#[]⟩,vi 0,vi 0,.v (.slice none 0 0),.v (.slice none 0 0),.v (.slice none 0 0),vi 0,vi 0,.v (.slice none 0 0),.v (.slice none 0 0),.v (.slice none 0 0),.v (.slice none 0 0),.v (.slice none 0 0),.v (.slice none 0 0)]),(2,.bx (aQ l)),(3,.bx (flX r aF aG aP st.1.length st.2.1.length st.2.2.length)),(44,fJ (r.xAf++r.xAl)),(45,vi ((r.xAf++r.xAl).length:Nat)),(46,vi (i:Nat)),(52,bRd (nC l ((r.xAf++r.xAl).getD i default))),(53,vi ((nC l ((r.xAf++r.xAl).getD i default)).length:Nat)),(54,vi (j:Nat))]) _ ⟨0,aF,aG,aP,st,rfl,rfl,?_,?_,?_⟩ ?_))
  ·exact bD
  ·(rw[List.take_zero,kZ];exact l0_1)
  ·exact dT
  rintro n sF ρ ⟨j,aF,aG,aP,st,rfl,rfl,l1_0,l1_1,rfl⟩ _ Z16;have hfj:=aTg l r (qB l ((r.xAf++r.xAl).take i)++(nC l ((r.xAf++r.xAl).getD i default)).take j);have htj:=aBu j (nC l ((r.xAf++r.xAl).getD i default));rw[← l1_1,fP] at hfj;refine bI hF [2,3,4,44,45,46,52,53,54] ?_;refine aW fun _ Z18=>cQ (fun c1=>?_) fun c1=>?_
  ·refine bU (Z18 _ _ (aW fun _ Z19=>bZ (bI hF [2,3,4,44,45,46,52,53,54] ?_)));refine aW fun _ Z21=>cC (Le.keepC [2,3,4,8,44,45,46,52,53,54] _) ?_;refine cU ?_;refine ef hF ?_;refine ef hF ?_;refine ef hF ?_;show lW _ _ _ _ _ _ _ _;refine bKf (al:=[.agg (aQ l),.agg (bK (wFG r st.1 st.2.1 st.2.2)),.agg (fM ((nC l ((r.xAf++r.xAl).getD i default)).getD j default))]) rfl rfl rfl eN bF sz sz sr bF (.cons (.pure _ rfl) (.cons (cFz r aF aG aP dH dH dH) (.cons (.pure _ rfl) .nil))) (show aZ Tryz.prog _ 102 _ (.tup [.agg (bO (sch l r st ((nC l ((r.xAf++r.xAl).getD i default)).getD j default)).1),vi (sch l r st ((nC l ((r.xAf++r.xAl).getD i default)).getD j default)).2.1,vb (sch l r st ((nC l ((r.xAf++r.xAl).getD i default)).getD j default)).2.2]) from aJu _ l (wFG r st.1 st.2.1 st.2.2) ((nC l ((r.xAf++r.xAl).getD i default)).getD j default) hl) rfl (cRs _ _ _) ?_
   try ((try simp only[go_sem,seval]);try simp (disch:=omega) only[go_sem,seval])
   refine ef hF ?_;refine ef hF ?_;refine ef hF ?_;refine ef hF ?_;refine ef hF ?_;refine ef hF ?_;refine ef hF ?_;refine ef hF ?_;refine Z21 _ _ (bZ (bI hF [2,3,4,8,9,10,11,44,45,46,52,53,54] ?_));refine cQ (fun c2=>?_) fun c2=>?_
   ·refine cC (Le.keepC [2,3,4,8,44,45,46,52,53,54] _) ?_;refine cU ?_;refine ef hF ?_;refine ef hF ?_;refine ef hF ?_;refine ef hF ?_;show lW _ _ _ _ _ _ _ _;refine iI (s1:=[rgF aF st.1,rgN aG st.2.1]) (s2:=[]) 70 eN sr rfl ?_;refine ef hF ?_;show lW _ _ _ _ _ _ _ _;refine nV (s1:=[rgF aF st.1,rgN aG st.2.1]) (s2:=[]) (l:=(st.2.2++[((nC l ((r.xAf++r.xAl).getD i default)).getD j default)]).map fM) 73 eN (by ((try simp only[go_sem,seval]);try simp (disch:=omega) only[go_sem,seval])<;>(first|rfl|(simp;done)|(simp;rfl))) rfl (fun h2=>?_);refine ef hF ?_;refine ef hF ?_;refine Z19 _ _ (eO hF [2,3,4,44,45,46,52,53,54] ?_);refine Z16 _ _ _ bD ⟨j+1,aF,aG,h2,(st.1,st.2.1,st.2.2++[((nC l ((r.xAf++r.xAl).getD i default)).getD j default)]),rfl,rfl,bD,?_,dT⟩
    ·(rw[aKe c1 l1_1];unfold flA;rw[if_pos (by simpa using c2)])
   refine bI hF [2,3,4,9,10,44,45,46,52,53,54] ?_;refine cQ (fun c3=>?_) fun c3=>?_
   ·refine cC (Le.keepC [2,3,4,10,44,45,46,52,53,54] _) ?_;refine cU ?_;refine ef hF ?_;refine ef hF ?_;refine ef hF ?_;refine ef hF ?_;show lW _ _ _ _ _ _ _ _;refine iI (s1:=[rgF aF st.1]) (s2:=[rgE aP st.2.2]) 79 eN sr rfl ?_;refine ef hF ?_;show lW _ _ _ _ _ _ _ _;refine nV (s1:=[rgF aF st.1]) (s2:=[rgE aP st.2.2]) (l:=(st.2.1++[(sch l r st ((nC l ((r.xAf++r.xAl).getD i default)).getD j default)).2.1]).map eI) 82 eN (by ((try simp only[go_sem,seval]);try simp (disch:=omega) only[go_sem,seval])<;>(first|rfl|(simp;done)|(simp;rfl))) rfl (fun h2=>?_);refine ef hF ?_;refine ef hF ?_;refine Z19 _ _ (eO hF [2,3,4,44,45,46,52,53,54] ?_);refine Z16 _ _ _ bD ⟨j+1,aF,h2,aP,(st.1,st.2.1++[(sch l r st ((nC l ((r.xAf++r.xAl).getD i default)).getD j default)).2.1],st.2.2),rfl,rfl,bD,?_,dT⟩
    ·(rw[aKe c1 l1_1];unfold flA;rw[if_neg (by simpa using c2),if_pos (by simpa using c3)])
   refine bI hF [2,3,4,9,44,45,46,52,53,54] ?_;refine cQ (fun c4=>?_) fun c4=>?_
   ·refine cC (Le.keepC [2,3,4,9,44,45,46,52,53,54] _) ?_;refine cU ?_;refine ef hF ?_;refine ef hF ?_;refine ef hF ?_;refine ef hF ?_;show lW _ _ _ _ _ _ _ _;refine iI (s1:=[]) (s2:=[rgN aG st.2.1,rgE aP st.2.2]) 89 eN sr rfl ?_;refine ef hF ?_;show lW _ _ _ _ _ _ _ _;refine nV (s1:=[]) (s2:=[rgN aG st.2.1,rgE aP st.2.2]) (l:=(st.1++[(sch l r st ((nC l ((r.xAf++r.xAl).getD i default)).getD j default)).1]).map bO) 92 eN (by ((try simp only[go_sem,seval]);try simp (disch:=omega) only[go_sem,seval])<;>(first|rfl|(simp;done)|(simp;rfl))) rfl (fun h2=>?_);refine ef hF ?_;refine ef hF ?_;refine Z19 _ _ (eO hF [2,3,4,44,45,46,52,53,54] ?_);refine Z16 _ _ _ bD ⟨j+1,h2,aG,aP,(st.1++[(sch l r st ((nC l ((r.xAf++r.xAl).getD i default)).getD j default)).1],st.2.1,st.2.2),rfl,rfl,bD,?_,dT⟩
    ·(rw[aKe c1 l1_1];unfold flA;rw[if_neg (by simpa using c2),if_neg (by simpa using c3),if_pos (fun h=>by rw[h] at c4;simp at c4)])
   refine bU (Z19 _ _ (eO hF [2,3,4,44,45,46,52,53,54] ?_));refine Z16 _ _ _ bD ⟨j+1,aF,aG,aP,st,rfl,rfl,bD,?_,dT⟩
   ·(rw[aKe c1 l1_1];unfold flA;rw[if_neg (by simpa using c2),if_neg (by simpa using c3),if_neg (fun h=>h ((oZ _ _).2 (by simpa using c4)))])
  have hj2:(nC l ((r.xAf++r.xAl).getD i default)).length≤j:=aV;refine fV (Z13 _ _ (eO hF [2,3,4,44,45,46] ?_));refine Z10 _ _ _ bD ⟨i+1,aF,aG,aP,st,rfl,rfl,bD,?_,dT⟩
  ·(rw[cFg l c0];rw[jD hj2] at l1_1;exact l1_1)
 refine fV (Z8 _ _ (aW fun _ Z25=>?_));obtain rfl:i=(r.xAf++r.xAl).length:=aV;rw[iL] at l0_1 hfl hbw;rw[← l0_1] at hfl;have hlaw:=bEz hv hJ hnd;rw[← l0_1] at hlaw;have hnb:aXh (msS st.1):=bMc hlaw.1;have hml:=sP st.1;refine cC (Le.keepC [3,4] _) ?_;refine cU ?_;refine ef hF ?_;refine ef hF ?_;show lW _ _ _ _ _ _ _ _;refine aRa (s1:=[]) (s2:=[rgN aG st.2.1,rgE aP st.2.2]) (h0:=aF) (l:=st.1.map bO) 97 98 eN sr rfl rfl rfl rfl eN eN bF sz sz sr bF (cSe _ 97 st.1 sr aV) ?_;rintro O1 r1 ⟨rfl,rfl⟩;refine ⟨rfl,(msS st.1).map bO,by simp[sP],by ((try simp only[go_sem,seval]);try simp (disch:=omega) only[go_sem,seval])<;>rfl,?_⟩;refine lL ?_;refine Z25 _ _ (aW fun _ Z26=>cC (Le.keepC [3,4] _) ?_);refine cU ?_;refine ef hF ?_;refine ef hF ?_;show lW _ _ _ _ _ _ _ _;refine aRo (s1:=[]) (s2:=[rgN aG st.2.1,rgE aP st.2.2]) (h0:=aF) (l:=(msS st.1).map bO) 100 101 eN (by ((try simp only[go_sem,seval]);try simp (disch:=omega) only[go_sem,seval])<;>first|rfl|(simp[sP,srt];done)) rfl rfl rfl rfl eN eN bF sz sz sr bF (oD _ (msS st.1) 100 sr aV hnb) ?_;rintro O1 r1 ⟨rfl,rfl⟩;refine ⟨_,(msS st.1).map bO,rfl,by first|(simp;done)|(have:=mkI st.2.1;simp;omega),by ((try simp only[go_sem,seval]);try simp (disch:=omega) only[go_sem,seval])<;>rfl,fun h2=>?_⟩
 try ((try simp only[go_sem,seval]);try simp (disch:=omega) only[go_sem,seval])
 refine ef hF ?_;refine ef hF ?_;refine Z26 _ _ (aW fun _ Z27=>cC (Le.keepC [3,4] _) ?_);refine cU ?_;refine ef hF ?_;refine ef hF ?_;show lW _ _ _ _ _ _ _ _;refine aRa (s1:=[rgF h2 (msS st.1)]) (s2:=[rgE aP st.2.2]) (h0:=aG) (l:=st.2.1.map eI) 104 105 eN sr rfl rfl rfl rfl eN eN bF sz sz sr bF (aCd (s:=104) (l:=st.2.1) sr Tryz.slices_Sort_int_none (fun blk off cap zs w h1 h2 h3=>Tryz.slices_Sort_int blk off cap zs w h1 h2 h3) aV) ?_;rintro O1 r1 ⟨rfl,rfl⟩;refine ⟨rfl,(srt st.2.1).map eI,by simp[sP],by ((try simp only[go_sem,seval]);try simp (disch:=omega) only[go_sem,seval])<;>rfl,?_⟩;refine lL ?_;refine Z27 _ _ (aW fun _ Z28=>cC (Le.keepC [3,4] _) ?_);refine cU ?_;refine ef hF ?_;refine ef hF ?_;show lW _ _ _ _ _ _ _ _;refine aRo (s1:=[rgF h2 (msS st.1)]) (s2:=[rgE aP st.2.2]) (h0:=aG) (l:=(srt st.2.1).map eI) 107 108 eN (by ((try simp only[go_sem,seval]);try simp (disch:=omega) only[go_sem,seval])<;>first|rfl|(simp[sP,srt];done)) rfl rfl rfl rfl eN eN bF sz sz sr bF (aBg (s:=107) (l:=srt st.2.1) sr Tryz.slices_Compact_int_empty (fun blk off cap zs w h1 h2 h3=>Tryz.slices_Compact_int blk off cap zs w h1 h2 h3) (Lib.compact_length_le _)) ?_;rintro O1 r1 ⟨rfl,rfl⟩;refine ⟨_,(Lib.compact (srt st.2.1)++List.replicate ((srt st.2.1).length-(Lib.compact (srt st.2.1)).length) 0).map eI,rfl,by first|(simp;done)|(have:=mkI st.2.1;simp;omega),by ((try simp only[go_sem,seval]);try simp (disch:=omega) only[go_sem,seval])<;>rfl,fun h3=>?_⟩
 try ((try simp only[go_sem,seval]);try simp (disch:=omega) only[go_sem,seval])
 refine ef hF ?_;refine ef hF ?_;refine Z28 _ _ (aW fun _ Z29=>?_);refine gL (s1:=[]) (s2:=[rgN h3 (mk st.2.1),rgE aP st.2.2]) 3 11 sf (by first|rfl|(rw[cJ];rfl)) rfl (eK.frzL bO (msS st.1)) rfl ?_;refine gL (s1:=[]) (s2:=[rgE aP st.2.2]) 3 12 sf (by first|rfl|(rw[cJ];rfl)) rfl (eK.frzL eI (mk st.2.1)) rfl ?_;refine gL (s1:=[]) (s2:=[]) 3 13 sf (by first|rfl|(rw[cJ];rfl)) rfl (eK.frzL fM (st.2.2)) rfl ?_;have hfk:aJv l r=wFG r (msS st.1) (mk st.2.1) st.2.2:=by unfold aJv;rw[← l0_1,bSo hnb];show _=wFG r _ (mk st.2.1) _;rw[show mk st.2.1=mkR st.2.1 from bCz (cSy _) (bDd _) fun x=>by rw[cIv,aTd]]
 refine eO hF [3,4] ?_;refine Z29 _ _ (dV ?_)
 (try simp only[fQ,d8]);rw[hfk];refine nM 4 157 rfl sz sr bF (by rfl)
end
abbrev rgR (h:Hd) (R:List bL):Rg:=.row h 157 14 (R.map bK)
def tbX (l:aC) (a b c:DV):List DV:=[a,b,c,vi (l.xAe.length:Nat),vi (l.xAa.length:Nat)]
section
variable (l:aC) (a b c d:DV) (h:Hd) (n:Nat)
theorem cCj:(tbX l a b c).length=5:=rfl
theorem bQl:(tbX l a b c).take 5=tbX l a b c:=rfl
theorem cKp:(tbX l a b c).getD 0 .any=a:=rfl
theorem cKn:(tbX l a b c).getD 1 .any=b:=rfl
theorem cKb:(tbX l a b c).getD 2 .any=c:=rfl
theorem bTu:(tbX l a b c).set 0 d=tbX l d b c:=rfl
theorem bSt:(tbX l a b c).set 1 d=tbX l a d c:=rfl
theorem bPe:(tbX l a b c).set 2 d=tbX l a b d:=rfl
end
theorem cCs {l:aC} {a b c:DV} (ha:yF (fun x=>x+100000) a=a) (hb:yF (fun x=>x+100000) b=b) (hc:yF (fun x=>x+100000) c=c):kT (fun x=>x+100000) (tbX l a b c)=tbX l a b c:=by
 unfold tbX;simp only[kT,ha,hb,hc];rfl
theorem bZf {l:aC} {a b c:DV} (p:Nat→Bool):d6 p (tbX l a b c)=(fL p a&&(fL p b&&fL p c)):=by
 unfold tbX;simp[d6,fL]
theorem bGc (l:aC):(kB l).length≤l.xAh.length:=aEl l _
section
attribute [local go_sem] or_self iP cJ cCj bQl cKp cKn cKb bTu bSt bPe cCs bZf
set_option maxRecDepth 20000 in
theorem zU (O:aN) (l:aC) (hl:gO l):aZ Tryz.prog O 23 [.agg (aQ l)] (.tup [.agg (dQ (u5 l)),vi (iH l (gK gP l)).2]):=by
 have hl4:=hl.sg;have hl5:=hl.el;have hl6:=hl.sec;have hal:=aKn l;have hpt:=bGc l;refine iT Tryz.func23 rfl bF fun w0 I0 A0=>?_;have hF:=pS w0 I0 (cG A0) (GOf []);refine bI hF [0] ?_;refine aW fun _ Z1=>gI hF [1,2] ?_;refine f9 (aTw _ l (gK gP l) hl (fun hc O i hi=>aPa O l i hi hl (qR hc).2.1 (cFs hc) (bXy (aTb hl hc).1)) (bRq l)) ?_;refine Z1 _ _ (aW fun _ Z2=>bI hF [1,2,4,5,11,13] ?_);refine cQ (fun c0=>?_) fun c0=>?_
 ·have her: ¬(iH l (gK gP l)).2=0:=(by simpa using c0);refine bI hF [2,5] ?_;refine vJ 2 (ds:=dQ ⟨[],[],[],0,0⟩) rfl sf (.cons (eK.nilL _) (.cons (eK.nilL _) (.cons (eK.nilL _) (.cons (eK.refl _) (.cons (eK.refl _) .nil))))) ?_;refine dV ?_
  (try simp only[fQ,d8]);rw[cRq her];refine sO rfl sz (.cons (roC sr sr bF (by first|rfl|(((try simp only[go_sem,seval]);try simp (disch:=omega) only[go_sem,seval])))) (.cons (vU sr rfl rfl) .nil))
 have her:(iH l (gK gP l)).2=0:=(by simpa using c0);have hck:=aAl her;have hes:=(qR hck).2.1;obtain ⟨hv,hJ⟩:=aTb hl hck;refine bU (Z2 _ _ (bI hF [1,2,4,11,13] ?_));refine aW fun _ Z6=>bI hF [1,2,4,6,11,13] ?_;refine bZ (kF [] [] 157 14 rfl ?_);refine eY [1,2,6,27,28,29] (fun n sF ρ=> ∃i,∃aR,∃R,n=(iH l (gK gP l)).1.length-i∧sF=[rgR aR R]∧(i≤(iH l (gK gP l)).1.length)∧(R=((iH l (gK gP l)).1.take i).map (uZ l))∧ρ=dU O [(1,.bx (aQ l)),(2,.bx [.v (.slice none 0 0),.v (.slice none 0 0),.v (.slice none 0 0),vi 0,vi 0]),(6,.bx (tbX l (aR.sl R.length) (.v (.slice none 0 0)) (.v (.slice none 0 0)))),(27,pW (iH l (gK gP l)).1),(28,vi ((iH l (gK gP l)).1.length:Nat)),(29,vi (i:Nat))]) _ ⟨0,mJ,[],rfl,rfl,?_,?_,?_⟩ ?_
 ·exact bD
 ·rfl
 ·exact dT
 rintro n sF ρ ⟨i,aR,R,rfl,rfl,l0_0,l0_1,rfl⟩ _ Z8;have hRl:R.length≤i:=by rw[l0_1,cJ];exact aBu _ _
 refine bI hF [1,2,4,6,11,13,27,28,29] ?_;refine aW fun _ Z10=>cQ (fun c1=>?_) fun c1=>?_
 ·have hok:=bEk (l:=l) (kI c1);have hrk:=hok.rtk;have hrO:=hok.rtkO;have hnd:=hok.nodup;refine bU (Z10 _ _ (aW fun _ Z11=>bZ (bI hF [1,2,4,6,11,13,27,28,29] ?_)));refine aCa 11 [1,2,4,6,8,11,13,27,28,29] [1,2,8,27,28,29,33,35,36,37,38,39,40,41,42,6,34] [[],[0],[],[],[],[3,4],[2,3,4,5],[2,3,4,5,6],[0,1,2,3,4,5,6,7],[0,1,2,3,4,5,6,7,8],[0,1,2,3,4,5,6,7,8,9]] [[1,8,10],[8,10],[8,10],[8,10],[8,10],[8,10],[8,10],[8,10],[10],[10],[]] (fun (hx:Hd) bQ=>dU O [(1,.bx (aQ l)),(2,.bx [.v (.slice none 0 0),.v (.slice none 0 0),.v (.slice none 0 0),vi 0,vi 0]),(8,.bx (bK ((iH l (gK gP l)).1.getD i default))),(27,pW (iH l (gK gP l)).1),(28,vi ((iH l (gK gP l)).1.length:Nat)),(29,vi (i:Nat)),(33,bC (bQ 0) (.bp 6 0)),(35,bC (bQ 2) (.agg (aQ l))),(36,bC (bQ 3) (.agg (aQ l))),(37,bC (bQ 4) (.agg (bK ((iH l (gK gP l)).1.getD i default)))),(38,bC (bQ 5) (.agg (bK (ovF l ((iH l (gK gP l)).1.getD i default))))),(39,bC (bQ 6) (.agg (bK (aJv l (ovF l ((iH l (gK gP l)).1.getD i default)))))),(40,bC (bQ 7) (.sl 14 1 (fun i_=>[bK (aJv l (ovF l ((iH l (gK gP l)).1.getD i default)))].getD i_ []))),(41,bC (bQ 8) (hx.sl (R++[(aJv l (ovF l ((iH l (gK gP l)).1.getD i default)))]).length)),(42,bC (bQ 9) (.bp 6 0)),(6,rP (bQ 10) true (.bx (tbX l (hx.sl (R++[(aJv l (ovF l ((iH l (gK gP l)).1.getD i default)))]).length) (.v (.slice none 0 0)) (.v (.slice none 0 0)))) (.bx (tbX l (aR.sl R.length) (.v (.slice none 0 0)) (.v (.slice none 0 0))))),(34,(cond (bQ 8) (.any) (cond (bQ 1) (aR.sl R.length) (.any))))]) (fun (hx:Hd) bQ=>(cond (bQ 8) [rgR hx (R++[(aJv l (ovF l ((iH l (gK gP l)).1.getD i default)))])] [rgR aR R])) ⟨none,none,0⟩ hF (fun iQ hiQ oQ hoQ hx bQ hbQ KQ hKQ=>?_) (fun hx=>?_)
  ·match iQ,hiQ with
   |0,_|1,_|2,_|3,_|4,_|7,_|9,_|10,_=>
    exact qC hF hoQ hbQ (hKQ hx)
   |5,_=>
    exact mfc hF hoQ hbQ (hKQ hx) (aJh _ l ((iH l (gK gP l)).1.getD i default) hl hes hrk)
   |6,_=>
    exact mfc hF hoQ hbQ (hKQ hx) (aPl _ l (ovF l ((iH l (gK gP l)).1.getD i default)) hv hJ hnd hrO)
   |8,_=>
    obtain rfl:=dO hoQ;simp only[stM,tE,tI,oK,oS,pH,jC,jE] at hbQ;rw[hbQ.1];simp only[fI];show lW _ _ _ _ _ _ _ _;refine iI (s1:=[]) (s2:=[]) 34 eN (by ((try simp only[go_sem,seval,hbQ]);try simp (disch:=omega) only[go_sem,seval,hbQ])<;>rfl) rfl ?_;refine nT [] [] 157 14 ((R++[(aJv l (ovF l ((iH l (gK gP l)).1.getD i default)))]).map bK) 41 eN ?_;show lW _ _ _ _ _ _ _ _;refine fK hF ?_;refine bV rfl bF bF ?_;((try simp only[go_sem,seval,hbQ]);try simp (disch:=omega) only[go_sem,seval,hbQ])
    repeat refine cP kN ?_
    refine ⟨rfl,by ((try simp only[go_sem,seval,hbQ]);try simp (disch:=omega) only[go_sem,seval,hbQ])<;>(first|rfl|(simp;done)|(simp;rfl)),fun hx=>?_⟩
    try ((try simp only[go_sem,seval,hbQ]);try simp (disch:=omega) only[go_sem,seval,hbQ])
    refine hKQ hx _ _ ?_ ?_
    ·first|rfl|(((try simp only[go_sem,seval,hbQ]);try simp (disch:=omega) only[go_sem,seval,hbQ]);done)|(((try simp only[go_sem,seval,hbQ]);try simp (disch:=omega) only[go_sem,seval,hbQ])<;>rfl)
    ((try simp only[go_sem,seval,hbQ]);try simp (disch:=omega) only[go_sem,seval,hbQ])<;>first|rfl|simp
  refine lL ?_;refine Z11 _ _ (eO hF [1,2,4,6,11,13,27,28,29] ?_);refine Z8 _ _ _ bD ⟨i+1,hx,R++[(aJv l (ovF l ((iH l (gK gP l)).1.getD i default)))],rfl,rfl,bD,?_,dT⟩
  ·rw[l0_1,kX default c1,eM];rfl
 refine fV (Z6 _ _ (aW fun _ Z13=>aW fun _ Z14=>?_));obtain rfl:i=(iH l (gK gP l)).1.length:=aV;rw[iL] at l0_1;refine gI hF [1,2,6] ?_;refine f9 (aHj _ l hl) ?_;refine Z14 _ _ (bZ (kF [rgR aR R] [] 3 1 rfl ?_));refine kF [rgR aR R] [_] 3 1 rfl ?_;refine eY [1,2,6,45,46,47] (fun n sF ρ=> ∃j,∃aP,∃aH,∃A,∃B,n=(kB l).length-j∧sF=[rgR aR R,rgN aP A,rgN aH B]∧(j≤(kB l).length)∧(A=(kB l).take j)∧(B=((kB l).take j).map (fD l))∧ρ=dU O [(1,.bx (aQ l)),(2,.bx [.v (.slice none 0 0),.v (.slice none 0 0),.v (.slice none 0 0),vi 0,vi 0]),(6,.bx (tbX l (aR.sl R.length) (aP.sl A.length) (aH.sl B.length))),(45,d5 (kB l)),(46,vi ((kB l).length:Nat)),(47,vi (j:Nat))]) _ ⟨0,mJ,mJ,[],[],rfl,rfl,?_,?_,?_,?_⟩ ?_
 ·exact bD
 ·rfl
 ·rfl
 ·exact dT
 rintro n sF ρ ⟨j,aP,aH,A,B,rfl,rfl,l1_0,l1_1,l1_2,rfl⟩ _ Z15;have hAl:A.length≤j:=by rw[l1_1];exact aBu _ _
 have hBl:B.length≤j:=by rw[l1_2,cJ];exact aBu _ _
 refine bI hF [1,2,6,45,46,47] ?_;refine aW fun _ Z17=>cQ (fun c2=>?_) fun c2=>?_
 ·refine bU (Z17 _ _ (aW fun _ Z18=>bZ (bI hF [1,2,6,45,46,47] ?_)));refine aW fun _ Z20=>cC (Le.keepC [1,2,6,10,45,46,47] _) ?_;refine cU ?_;refine ef hF ?_;refine ef hF ?_;refine ef hF ?_;refine ef hF ?_;show lW _ _ _ _ _ _ _ _;refine iI (s1:=[rgR aR R]) (s2:=[rgN aH B]) 52 eN sr rfl ?_;refine ef hF ?_;show lW _ _ _ _ _ _ _ _;refine nV (s1:=[rgR aR R]) (s2:=[rgN aH B]) (l:=(A++[((kB l).getD j default)]).map eI) 55 eN (by ((try simp only[go_sem,seval]);try simp (disch:=omega) only[go_sem,seval])<;>(first|rfl|(simp;done)|(simp;rfl))) rfl (fun h2=>?_);refine ef hF ?_;refine ef hF ?_;refine Z20 _ _ (aCa 9 [1,2,6,10,45,46,47] [1,2,10,45,46,47,57,59,60,61,62,63,64,6,58] [[],[0],[],[],[2,3],[2,3,4],[0,1,2,3,4,5],[0,1,2,3,4,5,6],[0,1,2,3,4,5,6,7]] [[1,6,8],[6,8],[6,8],[6,8],[6,8],[6,8],[8],[8],[]] (fun (hx:Hd) bQ=>dU O [(1,.bx (aQ l)),(2,.bx [.v (.slice none 0 0),.v (.slice none 0 0),.v (.slice none 0 0),vi 0,vi 0]),(10,vi ((kB l).getD j default)),(45,d5 (kB l)),(46,vi ((kB l).length:Nat)),(47,vi (j:Nat)),(57,bC (bQ 0) (.bp 6 2)),(59,bC (bQ 2) (.agg (aQ l))),(60,bC (bQ 3) (vi ((kB l).getD j default))),(61,bC (bQ 4) (vi (fD l ((kB l).getD j default)))),(62,bC (bQ 5) (.sl 1 1 (fun i_=>[[vi (fD l ((kB l).getD j default))]].getD i_ []))),(63,bC (bQ 6) (hx.sl (B++[fD l ((kB l).getD j default)]).length)),(64,bC (bQ 7) (.bp 6 2)),(6,rP (bQ 8) true (.bx (tbX l (aR.sl R.length) (h2.sl (A++[((kB l).getD j default)]).length) (hx.sl (B++[fD l ((kB l).getD j default)]).length))) (.bx (tbX l (aR.sl R.length) (h2.sl (A++[((kB l).getD j default)]).length) (aH.sl B.length)))),(58,(cond (bQ 6) (.any) (cond (bQ 1) (aH.sl B.length) (.any))))]) (fun (hx:Hd) bQ=>(cond (bQ 6) [rgR aR R,rgN h2 (A++[((kB l).getD j default)]),rgN hx (B++[fD l ((kB l).getD j default)])] [rgR aR R,rgN h2 (A++[((kB l).getD j default)]),rgN aH B])) ⟨none,none,0⟩ hF (fun iQ hiQ oQ hoQ hx bQ hbQ KQ hKQ=>?_) (fun hx=>?_))
  ·match iQ,hiQ with
   |0,_|1,_|2,_|3,_|5,_|7,_|8,_=>
    exact qC hF hoQ hbQ (hKQ hx)
   |4,_=>
    exact mfc hF hoQ hbQ (hKQ hx) (f7 _ l ((kB l).getD j default))
   |6,_=>
    obtain rfl:=dO hoQ;simp only[stM,tE,tI,oK,oS,pH,jC,jE] at hbQ;rw[hbQ.1];simp only[fI];show lW _ _ _ _ _ _ _ _;refine iI (s1:=[rgR aR R,rgN h2 (A++[((kB l).getD j default)])]) (s2:=[]) 58 eN (by ((try simp only[go_sem,seval,hbQ]);try simp (disch:=omega) only[go_sem,seval,hbQ])<;>rfl) rfl ?_;refine nT [rgR aR R,rgN h2 (A++[((kB l).getD j default)])] [] 3 1 ((B++[fD l ((kB l).getD j default)]).map eI) 63 eN ?_;show lW _ _ _ _ _ _ _ _;refine fK hF ?_;refine bV rfl bF bF ?_;((try simp only[go_sem,seval,hbQ]);try simp (disch:=omega) only[go_sem,seval,hbQ])
    repeat refine cP kN ?_
    refine ⟨rfl,by ((try simp only[go_sem,seval,hbQ]);try simp (disch:=omega) only[go_sem,seval,hbQ])<;>(first|rfl|(simp;done)|(simp;rfl)),fun hx=>?_⟩
    try ((try simp only[go_sem,seval,hbQ]);try simp (disch:=omega) only[go_sem,seval,hbQ])
    refine hKQ hx _ _ ?_ ?_
    ·first|rfl|(((try simp only[go_sem,seval,hbQ]);try simp (disch:=omega) only[go_sem,seval,hbQ]);done)|(((try simp only[go_sem,seval,hbQ]);try simp (disch:=omega) only[go_sem,seval,hbQ])<;>rfl)
    ((try simp only[go_sem,seval,hbQ]);try simp (disch:=omega) only[go_sem,seval,hbQ])<;>first|rfl|simp
  refine lL ?_;refine Z18 _ _ (eO hF [1,2,6,45,46,47] ?_);refine Z15 _ _ _ bD ⟨j+1,h2,hx,A++[((kB l).getD j default)],B++[fD l ((kB l).getD j default)],rfl,rfl,bD,?_,?_,dT⟩
  ·rw[l1_1,kX default c2]
  ·rw[l1_2,kX default c2,eM];rfl
 refine fV (Z13 _ _ (aW fun _ Z21=>?_));obtain rfl:j=(kB l).length:=aV;rw[iL] at l1_1 l1_2;refine gL (s1:=[]) (s2:=[rgN aP A,rgN aH B]) 6 0 sf sf rfl (eK.frzL bK (R)) rfl ?_;rw[bTu];refine gL (s1:=[]) (s2:=[rgN aH B]) 6 1 sf sf rfl (eK.frzL eI (A)) rfl ?_;rw[bSt];refine gL (s1:=[]) (s2:=[]) 6 2 sf sf rfl (eK.frzL eI (B)) rfl ?_;rw[bPe];have htT:=aRk her;rw[← l0_1,← l1_2] at htT;rw[← l1_1] at htT;refine eO hF [2,6] ?_;refine Z21 _ _ (dV ?_)
 (try simp only[fQ,d8]);rw[htT,her];refine sO rfl sz (.cons (roC sr sr bF (by first|rfl|(((try simp only[go_sem,seval]);try simp (disch:=omega) only[go_sem,seval])))) (.cons (vU sr rfl rfl) .nil))
end
end Go.Sg
