/- Several texts as one. -/
import Derived.Test.YtanpjnlhfdcicaaGreatDoorK8
set_option linter.unusedSectionVars false
set_option linter.unusedVariables false
set_option linter.unusedSimpArgs false
set_option maxRecDepth 20000
set_option maxHeartbeats 16000000
namespace Go.Sg
open Go.Proofs
abbrev bl (s:ByteArray):List UInt8:=s.data.toList
theorem aGt (a b:ByteArray):bl (a++b)=bl a++bl b:=by simp[bl]
theorem bVo {a b:ByteArray} (h:bl a=bl b):a=b:=by rw[← cDt a,← cDt b];exact congrArg bs h
theorem bXo {α:Type} {c:α}: ∀{a a' b b':List α},c∉a→c∉a'→a++c::b=a'++c::b'→a=a'∧b=b'
 | [],[],_,_,_,_,h=>⟨rfl,(List.cons.inj h).2⟩
 | [],x::a',_,_,_,h2,h=>absurd (by rw[(List.cons.inj h).1];simp) h2
 |x::a,[],_,_,h1,_,h=>absurd (by rw[← (List.cons.inj h).1];simp) h1
 |x::a,y::a',b,b',h1,h2,h=>by
  have hx:=List.cons.inj h;have:=bXo (c:=c) (a:=a) (a':=a') (fun e=>h1 (by simp[e])) (fun e=>h2 (by simp[e])) hx.2;exact ⟨by rw[hx.1,this.1],this.2⟩
theorem aXn {s:ByteArray} (h:pE s=true):(45:UInt8)∉bl s∧(46:UInt8)∉bl s:=by
 unfold pE at h;rw[cD,dI] at h;have key: ∀c∈bl s,nmC c.toNat=true:=fun c hc=>by
  obtain ⟨i,hi,rfl⟩:=aOl.1 hc;have hi':i<s.data.size:=by rw[← xT];exact hi
  have:=h.2 i (gU.2 hi');unfold bt at this;have h2:s.data.getD i 0=(bl s)[i]:=by
   rw[oB,iY hi',iE];exact (Array.getElem_toList ..).symm
  rwa [h2] at this
 exact ⟨fun hc=>absurd (key _ hc) eN,fun hc=>absurd (key _ hc) eN⟩
theorem bGl {a b:Nat} (ha:a<10) (hb:b<10) (h:dgt a=dgt b):a=b:=by
 have:=congrArg UInt8.toNat h;unfold dgt at this;rw[UInt8.toNat_ofNat',UInt8.toNat_ofNat'] at this;omega
theorem bXg: ∀(u v:Nat),Lib.decDigits u=Lib.decDigits v→u=v:=by
 intro u
 induction u using Nat.strongRecOn with
 |_ u ih=>
  intro v h;by_cases hu:u<10
  ·by_cases hv:v<10
   ·rw[aKh _ hu,aKh _ hv] at h;exact bGl hu hv (by simpa using h)
   rw[aKh _ hu,aFa _ hv] at h;have h1:=congrArg List.length h;rw[fP,aBo,aBo] at h1;have h2:=List.length_pos_iff.2 (bRo (v/10));omega
  by_cases hv:v<10
  ·rw[aKh _ hv,aFa _ hu] at h;have h1:=congrArg List.length h;rw[fP,aBo,aBo] at h1;have h2:=List.length_pos_iff.2 (bRo (u/10));omega
  rw[aFa _ hu,aFa _ hv] at h;have hh:=List.append_inj' h rfl;have h1:=ih (u/10) aV (v/10) hh.1;have h2:=bGl aV aV (List.cons.inj hh.2).1;omega
def yV (c:Nat):List UInt8:=if 1<c then 46::bl (fmt (c:Nat)) else []
theorem bYw {c d:Nat} (hc:1≤c) (hd:1≤d) (h:yV c=yV d):c=d:=by
 unfold yV at h;split at h
 ·split at h
  ·have h1:=(List.cons.inj h).2;rw[bHa aV,bHa aV] at h1;rw[show bl (bs (Lib.decDigits (c:Int).natAbs))=_ from bFu _,show bl (bs (Lib.decDigits (d:Int).natAbs))=_ from bFu _] at h1;have:=bXg _ _ h1;omega
  cases h
 split at h
 ·cases h
 omega
theorem bYq {B B':List UInt8} {c d:Nat} (h1:(46:UInt8)∉B) (h2:(46:UInt8)∉B') (hc:1≤c) (hd:1≤d) (h:B++yV c=B'++yV d):B=B'∧c=d:=by
 have key:B=B'∧yV c=yV d:=by
  by_cases hc1:1<c
  ·by_cases hd1:1<d
   ·rw[show yV c=46::bl (fmt (c:Nat)) from if_pos hc1,show yV d=46::bl (fmt (d:Nat)) from if_pos hd1] at h ⊢;have:=bXo h1 h2 h;exact ⟨this.1,by rw[this.2]⟩
   rw[show yV c=46::bl (fmt (c:Nat)) from if_pos hc1,show yV d=[] from if_neg hd1,kZ] at h;exact absurd (by rw[← h];simp) h2
  by_cases hd1:1<d
  ·rw[show yV c=[] from if_neg hc1,show yV d=46::bl (fmt (d:Nat)) from if_pos hd1,kZ] at h;exact absurd (by rw[h];simp) h1
  rw[show yV c=[] from if_neg hc1,show yV d=[] from if_neg hd1] at h ⊢;exact ⟨by simpa using h,rfl⟩
 exact ⟨key.1,bYw hc hd key.2⟩
theorem cHu {l:aC} (h:mK l=0):aPm l=true∧aGh l=true∧ndB l=true∧pK l=true∧sgI l=0:=by
 have h0:=h;unfold mK at h;split at h
 ·cases h
 rename_i hc;split at h
 ·rename_i h1;exact absurd h h1
 rename_i h1;split at h
 ·cases h
 split at h
 ·rename_i h3;exact absurd h h3
 split at h
 ·rename_i h4;exact absurd h h4
 rename_i h4;obtain ⟨z1,z2,z3⟩:=qR h0;refine ⟨by simpa using hc,z1,?_,z2,zY.1 h4⟩;have h1:nmI l=0:=zY.1 h1;unfold nmI at h1;rw[if_pos z1] at h1;split at h1
 ·assumption
 cases h1
theorem cJm {l:aC} (h:sgI l=0) {i:Nat} (hi:i<l.xAa.length):exB l (l.xAa.getD i default).fAt=true:=by
 unfold sgI at h;split at h
 ·rename_i h1;have:=rY h1 hi;unfold aAn at this;rw[cD] at this;exact this.1
 cases h
abbrev sgN (l:aC) (i:Int):ByteArray:=(l.xAa.getD i.toNat default).xAq
theorem aLc {l:aC} (h:aGh l=true) {i:Nat} (hi:i<l.xAa.length):pE (sgN l (i:Int))=true:=by
 unfold aGh at h;rw[dI] at h;have h2:=h (aBb l) (by unfold d9;simp);rw[dI] at h2;exact h2 _ (dZ.2 ⟨_,kI (by simpa using hi),rfl⟩)
theorem cKw {l:aC} (h:ndB l=true) {i k:Nat} (hi:i<l.xAa.length) (hk:k<i):sgN l (k:Int)≠sgN l (i:Int):=by
 unfold ndB at h;rw[dI] at h;have h2:=h (aBb l) (by unfold d9;simp);unfold ndS at h2;have h3:=aMz h2 (show i<(aBb l).length by simpa[aBb] using hi);unfold nuS at h3;have h4:=dK (aMz h3 hk);unfold aBb at h4;rw[cA,cA,dG,dG,cH hi,cH (show k<l.xAa.length by omega)] at h4;simp only[gG,iE] at h4;simp only[sgN,yG,cA,cH hi,cH (show k<l.xAa.length by omega),iE];exact h4
theorem bMl {l:aC} (h:aGh l=true) {x:Int} (hx:x<(l.xAa.length:Int)):(46:UInt8)∉bl (nmQ l x):=by
 unfold nmQ;split
 ·have:=(aXn (aLc h (i:=x.toNat) aV)).2;unfold sgN at this
  rwa [yG] at this
 decide
theorem aKo (l:aC) (i:Int) (P:List (List bJ)) (k:Nat):bl (nbR l i P k).xAq=bl (sgN l i)++45::(bl (nmQ l (exQ l (P.getD k [])))++yV (pJ (nB l i) (P.take (k+1)) (nB l i (P.getD k [])))):=by
 unfold nbR;generalize pJ (nB l i) (P.take (k+1)) (nB l i (P.getD k []))=c;unfold rH yV;split
 ·show bl ((sgN l i++⟨#[45]⟩++nmQ l (exQ l (P.getD k [])))++(⟨#[46]⟩++fmt (c:Nat)))=_;rw[aGt,aGt,aGt,aGt];simp[bl]
 show bl (sgN l i++⟨#[45]⟩++nmQ l (exQ l (P.getD k [])))=_;rw[aGt,aGt];simp[bl]
theorem aZb {α:Type} (nm:α→ByteArray) {P:List α} {k:Nat} {d:α} (hk:k<P.length):1≤pJ nm (P.take (k+1)) (nm (P.getD k d)):=by
 rw[kX d hk,aAa,if_pos rfl];omega
theorem bKk {α:Type} (nm:α→ByteArray) {P:List α} {k m:Nat} {d:α} (hk:k<m) (hm:m<P.length) (x:ByteArray) (hx:nm (P.getD m d)=x):pJ nm (P.take (k+1)) x<pJ nm (P.take (m+1)) x:=by
 have h1:pJ nm (P.take (k+1)) x≤pJ nm (P.take m) x:=by
  unfold pJ;exact List.Sublist.countP_le (List.take_sublist_take_left aV)
 rw[kX d hm,aAa,if_pos hx];omega
abbrev NmD (R:List bL):Prop:=R.Pairwise fun a b=>a.xAq≠b.xAq
theorem cLj {l:aC} (h:aGh l=true) {i:Nat} (hi:i<l.xAa.length) (P:List (List bJ)) (n:Nat) (hn:n≤P.length):NmD (xQ l (i:Int) P n):=by
 unfold xQ;rw[NmD,List.pairwise_map];refine List.Pairwise.imp_of_mem ?_ List.pairwise_lt_range;intro k m hk hm hkm e;have hk:=gU.1 hk;have hm:=gU.1 hm;have h1:=congrArg bl e;rw[aKo,aKo] at h1;have h2:=(bXo (aXn (aLc h hi)).1 (aXn (aLc h hi)).1 h1).2;obtain ⟨h3,h4⟩:=bYq (bMl h (aQg l _).1) (bMl h (aQg l _).1) (aZb _ aV) (aZb _ aV) h2;have h5:nB l (i:Int) (P.getD k [])=nB l (i:Int) (P.getD m []):=by
  show sgN l (i:Int)++⟨#[45]⟩++nmQ l (exQ l (P.getD k []))=sgN l (i:Int)++⟨#[45]⟩++nmQ l (exQ l (P.getD m []));rw[bVo h3]
 rw[h5] at h4;have:=bKk (nB l (i:Int)) (d:=[]) hkm (show m<P.length by omega) _ rfl;omega
theorem bHn (p:aC→fH→fH→List (List bJ)) (l:aC) {i:Nat} (hi:i<l.xAa.length):gK p l (i:Int)=if (bH l (l.xAa.getD i default).fAt).2=false then [] else xQ l (i:Int) (p l (l.xAa.getD i default).fAt (bH l (l.xAa.getD i default).fAt).1) (p l (l.xAa.getD i default).fAt (bH l (l.xAa.getD i default).fAt).1).length:=by
 unfold gK;rw[if_neg aV,yG]
theorem aUn {p:aC→fH→fH→List (List bJ)} {l:aC} {i:Nat} (hi:i<l.xAa.length) {r:bL} (hr:r∈gK p l (i:Int)): ∃P k,k<P.length∧P=p l (l.xAa.getD i default).fAt (bH l (l.xAa.getD i default).fAt).1∧r=nbR l (i:Int) P k:=by
 rw[bHn p l hi] at hr;split at hr
 ·cases hr
 unfold xQ at hr;obtain ⟨k,hk,rfl⟩:=dZ.1 hr;exact ⟨_,k,gU.1 hk,rfl,rfl⟩
theorem cHh {l:aC} (h:aGh l=true) (hd:ndB l=true):NmD (qJ (gK gP l) l.xAa.length):=by
 unfold qJ;rw[NmD,List.pairwise_flatMap];refine ⟨fun i hi=>?_,?_⟩
 ·have hi:=gU.1 hi;rw[bHn gP l hi];split
  ·exact List.Pairwise.nil
  exact cLj h hi _ _ (bW _)
 refine List.Pairwise.imp_of_mem ?_ List.pairwise_lt_range;intro i k hi hk hik x hx y hy e;have hi:=gU.1 hi;have hk:=gU.1 hk;obtain ⟨P,a,_,_,rfl⟩:=aUn hi hx;obtain ⟨Q,b,_,_,rfl⟩:=aUn hk hy;have h1:=congrArg bl e;rw[aKo,aKo] at h1;have h2:=(bXo (aXn (aLc h hi)).1 (aXn (aLc h hk)).1 h1).1;exact cKw hd hk hik (bVo h2)
theorem bLw (r:bL) (c:Nat):(rH r c).xBh=r.xBh∧(rH r c).xBd=r.xBd∧(rH r c).xBg=r.xBg∧(rH r c).xAn=r.xAn:=by
 unfold rH;split<;>exact ⟨rfl,rfl,rfl,rfl⟩
structure RtE (l:aC) (i:Nat) (r:bL):Prop where
 en:r.xBh=(i:Int)
 exi: -1≤r.xBd∧r.xBd<(l.xAa.length:Int)
 pos:0<r.xAf.length
 app:r.xBg=fD l (l.xAa.getD i default).fAt.fEl
 len:r.xAn=mI l r.xAf
theorem bRc {l:aC} {i k:Nat} {P:List (List bJ)} (hp:0<(P.getD k []).length):RtE l i (nbR l (i:Int) P k):=by
 unfold nbR;generalize pJ (nB l (i:Int)) (P.take (k+1)) (nB l (i:Int) (P.getD k []))=c;obtain ⟨n1,n2,n3,n4⟩:=bLw (aGk l (i:Int) (P.getD k [])) c;have n5:=(aZk (aGk l (i:Int) (P.getD k [])) c).1;exact ⟨n1,by rw[n2];exact ⟨(aQg l _).2,(aQg l _).1⟩,by rw[n5];exact hp,by rw[n3];show fD l (l.xAa.getD (i:Int).toNat default).fAt.fEl=_;rw[yG],by rw[n4,n5];rfl⟩
theorem bQw {l:aC} {i:Nat} (hi:i<l.xAa.length) {r:bL} (hr:r∈gK gP l (i:Int)):RtE l i r:=by
 obtain ⟨P,k,hk,hP,rfl⟩:=aUn hi hr;refine bRc ?_;subst hP;exact (aKj (l:=l) (n:=13) (a:=(bH l (l.xAa.getD i default).fAt).1) (q:=[]) dH List.Pairwise.nil (kI hk)).1
theorem bDu {l:aC} (h:(iH l (gK gP l)).2=0):(iH l (gK gP l)).1=qJ (gK gP l) l.xAa.length:=by
 unfold iH at h ⊢;split
 ·rename_i h1;rw[if_pos h1] at h;exact absurd h h1
 rename_i h1;rw[if_neg h1] at h;split
 ·rename_i h2;rw[if_pos h2] at h;cases h
 rfl
theorem bWp {l:aC} (h:(iH l (gK gP l)).2=0) {r:bL} (hr:r∈(iH l (gK gP l)).1): ∃i,i<l.xAa.length∧RtE l i r:=by
 rw[bDu h] at hr;unfold qJ at hr;obtain ⟨i,hi,hr⟩:=y1.1 hr;exact ⟨i,gU.1 hi,bQw (gU.1 hi) hr⟩
theorem cFe {l:aC} (h:pK l=true) {e:Int} (he:vD l e=true):aFn l (lI l e.toNat)=true:=by
 have:=mG.1 he;exact rY h (i:=e.toNat) aV
theorem aKk {l:aC} (h:pK l=true) {e:Int} (he:vD l e=true):0≤fD l e∧fD l e<(l.xAe.length:Int):=by
 rw[bGy he];have:=dK (cFe h he);exact this.2.2.2.2.1
theorem bEs {l:aC} (h:pK l=true): ∀{q:List bJ},(∀s∈q,vD l s.fEl=true)→500*(q.length:Int)≤mI l q
 | [],_=>by simp[mI]
 |s::q,hx=>by
  have ih:=bEs h (q:=q) fun x hx'=>hx x (by simp[hx']);have h1:=hx s dH;have:=dK (cFe h h1);show _≤((s::q).map fun s=>if vD l s.fEl=true then (lI l s.fEl.toNat).xAn else 0).sum;rw[kH,List.sum_cons,if_pos h1];have h2:(q.map fun s=>if vD l s.fEl=true then (lI l s.fEl.toNat).xAn else 0).sum=mI l q:=rfl;rw[h2,qH]
  push_cast
  omega
theorem aLr {l:aC} {q:List bJ} (hex: ∀s∈q,vD l s.fEl=true) {x:Int} (hx:x∈jK l q): ∃s∈q,x=fD l s.fEl:=by
 obtain ⟨i,hi,e⟩:=(aOg (l:=l) (q:=q) (fun i hi=>by rw[aKl hi];exact hex _ (xY hi)) q.length (bW _) x).1 (by rw[iL];exact hx);exact ⟨z7 q i,by rw[aKl hi];exact xY hi,e.symm⟩
theorem cCi {t:dC} {L:List Int} (hr: ∀x∈L,0≤x∧x<t.xAe) (hn:L.Nodup):aIt t L=true:=by
 unfold aIt;rw[dI];intro i hi;have hi:=gU.1 hi;unfold aVc;have hg: ∀k,(hk:k<L.length)→iN L k=L[k]:=fun k hk=>by unfold iN;rw[cA,cH hk];rfl
 rw[cD,dR,dI];refine ⟨by rw[hg i hi];exact hr _ (xY hi),fun k hk=>?_⟩;have hk:=gU.1 hk;rw[hg i hi,hg k aV,mH,oF];exact aFj.1 hn k i aV hi hk
theorem bPz {l:aC} {ov:Int} {sc:List Int}: ∀(n:Nat) (o:List bJ) (a:fH×Bool),(∀s∈o,vD l s.fEl=true)→ ∀s∈ovG l ov sc n o a,vD l s.fEl=true
 |0,o,a,h=>h
 |n+1,o,a,h=>by
  unfold ovG;split
  ·rename_i hc;refine bPz n _ _ fun s hs=>?_;rcases iV.1 hs with hs|hs
   ·exact h s hs
   have hb:=aKc (kI (show 0<(iZ l a.1).length by have:=hc.2.2;omega));rw[lH.1 hs,hb.1];exact hb.2.2.2
  exact h
theorem bBe (l:aC) (r:bL): ∀s∈uW l r,vD l s.fEl=true:=by
 unfold uW;split
 ·exact bPz _ _ _ dH
 simp
theorem bRg {α β:Type} {f:α→β}: ∀{L:List α},(L.map f).Nodup→ ∀{a b:α},a∈L→b∈L→f a=f b→a=b
 | [],_,_,_,h,_,_=>by cases h
 |x::L,hn,a,b,ha,hb,e=>by
  rw[kH,aXa] at hn;obtain ⟨h1,h2⟩:=hn;rcases gN.1 ha with ha|ha
  ·rcases gN.1 hb with hb|hb
   ·rw[ha,hb]
   exact absurd (dZ.2 ⟨b,hb,by rw[← e,ha]⟩) h1
  rcases gN.1 hb with hb|hb
  ·exact absurd (dZ.2 ⟨a,ha,by rw[e,hb]⟩) h1
  exact bRg h2 ha hb e
def aWj (l:aC) (s:aY):Prop:=vD l s.fEl=true∧(lI l s.fEl.toNat).xAp=2∧1≤s.xAo∧s.xAo≤2
theorem bJo {i o:Int} (h:(gS 2 i o).2=true):1≤(gS 2 i o).1∧(gS 2 i o).1≤2:=by
 rw[aWp] at h ⊢;split at h
 ·rename_i h2;rw[if_pos h2];simp
 rename_i h2;rw[if_neg h2];split at h
 ·rename_i h3;rw[if_pos h3];simp
 cases h
theorem cNo {l:aC} {q:List bJ} {s:aY} (h:s∈aAt l q):aWj l s∧ ∃x∈q,x.fEl=s.fEl:=by
 unfold aAt at h;obtain ⟨x,hx,hs⟩:=y1.1 h;unfold aVn at hs;split at hs
 ·rename_i hc;rw[lH.1 hs];have he:=mG.2 (aRv hc.1);refine ⟨⟨he,hc.2,?_⟩,x,hx,rfl⟩;have h1:=hc.1;show 1≤(tN l x).1∧(tN l x).1≤2;rw[aCn he,hc.2] at h1 ⊢;exact bJo h1
 cases hs
theorem aTl {l:aC} {q:List bJ} {s:aY} (h:s∈rW l q):aWj l s∧ ∃x∈q,x.fEl=s.fEl:=cNo ((rF _ _).1 h)
abbrev aZj (F:List aY):Prop:=F.Pairwise fun a b=>a.fEl<b.fEl
theorem aYy {F:List aY} (h:(F.map (·.fEl)).Nodup):aZj (kM F):=by
 refine List.Pairwise.imp_of_mem ?_ (aNx F);intro a b ha hb hab;rcases mX.1 hab with h1|⟨h1,h2⟩
 ·exact h1
 have:=bRg h ((rF F a).1 ha) ((rF F b).1 hb) h1;rw[this] at h2;omega
theorem aWm {l:aC} {q:List bJ} (h:(q.map (·.fEl)).Nodup):aZj (rW l q):=aYy ((bFi l q).nodup h)
theorem cAn {l:List Int} {x:Int} (h:x∈l): ∃k,k<l.length∧aCm l x l.length=(k:Int)∧l.getD k default=x:=by
 have key: ∀n,n≤l.length→(∃j,j<n∧l.getD (l.length-(j+1)) default=x)→ ∃k,k<l.length∧aCm l x n=(k:Int)∧l.getD k default=x:=by
  intro n
  induction n with
  |zero=>rintro _ ⟨j,hj,_⟩;omega
  |succ n ih=>
   rintro hn ⟨j,hj,hx⟩;unfold aCm;split
   ·rename_i he;exact ⟨l.length-(n+1),by omega,rfl,he⟩
   rename_i he;refine ih aV ⟨j,?_,hx⟩;rcases uU (aBz hj) with q|q
   ·exact q
   subst q;exact absurd hx he
 obtain ⟨i,hi,e⟩:=aOl.1 h;refine key l.length (bW _) ⟨l.length-(i+1),by omega,?_⟩;rw[show l.length-(l.length-(i+1)+1)=i by omega,cA,cH hi];exact e
theorem bYb {l:aC} {x:Int} (he:vD l x=true) (hk:(lI l x.toNat).xAp=2):x∈kB l:=by
 have:=mG.1 he;unfold kB aOx;refine dZ.2 ⟨x.toNat,aIn.2 ⟨gU.2 aV,dF hk⟩,by omega⟩
theorem cGq {l:aC} {x:Int} (h:x∈kB l):vD l x=true∧(lI l x.toNat).xAp=2:=by
 unfold kB aOx at h;obtain ⟨i,hi,rfl⟩:=dZ.1 h;obtain ⟨h1,h2⟩:=aIn.1 hi;exact ⟨mG.2 ⟨by omega,by have:=gU.1 h1;omega⟩,dK h2⟩
theorem cAj (l:aC):(kB l).Pairwise (· < ·):=by
 unfold kB aOx;rw[List.pairwise_map];exact (List.pairwise_lt_range.filter _).imp fun h=>by omega
theorem bBg {t:dC} {l:aC} (hp:t.xAk=kB l) {F:List aY} (ha:aZj F) (hs: ∀s∈F,aWj l s):aTm t F=true:=by
 unfold aTm;rw[dI];intro i hi;have hi:=gU.1 hi;have hg: ∀k,(hk:k<F.length)→sN F k=F[k]:=fun k hk=>by unfold sN;rw[cA,cH hk];rfl
 obtain ⟨p1,p2,p3,p4⟩:=hs _ (xY hi);refine dF ⟨?_,?_,by rw[hg i hi];exact p3,by rw[hg i hi];exact p4⟩
 ·rw[hg i hi];unfold plI;rw[hp];obtain ⟨k,_,e,_⟩:=cAn (bYb p1 p2);rw[e];omega
 rcases nL i with h0|h0
 ·exact .inl h0
 right;rw[hg i hi,hg (i-1) aV];exact aFj.1 ha (i-1) i aV hi aV
theorem bAl {a b:List aY} (h: ∀s∈a,∀u∈b,s.fEl=u.fEl→s.xAo=u.xAo):aOz a b=true:=by
 unfold aOz;rw[dI];intro s hs;unfold okS;rw[dI];intro u hu;rw[mH];by_cases he:s.fEl=u.fEl
 ·exact cIa (.inr (h s hs u hu he))
 exact cIa (.inl he)
theorem bFb {l:aC} {r:bL}: ∀{n:Nat} {e:fH} {s:aY} {g:Int},yK l r n e=some (s,g)→s≠St0→aWj l s∧inR r s.fEl=false
 |0,e,s,g,h,_=>by cases h
 |n+1,e,s,g,h,hs=>by
  unfold yK at h;split at h
  ·injection h with h;injection h with h1 h2;exact absurd h1.symm hs
  split at h
  ·injection h with h;injection h with h1 h2;exact absurd h1.symm hs
  split at h
  ·injection h with h;injection h with h1 h2;exact absurd h1.symm hs
  rename_i h3;split at h
  ·cases h
  rename_i h4;split at h
  ·rename_i h5;rw[gC] at h;obtain ⟨s',hs',he⟩:=h;injection he with e1 e2
   subst e1;obtain ⟨a1,a2,a3⟩:=aNo hs';rw[a2];refine ⟨⟨mG.2 (by simp only;omega),h5,by simp only;omega,by simp only;omega⟩,?_⟩;unfold inR;simpa using h3
  split at h
  ·cases h
  exact bFb h hs
theorem cGy {l:aC} {r:bL}: ∀(n:Nat) (E:List fH),E.length=n→ ∀s∈(flF l r E).1,aWj l s∧inR r s.fEl=false:=by
 intro n
 induction n with
 |zero=>intro E h s hs;rw[aIq.1 h] at hs;cases hs
 |succ n ih=>
  intro E h s hs;obtain ⟨Q,e,rfl⟩: ∃Q p,E=Q++[p]:=⟨E.dropLast,E.getLast (by intro e;rw[e] at h;cases h),(List.dropLast_concat_getLast _).symm⟩;have h1:=ih Q (by simpa using h);rw[bFa] at hs;unfold flA at hs;split at hs
  ·exact h1 s hs
  split at hs
  ·exact h1 s hs
  split at hs
  ·rename_i hne;rcases iV.1 hs with hs|hs
   ·exact h1 s hs
   rw[lH.1 hs];unfold sch at hne ⊢;cases hp:yK l (wFG r (flF l r Q).1 (flF l r Q).2.1 (flF l r Q).2.2) 4 e with
   |none=>rw[hp] at hne;exact absurd rfl hne
   |some q=>
    rw[hp] at hne;have:=bFb (n:=4) (e:=e) (s:=q.1) (g:=q.2) hp hne;exact this
  exact h1 s hs
section
variable {l:aC} (hl:gO l) (her:(iH l (gK gP l)).2=0)
include hl her
theorem bGu {r:bL} (hr:r∈(u5 l).xAg): ∃r0 i,i<l.xAa.length∧RtP l r0∧RtE l i r0∧r=uZ l r0:=by
 rw[aRk her] at hr;obtain ⟨r0,h0,rfl⟩:=dZ.1 hr;obtain ⟨i,hi,h1⟩:=bWp her h0;exact ⟨r0,i,hi,bEk h0,h1,rfl⟩
theorem bEv {r0:bL} (h:RtP l r0):(aZj (uZ l r0).xAk∧ ∀s∈(uZ l r0).xAk,aWj l s∧jG r0.xAf s.fEl=true)∧(aZj (uZ l r0).xAs∧ ∀s∈(uZ l r0).xAs,aWj l s∧jG (uW l r0) s.fEl=true)∧
  aZj (uZ l r0).xAy∧ ∀s∈(uZ l r0).xAy,aWj l s∧jG r0.xAf s.fEl=false∧jG (uW l r0) s.fEl=false:=by
 obtain ⟨hv,hJ⟩:=aTb hl (aAl her);refine ⟨?_,?_,?_,?_⟩
 ·show aZj r0.xAk∧ ∀s∈r0.xAk,_;rw[h.pt];exact ⟨aWm h.nd,fun s hs=>⟨(aTl hs).1,by obtain ⟨x,hx,e⟩:=(aTl hs).2;exact qX.2 ⟨x,hx,e⟩⟩⟩
 ·show aZj (rW l (uW l r0))∧ ∀s∈rW l (uW l r0),_;exact ⟨aWm (bBs l r0),fun s hs=>⟨(aTl hs).1,by obtain ⟨x,hx,e⟩:=(aTl hs).2;exact qX.2 ⟨x,hx,e⟩⟩⟩
 ·exact aYy (bEz hv hJ h.nodup).1
 intro s hs;have hs:s∈kM (flF l (ovF l r0) (qB l ((ovF l r0).xAf++(ovF l r0).xAl))).1:=hs;obtain ⟨h1,h2⟩:=cGy _ _ rfl s ((rF _ _).1 hs);refine ⟨h1,?_⟩;unfold inR at h2;rw[uL] at h2;exact h2
theorem bSm {r0:bL} (h:RtP l r0) {x:Int} (h1:jG r0.xAf x=true) (h2:jG (uW l r0) x=true):False:=by
 obtain ⟨s,hs,e⟩:=qX.1 h1;obtain ⟨o,ho,e2⟩:=qX.1 h2;have h3:=bBo h.ex hs;have h4:=aUe l r0 o ho;rw[h.sec,e2,← e] at h4;have h5:(jK l r0.xAf).contains (fD l s.fEl)=true:=by simpa using h3
 rw[h5] at h4;cases h4
theorem bOj:chk (u5 l)=0:=by
 have hck:=aAl her;obtain ⟨k1,k2,k3,k4,k5⟩:=cHu hck;have kc:=dK k1;have hal:=aKn l;have hpl:=aEl l l.xAh.length;have hpl:(kB l).length≤l.xAh.length:=hpl;have e:=aRk her;have eR:(u5 l).xAg=(iH l (gK gP l)).1.map (uZ l):=by rw[e]
 have eP:(u5 l).xAk=kB l:=by rw[e]
 have eH:(u5 l).xBs=(kB l).map (fD l):=by rw[e]
 have eS:(u5 l).xAe=(l.xAe.length:Nat):=by rw[e]
 have eG:(u5 l).xAa=(l.xAa.length:Nat):=by rw[e]
 refine cQb ?_ ?_ ?_ ?_ ?_ ?_
 ·unfold aNa;rw[eR,eP,eS,eG,cJ];exact dF aV
 ·unfold aHd;rw[eH,eP,cJ,dF rfl,zG,dI];intro i hi;have hi:=gU.1 hi;have hg: ∀k,(hk:k<(kB l).length)→ptN (u5 l) k=(kB l)[k]:=fun k hk=>by unfold ptN;rw[eP,cA,cH hk];rfl
  have hh:hmN (u5 l) i=fD l (kB l)[i]:=by unfold hmN;rw[eH,cA,dG,cH hi];rfl
  have hx:=(cGq (xY hi)).1;have hsr:=aKk k4 hx;have hx:=mG.1 hx;refine dF ⟨by rw[hg i hi];omega,?_,by rw[hh];exact hsr.1,by rw[hh,eS];exact hsr.2⟩;rcases nL i with h0|h0
  ·exact .inl h0
  right;rw[hg i hi,hg (i-1) aV];exact aFj.1 (cAj l) (i-1) i aV hi aV
 ·rw[dI];intro r hr;obtain ⟨r0,i,hi,hp,hq,rfl⟩:=bGu hl her hr;have hat:=cJm k5 hi;unfold exB at hat;rw[cD,dR,dR] at hat;have happ:=aKk k4 (mG.2 hat.1);have hlen:=bEs k4 hp.ex;have hpos:=hq.pos;have hsne:0<(jK l r0.xAf).length:=by
   obtain ⟨s,hs⟩:=List.exists_mem_of_length_pos hpos;exact List.length_pos_of_mem (bBo hp.ex hs)
  unfold rtB;rw[cD];constructor
  ·refine dF ⟨?_,?_,hq.exi.1,?_,hpos,hp.len,?_,?_,?_,?_⟩
   ·show 0≤r0.xBh;rw[hq.en];omega
   ·show r0.xBh<_;rw[hq.en,eG];omega
   ·rw[eG];exact hq.exi.2
   ·show 1≤r0.xAn;rw[hq.len];omega
   ·show 0<r0.xAe.length;rw[hp.sec];exact hsne
   ·show 0≤r0.xBg;rw[hq.app];exact happ.1
   show r0.xBg<_;rw[hq.app,eS];exact happ.2
  show aIt _ (r0.xAe++jK l (uW l r0))=true;refine cCi (fun x hx=>?_) ?_
  ·rw[eS];rcases iV.1 hx with hx|hx
   ·rw[hp.sec] at hx;obtain ⟨s,hs,rfl⟩:=aLr hp.ex hx;exact aKk k4 (hp.ex s hs)
   obtain ⟨s,hs,rfl⟩:=aLr (bBe l r0) hx;exact aKk k4 (bBe l r0 s hs)
  rw[nO];refine ⟨?_,?_,fun x hx y hy exy=>?_⟩
  ·rw[hp.sec];have:=xA l r0.xAf r0.xAf.length;rwa [iL] at this
  ·have:=xA l (uW l r0) (uW l r0).length;rwa [iL] at this
  obtain ⟨s,hs,rfl⟩:=aLr (bBe l r0) hy;have:=aUe l r0 s hs;rw[← exy] at this;have h5:r0.xAe.contains x=true:=by simpa using hx
  rw[h5] at this;cases this
 ·rw[dI];intro r hr;obtain ⟨r0,i,hi,hp,hq,rfl⟩:=bGu hl her hr;obtain ⟨⟨a1,a2⟩,⟨b1,b2⟩,c1,c2⟩:=bEv hl her hp;unfold seB;rw[bBg eP a1 fun s hs=>(a2 s hs).1,bBg eP b1 fun s hs=>(b2 s hs).1,bBg eP c1 fun s hs=>(c2 s hs).1];rfl
 ·rw[dI];intro r hr;obtain ⟨r0,i,hi,hp,hq,rfl⟩:=bGu hl her hr;obtain ⟨⟨a1,a2⟩,⟨b1,b2⟩,c1,c2⟩:=bEv hl her hp;unfold agB;rw[bAl fun s hs u hu e=>(bSm hl her hp (a2 s hs).2 (by rw[e];exact (b2 u hu).2)).elim,
   bAl (fun s hs u hu e=>by have h1:=(a2 s hs).2;rw[e,(c2 u hu).2.1] at h1;cases h1),
   bAl (fun s hs u hu e=>by have h1:=(b2 s hs).2;rw[e,(c2 u hu).2.2] at h1;cases h1)]
  rfl
 rw[eR,cJ];have hnd:NmD (iH l (gK gP l)).1:=by rw[bDu her];exact cHh k2 k3
 rw[dI];intro i hi;have hi:=gU.1 hi;unfold nuB;rw[dI];intro k hk;have hk:=gU.1 hk;have hg: ∀j,(hj:j<(iH l (gK gP l)).1.length)→nmN (u5 l) j=((iH l (gK gP l)).1[j]).xAq:=fun j hj=>by
  unfold nmN;rw[eR,cA,dG,cH hj];rfl
 rw[hg i hi,hg k aV];exact dF (aFj.1 hnd k i aV hi hk)
end
theorem cBc {s:bJ} {k:Int} (h:(gS k s.fIn s.xAv).2=true):(bsN s (mD k).toNat).length≤2:=by
 have hk:k=1∨k=2∨k=3:=by
  by_cases h1:k=1
  ·exact .inl h1
  by_cases h2:k=2
  ·exact .inr (.inl h2)
  by_cases h3:k=3
  ·exact .inr (.inr h3)
  rw[cEj h1 h2 h3] at h;cases h
 have key: ∀m:Nat,(bsN s m).length=((List.range m).filter fun (i:Nat)=>decide ((i:Int)≠s.fIn∧(i:Int)≠s.xAv)).length:=fun m=>by unfold bsN;rw[cJ]
 rw[key];generalize s.fIn=a at*;generalize s.xAv=b at*;rcases hk with rfl|rfl|rfl
 ·exact eL (aHv _ _) (by simp[mD])
 ·rw[aWp] at h;have h3:(mD 2).toNat=3:=rfl;rw[h3];have:(a=0∧b=1)∨(a=1∧b=0)∨(a=0∧b=2)∨(a=2∧b=0):=by
   split at h
   ·omega
   split at h
   ·omega
   cases h
  rcases this with ⟨rfl,rfl⟩|⟨rfl,rfl⟩|⟨rfl,rfl⟩|⟨rfl,rfl⟩<;>decide
 rw[cFc] at h;have h:=dK h;have h3:(mD 3).toNat=4:=rfl;rw[h3];have:(a=0∧b=1)∨(a=1∧b=0)∨(a=2∧b=3)∨(a=3∧b=2):=by omega
 rcases this with ⟨rfl,rfl⟩|⟨rfl,rfl⟩|⟨rfl,rfl⟩|⟨rfl,rfl⟩<;>decide
theorem cAq (l:aC) (s:bJ):(nC l s).length≤2:=by
 unfold nC;split
 ·rename_i h;have he:=mG.2 (aRv h);rw[aCn he] at h;exact cBc h
 simp
theorem bPv (l:aC) (q:List bJ):(qB l q).length≤2*q.length:=by
 unfold qB;have:=aDp (f:=nC l) (c:=2) (L:=q) fun s _=>cAq l s;omega
section
variable {l:aC} (hl:gO l) (her:(iH l (gK gP l)).2=0)
include hl her
theorem bBd:aHe (u5 l)=true:=by
 have e:=aRk her;have hal:=aKn l;have hpl:(kB l).length≤l.xAh.length:=aEl l _;have hel:=hl.el;unfold aHe;rw[cD];constructor
 ·rw[e];exact dF ⟨by simp only[cJ];omega,by simp only;omega,by simp only[cJ];omega⟩
 rw[dI];intro r hr;obtain ⟨r0,i,hi,hp,hq,rfl⟩:=bGu hl her hr;have h1:=hp.len;have h2:=aUa l r0;have h3:=aJy l r0.xAf;have h4:=aJy l (uW l r0);have h5:=aUj l r0.xAf;have h6:=aUj l (uW l r0);have h7:=bPv l (r0.xAf++uW l r0);rw[fP] at h7;obtain ⟨f1,f2,f3⟩:=aTg l (ovF l r0) (qB l (r0.xAf++uW l r0));have f4:=aFo (flF l (ovF l r0) (qB l (r0.xAf++uW l r0))).1;have f5:=bGb (flF l (ovF l r0) (qB l (r0.xAf++uW l r0))).2.1;have q1:(uZ l r0).xAf=r0.xAf:=rfl;have q2:(uZ l r0).xAk=rW l r0.xAf:=hp.pt;have q3:(uZ l r0).xAe=jK l r0.xAf:=hp.sec;have q4:(uZ l r0).xAl=uW l r0:=rfl;have q5:(uZ l r0).xAs=rW l (uW l r0):=rfl;have q6:(uZ l r0).xAr=jK l (uW l r0):=rfl;have q7:(uZ l r0).xAy=kM (flF l (ovF l r0) (qB l (r0.xAf++uW l r0))).1:=rfl;have q8:(uZ l r0).xBj=mkR (flF l (ovF l r0) (qB l (r0.xAf++uW l r0))).2.1:=rfl;have q9:(uZ l r0).xBk=(flF l (ovF l r0) (qB l (r0.xAf++uW l r0))).2.2:=rfl;unfold fwR;rw[q1,q2,q3,q4,q5,q6,q7,q8,q9];exact dF aV
end
def wY (w:cE) (a b c p:DV):List DV:=((((eQ w).set 15 a).set 24 b).set 14 c).set 27 p
def wLy (w:cE) (l:aC):cE:={w with xAi:=l}
def wTb (w:cE) (t:dC):cE:={w with xAz:=t}
def wIn (w:cE) (s:aIf):cE:={w with xCh:=s}
def wMc (w:cE) (m:List lO):cE:={w with xBx:=m}
def wCe (w:cE) (e:aUs):cE:={w with xBi:=e}
def wPl (w:cE) (s:y9):cE:={w with xCk:=s}
section
variable (w:cE) (a b c p d:DV)
theorem cIk:(wY w a b c p).set 15 d=wY w d b c p:=rfl
theorem cKo:(wY w a b c p).set 24 d=wY w a d c p:=rfl
end
theorem aAb {P:Program} {ρ O:aN} {fn:Func} {R:aN→DV→Prop} {s:Nat} {cs0 cs:List DV} {r:DV} (t:Nat) (hf:fn.results= #[.tmp t]) (hO:O s=.bx cs0) (hl:cs0.length=cs.length) (hr:kT (· +100000) cs=cs) (ho:d6 (fun t=>decide (100000≤t)) cs=true) (hh:hi ρ=set (bS O) (s+100000) (.bx cs)) (h:ρ t=r) (hp:lG r=true) (hs:sh r=r) (hR:R (set O s (.bx cs)) r):rZ P fn O R .ret ρ:=by
 obtain ⟨k1,k2,k3⟩:=aRs hO hl hr ho hh;exact ⟨_,r,k1,k2,k3,by rw[hf];exact dX.is h hp hs,hR⟩
theorem aCs {P:Program} {ρ O:aN} {fn:Func} {R:aN→DV→Prop} {r:DV} (t:Nat) (hf:fn.results= #[.tmp t]) (h1:hi ρ=bS O) (h:ρ t=r) (hp:lG r=true) (hs:sh r=r) (hR:R O r):rZ P fn O R .ret ρ:=
 ⟨O,r,iK h1,fun _=>fR.refl _,fun _ h=>h,by rw[hf];exact dX.is h hp hs,hR⟩
abbrev aAu (l:aC):Int:=(iH l (gK gP l)).2
def kW (l:aC):DV:=.sl 1 l.xAa.length fun _=>[vb false]
theorem tO (l:aC) (f:Nat→Nat):yF f (kW l)=kW l:=rfl
theorem tK (l:aC) (q:Nat→Bool):fL q (kW l)=true:=rfl
def aIx (w:cE) (l:aC):cE:=wMc (wIn (wTb (wLy w l) (u5 l)) (stI (u5 l))) (bAg (u5 l))
def cUc (O:aN) (k:Nat) (w:cE) (l:aC) (O':aN) (r:DV):Prop:=
 (aAu l≠0∧O'=O∧r=vi (aAu l))∨(aAu l=0∧O'=set O k (.bx (wY (aIx w l) (.v (.slice none 0 0)) (.v (.slice none 0 0)) (kW l) (.v (.slice none 0 0))))∧r=vi 0)
theorem cEd {l:aC} (hl:gO l) (her:aAu l=0):(u5 l).xAg.length≤100∧(u5 l).xAk.length≤100:=by
 rw[aRk her];have h1:=aKn l;have h2:=bGc l;have h3:=hl.el;exact ⟨by show ((iH l (gK gP l)).1.map (uZ l)).length≤100;rw[cJ];omega,by show (kB l).length≤100;omega⟩
section
attribute [local go_sem] kD nS oX gR fI cJ Nat.mul_one iD gH iP ite_self wY wLy wTb wIn wMc wCe wPl aIx tO tK
set_option maxRecDepth 20000 in
theorem wT (O:aN) (w:cE) (l:aC) (hl:gO l) (k:Nat) (hk:O k=.bx (wY w (.v (.slice none 0 0)) (.v (.slice none 0 0)) (.v (.slice none 0 0)) (.v (.slice none 0 0)))):iC Tryz.prog O 17 [.bp k 0,.agg (aQ l)] (cUc O k w l):=by
 have hl1:=hl.sec;have hl2:=hl.el;have hl3:=hl.jo;have hl4:=hl.sg;have hl5:=hl.bl;obtain ⟨O1,rfl⟩: ∃O1,O=(set O1 k (.bx (wY w (.v (.slice none 0 0)) (.v (.slice none 0 0)) (.v (.slice none 0 0)) (.v (.slice none 0 0))))):=⟨O,by funext j;rw[aK];split<;>simp_all⟩;refine iT Tryz.func17 rfl bF fun w0 I0 A0=>?_;have hF:=pS w0 I0 (cG A0) (GOf []);refine bI hF [0,1] ?_;refine aW fun _ Z1=>gI hF [0,3] ?_;refine f9 (zU _ l hl) ?_;refine Z1 _ _ (aW fun _ Z2=>bI hF [0,3,5,6] ?_);refine cQ (fun c0=>?_) fun c0=>?_
 ·have her: ¬aAu l=0:=(by simpa using c0);refine bI hF [6] ?_;refine dV ?_
  (try simp only[fQ,d8]);exact aCs 4 rfl sx su rfl rfl (.inl ⟨her,rfl,rfl⟩)
 have her:aAu l=0:=(by simpa using c0);refine bU (Z2 _ _ (aW fun _ Z5=>aCa 23 [0,3,5] [0,3,5,15,16,17,18,19,20,21,22,23,24,25,26,27,28,29,30,31,32,33,34,35,36] [[],[],[1],[],[3],[3,4],[],[6],[3,4,5,6,7],[],[9],[3,4,5,6,7,8,9,10],[],[12],[3,4,5,6,7,8,9,10,11,12,13],[],[15],[3,4,5,6,7,8,9,10,11,12,13,14,15,16],[1,2,3,4,5,6,7,8,9,10,11,12,13,14,15,16,17],[0,1,2,3,4,5,6,7,8,9,10,11,12,13,14,15,16,17,18],[0,1,2,3,4,5,6,7,8,9,10,11,12,13,14,15,16,17,18,19],[0,1,2,3,4,5,6,7,8,9,10,11,12,13,14,15,16,17,18,19,20],[0,1,2,3,4,5,6,7,8,9,10,11,12,13,14,15,16,17,18,19,20,21]] [[22],[22],[22],[22],[22],[22],[22],[22],[22],[22],[22],[22],[22],[22],[22],[22],[22],[22],[22],[22],[22],[22],[]] (fun (_:_root_.Unit) bQ=>dU (cond (bQ 22) (set O1 k (.bx (wY (wLy w l) (.v (.slice none 0 0)) (.v (.slice none 0 0)) (.v (.slice none 0 0)) (.v (.slice none 0 0))))) (set O1 k (.bx (wY w (.v (.slice none 0 0)) (.v (.slice none 0 0)) (.v (.slice none 0 0)) (.v (.slice none 0 0)))))) [(0,.bp (k+100000) 0),(3,.bx (aQ l)),(5,.bx (dQ (u5 l))),(15,bC (bQ 0) (.bp (k+100000) 0)),(16,bC (bQ 1) (.bp 3 0)),(17,bC (bQ 2) (vs l.xAq)),(18,bC (bQ 3) (.bp 3 1)),(19,bC (bQ 4) (encL 1 eS l.xAe)),(20,bC (bQ 5) (encL 1 eS l.xAe)),(21,bC (bQ 6) (.bp 3 2)),(22,bC (bQ 7) (sL l.xAh)),(23,bC (bQ 8) (sL l.xAh)),(24,bC (bQ 9) (.bp 3 3)),(25,bC (bQ 10) (bBt l.xAd)),(26,bC (bQ 11) (bBt l.xAd)),(27,bC (bQ 12) (.bp 3 4)),(28,bC (bQ 13) (uK l.xAa)),(29,bC (bQ 14) (uK l.xAa)),(30,bC (bQ 15) (.bp 3 5)),(31,bC (bQ 16) (aRe l.xAu)),(32,bC (bQ 17) (aRe l.xAu)),(33,bC (bQ 18) (.agg (aQ l))),(34,bC (bQ 19) (.bp (k+100000) 0)),(35,bC (bQ 20) (.bp (k+100000) 0)),(36,bC (bQ 21) (.bp (k+100000) 0))]) (fun (_:_root_.Unit) bQ=>[]) () hF (fun iQ hiQ oQ hoQ gg bQ hbQ KQ hKQ=>?_) (fun gg=>?_)))
 ·rcases (by omega:iQ=0∨iQ=1∨iQ=2∨iQ=3∨iQ=4∨iQ=5∨iQ=6∨iQ=7∨iQ=8∨iQ=9∨iQ=10∨iQ=11∨iQ=12∨iQ=13∨iQ=14∨iQ=15∨iQ=16∨iQ=17∨iQ=18∨iQ=19∨iQ=20∨iQ=21∨iQ=22) with rfl|rfl|rfl|rfl|rfl|rfl|rfl|rfl|rfl|rfl|rfl|rfl|rfl|rfl|rfl|rfl|rfl|rfl|rfl|rfl|rfl|rfl|rfl
  ·exact qC hF hoQ hbQ (hKQ ())
  ·exact qC hF hoQ hbQ (hKQ ())
  ·exact qC hF hoQ hbQ (hKQ ())
  ·exact qC hF hoQ hbQ (hKQ ())
  ·exact qC hF hoQ hbQ (hKQ ())
  ·exact mfc hF hoQ hbQ (hKQ ()) (xC _ l.xAe aV)
  ·exact qC hF hoQ hbQ (hKQ ())
  ·exact qC hF hoQ hbQ (hKQ ())
  ·exact mfc hF hoQ hbQ (hKQ ()) (vS _ l.xAh aV)
  ·exact qC hF hoQ hbQ (hKQ ())
  ·exact qC hF hoQ hbQ (hKQ ())
  ·exact mfc hF hoQ hbQ (hKQ ()) (yD _ l.xAd aV)
  ·exact qC hF hoQ hbQ (hKQ ())
  ·exact qC hF hoQ hbQ (hKQ ())
  ·exact mfc hF hoQ hbQ (hKQ ()) (xO _ l.xAa aV)
  ·exact qC hF hoQ hbQ (hKQ ())
  ·exact qC hF hoQ hbQ (hKQ ())
  ·exact mfc hF hoQ hbQ (hKQ ()) (wI _ l.xAu aV)
  ·exact qC hF hoQ hbQ (hKQ ())
  ·exact qC hF hoQ hbQ (hKQ ())
  ·exact qC hF hoQ hbQ (hKQ ())
  ·exact qC hF hoQ hbQ (hKQ ())
  exact qC hF hoQ hbQ (hKQ ())
 refine lL ?_;refine Z5 _ _ (aW fun _ Z6=>?_);have hfw:=bBd hl her;have hct:=bOj hl her;have hsz:=cEd hl her;refine eO hF [0,3,5] ?_;refine Z6 _ _ (aW fun _ Z7=>gI hF [0,3,5] ?_);refine f9 (aCq _ (u5 l) hfw hct hsz.1 hsz.2) ?_;refine Z7 _ _ (aW fun _ Z8=>gI hF [0,3,5] ?_);refine f9 (aLa _ (u5 l) hsz.2) ?_;refine Z8 _ _ (aW fun _ Z9=>iU hF ?_);refine aNq [0,3] [] bF ?_;refine lL ?_;refine Z9 _ _ (bI hF [] ?_);refine dV ?_
 (try simp only[fQ,d8]);exact aAb (s:=k) (cs0:=wY w (.v (.slice none 0 0)) (.v (.slice none 0 0)) (.v (.slice none 0 0)) (.v (.slice none 0 0))) (cs:=wY (aIx w l) (.v (.slice none 0 0)) (.v (.slice none 0 0)) (kW l) (.v (.slice none 0 0))) 4 rfl (by rw[aK,if_pos rfl]) rfl st st st su rfl rfl (.inr ⟨her,rfl,rfl⟩)
end
theorem cIn {l:aC} {q:List bJ} (h:x4 l q=true):(q.map (·.fEl)).Nodup:=by
 unfold x4 at h;rw[cD] at h;unfold List.Nodup;rw[List.pairwise_map];refine aFj.2 fun i j hi hj hij=>?_;have h1:=aMz h.2 hj;unfold aHi at h1;rw[cD] at h1;have h2:=aMz h1.2 hij;unfold neN at h2;have h3:=dK h2;rw[z7,z7,cA,cA,cH hi,cH hj] at h3;exact h3
theorem cJr {l:aC} {ts:List cT} {bs:List eF} (h:qY l ts bs=0):aPi ts bs=false∧(List.range ts.length).all (bBb ts)=true∧wM l ts bs ts.length 0=0∧(o6 l bs).Nodup:=by
 unfold qY at h;split at h
 ·cases h
 rename_i h1;split at h
 ·cases h
 rename_i h2;split at h
 ·rename_i h3;exact absurd h h3
 rename_i h3;split at h
 ·rename_i h4;exact ⟨by simpa using h1,by simpa using h2,by omega,h4⟩
 cases h
theorem cMq {l:aC} {ts:List cT} {bs:List eF}: ∀(k i:Nat),wM l ts bs k i=0→ ∀j,j<k→sR l (ts.getD (i+j) default) (bs.getD (i+j) default)=0
 |0,_,_,_,hj=>absurd hj (aKv _)
 |k+1,i,h,j,hj=>by
  unfold wM at h;split at h
  ·rename_i h1;exact absurd h h1
  rename_i h1;rcases nL j with rfl|h0
  ·simpa using h1
  have:=cMq k (i+1) h (j-1) aV
  rwa [show i+1+(j-1)=i+j by omega] at this
theorem cIw {l:aC} {t:cT} {b:eF} (h:sR l t b=0):bCt t=0∧aVf l b=0∧b.xAn=t.xAn∧0<b.xAc.length∧0≤lX l ⟨(kU b).fEl,(kU b).xAv⟩:=by
 unfold sR at h;split at h
 ·cases h
 rename_i h1;split at h
 ·cases h
 rename_i h2;unfold bJk at h1;simp only[dR,not_or,ne_eq,zY] at h1;obtain ⟨⟨⟨⟨_,q1⟩,q2⟩,q3⟩,q4⟩:=h1;exact ⟨q1,q2,q3,by omega,by omega⟩
theorem aWr {l:aC} {ts:List cT} {bs:List eF} (h:qY l ts bs=0):bs.length=ts.length∧(0<ts.length∧ts.length≤6)∧ ∀i,i<ts.length→sR l (ts.getD i default) (bs.getD i default)=0:=by
 obtain ⟨h1,_,h3,_⟩:=cJr h;unfold aPi at h1;have h1:=aLh h1;refine ⟨by omega,by omega,fun i hi=>?_⟩;have:=cMq _ _ h3 i hi
 rwa [gH] at this
theorem aXb (l:aC) (ts:List cT) (bs:List eF):(aDi l ts bs).length=2:=by unfold aDi;split<;>rfl
theorem bKc (l:aC) (ts:List cT) (bs:List eF):(aDi l ts bs).take 2=aDi l ts bs:=jD (by rw[aXb];exact bW _)
theorem bMp (l:aC) (ts:List cT) (bs:List eF) (f:Nat→Nat):kT f (aDi l ts bs)=aDi l ts bs:=by unfold aDi;split<;>rfl
theorem bOe (l:aC) (ts:List cT) (bs:List eF) (p:Nat→Bool):d6 p (aDi l ts bs)=true:=by unfold aDi;split<;>rfl
abbrev m4 (l:List iR):DV:=encL 32 qE l
def aYk (t:cT) (b:eF):iR:=⟨b,0,0,0,bWu t⟩
def rJ (ts:List cT) (bs:List eF) (n:Nat):List iR:=(List.range n).map fun i=>aYk (ts.getD i default) (bs.getD i default)
theorem cIt (ts:List cT) (bs:List eF) (n:Nat):rJ ts bs (n+1)=rJ ts bs n++[aYk (ts.getD n default) (bs.getD n default)]:=by unfold rJ;rw[xS,eM];rfl
theorem bCx (ts:List cT) (bs:List eF) (n:Nat):(rJ ts bs n).length=n:=by simp[rJ]
theorem bWa (l:aC) (q:List bJ):(rW l q).length≤q.length:=eL (aFo _) (zK l q)
abbrev rgU (h:Hd) (B:List iR):Rg:=.row h 85 32 (B.map qE)
def nrv (s:aY):Bool:=decide (s.xAo≠2)
def bZi (l:aC) (b:eF):Bool:=(rW l b.xAc).all nrv
def sQ (l:aC) (ts:List cT) (bs:List eF):Int:=if qY l ts bs≠0 then qY l ts bs else if bs.all (bZi l)=true then 0 else 14
def cTy (O:aN) (k:Nat) (w:cE) (ts:List cT) (bs:List eF) (O':aN) (r:DV):Prop:=
 (sQ w.xAi ts bs≠0∧O'=O∧r=vi (sQ w.xAi ts bs))∨(sQ w.xAi ts bs=0∧O'=set O k (.bx (wY (wCe w (y4 w.xAi ts bs)) (m4 (rJ ts bs ts.length)) (.v (.slice none 0 0)) (kW w.xAi) (.v (.slice none 0 0))))∧r=vi 0)
section
attribute [local go_sem] kD nS oX gR fI cJ Nat.mul_one iD gH iP ite_self wY wLy wTb wIn wMc wCe wPl aIx tO tK kW aXb bKc bMp bOe
set_option maxRecDepth 20000 in
theorem vW (O:aN) (w:cE) (ts:List cT) (bs:List eF) (hl:gO w.xAi) (hck:mK w.xAi=0) (ht:ts.length≤10) (hb:bs.length≤10) (hq: ∀i,i<bs.length→(bs.getD i default).xAc.length≤100) (k:Nat) (hk:O k=.bx (wY w (.v (.slice none 0 0)) (.v (.slice none 0 0)) (kW w.xAi) (.v (.slice none 0 0)))):iC Tryz.prog O 19 [.bp k 0,lA ts,jZ bs] (cTy O k w ts bs):=by
 obtain ⟨O1,rfl⟩: ∃O1,O=(set O1 k (.bx (wY w (.v (.slice none 0 0)) (.v (.slice none 0 0)) (kW w.xAi) (.v (.slice none 0 0))))):=⟨O,by funext j;rw[aK];split<;>simp_all⟩;refine iT Tryz.func19 rfl bF fun w0 I0 A0=>?_;have hF:=pS w0 I0 (cG A0) (GOf []);refine bI hF [0,1,2] ?_;refine aW fun _ Z1=>gI hF [0,1,2] ?_;refine f9 (bCw _ w.xAi ts bs hl hck ht hb hq) ?_;refine Z1 _ _ (aW fun _ Z2=>bI hF [0,1,2,7,8] ?_);refine cQ (fun c0=>?_) fun c0=>?_
 ·have her:qY w.xAi ts bs≠0:=(by simpa using c0);have he:sQ w.xAi ts bs=qY w.xAi ts bs:=(by unfold sQ;rw[if_pos her]);refine bI hF [8] ?_;refine dV ?_
  (try simp only[fQ,d8]);exact aCs 6 rfl sx su rfl rfl (.inl ⟨by rw[he];exact her,rfl,by rw[he]⟩)
 have her:qY w.xAi ts bs=0:=(by simpa using c0);obtain ⟨hbt,hn,hbi⟩:=aWr her;have hcv:=bQm her;refine bU (Z2 _ _ (aW fun _ Z5=>bI hF [0,1,2,7] ?_));refine bZ ?_;rw[hcv];refine eY [0,1,2,7,30,31,32] (fun n sF ρ=> ∃i,n=bs.length-i∧sF=[]∧(i≤bs.length)∧(m0 (bZi w.xAi) bs i)∧ρ=dU (set O1 k (.bx (wY w (.v (.slice none 0 0)) (.v (.slice none 0 0)) (kW w.xAi) (.v (.slice none 0 0))))) [(0,.bp (k+100000) 0),(1,lA ts),(2,jZ bs),(7,.bx (rB (y4 w.xAi ts bs))),(30,jZ bs),(31,vi (bs.length:Nat)),(32,vi (i:Nat))]) _ ⟨0,rfl,rfl,?_,?_,?_⟩ ?_
 ·exact bD
 ·exact i8 _ _
 ·exact dT
 rintro n sF ρ ⟨i,rfl,rfl,l0_0,l0_1,rfl⟩ _ Z7;refine bI hF [0,1,2,7,30,31,32] ?_;refine aW fun _ Z9=>cQ (fun c1=>?_) fun c1=>?_
 ·refine bU (Z9 _ _ (aW fun _ Z10=>bZ (aW fun _ Z11=>?_)));have hqi:=hq i (by assumption);refine eO hF [0,1,2,7,30,31,32] ?_;refine Z11 _ _ (aW fun _ Z12=>?_);have hnd:((bs.getD i default).xAc.map (·.fEl)).Nodup:=(cIn (bDf (qR hck).2.1 (cIw (hbi i aV)).2.1).1);have hsw:=bWa w.xAi (bs.getD i default).xAc;refine aCa 10 [0,1,2,7,10,30,31,32] [0,1,2,7,10,30,31,32,36,37,38,39,40,41,42,43,44,45] [[],[0],[0,1],[0,1,2],[0,1,2,3],[],[5],[0,1,2,3,4,5,6],[0,1,2,3,4,5,6,7],[]] [[],[],[],[],[],[],[],[],[],[]] (fun (_:_root_.Unit) bQ=>dU (set O1 k (.bx (wY w (.v (.slice none 0 0)) (.v (.slice none 0 0)) (kW w.xAi) (.v (.slice none 0 0))))) [(0,.bp (k+100000) 0),(1,lA ts),(2,jZ bs),(7,.bx (rB (y4 w.xAi ts bs))),(10,.bx (jL (bs.getD i default))),(30,jZ bs),(31,vi (bs.length:Nat)),(32,vi (i:Nat)),(36,bC (bQ 0) (.bp (k+100000) 0)),(37,bC (bQ 1) (.bp (k+100000) 0)),(38,bC (bQ 2) (.bp (k+100000) 0)),(39,bC (bQ 3) (.bp (k+100000) 0)),(40,bC (bQ 4) (.agg (aQ w.xAi))),(41,bC (bQ 5) (.bp 10 0)),(42,bC (bQ 6) (fJ (bs.getD i default).xAc)),(43,bC (bQ 7) (qU (rW w.xAi (bs.getD i default).xAc))),(44,bC (bQ 8) (vi ((rW w.xAi (bs.getD i default).xAc).length:Nat))),(45,bC (bQ 9) (vi 0))]) (fun (_:_root_.Unit) bQ=>[]) () hF (fun iQ hiQ oQ hoQ gg bQ hbQ KQ hKQ=>?_) (fun gg=>?_)
  ·rcases (by omega:iQ=0∨iQ=1∨iQ=2∨iQ=3∨iQ=4∨iQ=5∨iQ=6∨iQ=7∨iQ=8∨iQ=9) with rfl|rfl|rfl|rfl|rfl|rfl|rfl|rfl|rfl|rfl
   ·exact qC hF hoQ hbQ (hKQ ())
   ·exact qC hF hoQ hbQ (hKQ ())
   ·exact qC hF hoQ hbQ (hKQ ())
   ·exact qC hF hoQ hbQ (hKQ ())
   ·exact qC hF hoQ hbQ (hKQ ())
   ·exact qC hF hoQ hbQ (hKQ ())
   ·exact qC hF hoQ hbQ (hKQ ())
   ·exact mfc hF hoQ hbQ (hKQ ()) (qW _ w.xAi (bs.getD i default).xAc hl hqi hnd)
   ·exact qC hF hoQ hbQ (hKQ ())
   exact qC hF hoQ hbQ (hKQ ())
  refine lL ?_;refine Z12 _ _ (bZ (eY [0,1,2,7,30,31,32,43,44,45] (fun n sF ρ=> ∃j,n=(rW w.xAi (bs.getD i default).xAc).length-j∧sF=[]∧(j≤(rW w.xAi (bs.getD i default).xAc).length)∧(m0 nrv (rW w.xAi (bs.getD i default).xAc) j)∧ρ=dU (set O1 k (.bx (wY w (.v (.slice none 0 0)) (.v (.slice none 0 0)) (kW w.xAi) (.v (.slice none 0 0))))) [(0,.bp (k+100000) 0),(1,lA ts),(2,jZ bs),(7,.bx (rB (y4 w.xAi ts bs))),(30,jZ bs),(31,vi (bs.length:Nat)),(32,vi (i:Nat)),(43,qU (rW w.xAi (bs.getD i default).xAc)),(44,vi ((rW w.xAi (bs.getD i default).xAc).length:Nat)),(45,vi (j:Nat))]) _ ⟨0,rfl,rfl,?_,?_,?_⟩ ?_))
  ·exact bD
  ·exact i8 _ _
  ·exact dT
  rintro n sF ρ ⟨j,rfl,rfl,l1_0,l1_1,rfl⟩ _ Z13;refine bI hF [0,1,2,7,30,31,32,43,44,45] ?_;refine aW fun _ Z15=>cQ (fun c2=>?_) fun c2=>?_
  ·refine bU (Z15 _ _ (aW fun _ Z16=>bZ (bI hF [0,1,2,7,30,31,32,43,44,45] ?_)));refine bI hF [0,1,2,7,12,30,31,32,43,44,45] ?_;refine cQ (fun c3=>?_) fun c3=>?_
   ·have hr:bs.all (bZi w.xAi)=false:=(nK (by assumption) (nK (f:=nrv) (by assumption) (e9 (by simpa using c3))));have he:sQ w.xAi ts bs=14:=(by unfold sQ;rw[if_neg (by rw[her];simp),hr];rfl);refine bI hF [] ?_;refine dV ?_
    (try simp only[fQ,d8]);exact aCs 6 rfl sx su rfl rfl (.inl ⟨by rw[he];decide,rfl,by rw[he]⟩)
   refine bU (Z16 _ _ (eO hF [0,1,2,7,30,31,32,43,44,45] ?_));refine Z13 _ _ _ bD ⟨j+1,rfl,rfl,bD,?_,dT⟩
   ·exact jA l1_1 (dF (by simpa using c3))
  refine fV (Z10 _ _ (eO hF [0,1,2,7,30,31,32] ?_));refine Z7 _ _ _ bD ⟨i+1,rfl,rfl,bD,?_,dT⟩
  ·exact jA l0_1 (pF l1_1 aV)
 refine fV (Z5 _ _ (aW fun _ Z20=>?_));have he:sQ w.xAi ts bs=0:=(by unfold sQ;rw[if_neg (by rw[her];simp),if_pos (pF l0_1 aV)]);refine eO hF [0,1,2,7] ?_;refine Z20 _ _ (aW fun _ Z21=>bI hF [0,1,2] ?_);refine bZ (kF [] [] 85 32 rfl ?_);refine eY [0,2,59,60,61] (fun n sF ρ=> ∃i,∃aU,n=ts.length-i∧sF=[rgU aU (rJ ts bs i)]∧(i≤ts.length)∧ρ=dU (set O1 k (.bx (wY (wCe w (y4 w.xAi ts bs)) (aU.sl (rJ ts bs i).length) (.v (.slice none 0 0)) (kW w.xAi) (.v (.slice none 0 0))))) [(0,.bp (k+100000) 0),(2,jZ bs),(59,lA ts),(60,vi (ts.length:Nat)),(61,vi (i:Nat))]) _ ⟨0,mJ,rfl,rfl,?_,?_⟩ ?_
 ·exact bD
 ·exact dT
 rintro n sF ρ ⟨i,aU,rfl,rfl,l2_0,rfl⟩ _ Z23;have hul:=bCx ts bs i;refine bI hF [0,1,2,59,60,61] ?_;refine aW fun _ Z25=>cQ (fun c4=>?_) fun c4=>?_
 ·refine bU (Z25 _ _ (aW fun _ Z26=>bZ (aW fun _ Z27=>?_)));have hqi:=hq i aV;refine eO hF [0,1,2,59,60,61] ?_;refine Z27 _ _ (bI hF [0,1,2,13,14,59,60,61] ?_);refine aW fun _ Z29=>gI hF [0,1,2,14,15,59,60,61] ?_;refine f9 (dA (jQ _ (bs.getD i default).xAc aV)) ?_;refine Z29 _ _ (aCa 16 [0,1,2,14,15,59,60,61] [0,2,14,15,59,60,61,74,75,76,77,78,80,81,82,83,84,85,86,87,88,79] [[],[],[1],[1,2],[1,2,3],[1,2,3,4],[],[],[7],[6,7,8],[6,7,8,9],[1,2,3,4,5,6,7,8,9,10],[0,1,2,3,4,5,6,7,8,9,10,11],[0,1,2,3,4,5,6,7,8,9,10,11,12],[0,1,2,3,4,5,6,7,8,9,10,11,12,13],[0,1,2,3,4,5,6,7,8,9,10,11,12,13,14]] [[15],[5,11,15],[5,11,15],[5,11,15],[5,11,15],[11,15],[11,15],[11,15],[11,15],[11,15],[11,15],[15],[15],[15],[15],[]] (fun (hx:Hd) bQ=>dU (cond (bQ 15) (set O1 k (.bx (wY (wCe w (y4 w.xAi ts bs)) (hx.sl (rJ ts bs (i+1)).length) (.v (.slice none 0 0)) (kW w.xAi) (.v (.slice none 0 0))))) (set O1 k (.bx (wY (wCe w (y4 w.xAi ts bs)) (aU.sl (rJ ts bs i).length) (.v (.slice none 0 0)) (kW w.xAi) (.v (.slice none 0 0)))))) [(0,.bp (k+100000) 0),(2,jZ bs),(14,.bx (gX (ts.getD i default))),(15,.bx (jL (bs.getD i default))),(59,lA ts),(60,vi (ts.length:Nat)),(61,vi (i:Nat)),(74,bC (bQ 0) (.bp (k+100000) 0)),(75,bC (bQ 1) (.bp (k+100000) 0)),(76,bC (bQ 2) (.bp (k+100000) 0)),(77,bC (bQ 3) (.bp (k+100000) 0)),(78,bC (bQ 4) (.bp (k+100000) 15)),(80,bC (bQ 6) (.agg (jL (bs.getD i default)))),(81,bC (bQ 7) (.agg (gX (ts.getD i default)))),(82,bC (bQ 8) (.agg (bWx (bWu (ts.getD i default))))),(83,bC (bQ 9) (.agg (qE (aYk (ts.getD i default) (bs.getD i default))))),(84,bC (bQ 10) (.sl 32 1 (fun i_=>[qE (aYk (ts.getD i default) (bs.getD i default))].getD i_ []))),(85,bC (bQ 11) (hx.sl (rJ ts bs (i+1)).length)),(86,bC (bQ 12) (.bp (k+100000) 0)),(87,bC (bQ 13) (.bp (k+100000) 0)),(88,bC (bQ 14) (.bp (k+100000) 15)),(79,(cond (bQ 11) (.any) (cond (bQ 5) (aU.sl (rJ ts bs i).length) (.any))))]) (fun (hx:Hd) bQ=>(cond (bQ 11) [rgU hx (rJ ts bs (i+1))] [rgU aU (rJ ts bs i)])) ⟨none,none,0⟩ hF (fun iQ hiQ oQ hoQ hx bQ hbQ KQ hKQ=>?_) (fun hx=>?_))
  ·rcases (by omega:iQ=0∨iQ=1∨iQ=2∨iQ=3∨iQ=4∨iQ=5∨iQ=6∨iQ=7∨iQ=8∨iQ=9∨iQ=10∨iQ=11∨iQ=12∨iQ=13∨iQ=14∨iQ=15) with rfl|rfl|rfl|rfl|rfl|rfl|rfl|rfl|rfl|rfl|rfl|rfl|rfl|rfl|rfl|rfl
   ·exact qC hF hoQ hbQ (hKQ hx)
   ·exact qC hF hoQ hbQ (hKQ hx)
   ·exact qC hF hoQ hbQ (hKQ hx)
   ·exact qC hF hoQ hbQ (hKQ hx)
   ·exact qC hF hoQ hbQ (hKQ hx)
   ·exact qC hF hoQ hbQ (hKQ hx)
   ·exact qC hF hoQ hbQ (hKQ hx)
   ·exact qC hF hoQ hbQ (hKQ hx)
   ·exact mfc hF hoQ hbQ (hKQ hx) (bCj _ (ts.getD i default))
   ·exact qC hF hoQ hbQ (hKQ hx)
   ·exact qC hF hoQ hbQ (hKQ hx)
   ·obtain rfl:=dO hoQ;simp only[stM,tE,tI,oK,oS,pH,jC,jE] at hbQ;rw[hbQ.1];simp only[fI];show lW _ _ _ _ _ _ _ _;refine iI (s1:=[]) (s2:=[]) 79 eN (by ((try simp only[go_sem,seval,hbQ]);try simp (disch:=omega) only[go_sem,seval,hbQ])<;>rfl) rfl ?_;refine nT [] [] 85 32 ((rJ ts bs (i+1)).map qE) 85 eN ?_;show lW _ _ _ _ _ _ _ _;refine fK hF ?_;refine bV rfl bF bF ?_;((try simp only[go_sem,seval,hbQ]);try simp (disch:=omega) only[go_sem,seval,hbQ])
    repeat refine cP kN ?_
    refine ⟨rfl,by ((try simp only[go_sem,seval,hbQ]);try simp (disch:=omega) only[go_sem,seval,hbQ])<;>(first|rfl|(rw[cIt,eM];try rfl)),fun hx=>?_⟩
    try ((try simp only[go_sem,seval,hbQ]);try simp (disch:=omega) only[go_sem,seval,hbQ])
    refine hKQ hx _ _ ?_ ?_
    ·first|rfl|(((try simp only[go_sem,seval,hbQ]);try simp (disch:=omega) only[go_sem,seval,hbQ]);done)|(((try simp only[go_sem,seval,hbQ]);try simp (disch:=omega) only[go_sem,seval,hbQ])<;>rfl)
    ((try simp only[go_sem,seval,hbQ]);try simp (disch:=omega) only[go_sem,seval,hbQ])<;>first|rfl|simp
   ·exact qC hF hoQ hbQ (hKQ hx)
   ·exact qC hF hoQ hbQ (hKQ hx)
   ·exact qC hF hoQ hbQ (hKQ hx)
   exact qC hF hoQ hbQ (hKQ hx)
  refine lL ?_;refine Z26 _ _ (eO hF [0,1,2,59,60,61] ?_);refine Z23 _ _ _ bD ⟨i+1,hx,rfl,rfl,bD,dT⟩
 refine fV (Z21 _ _ (aW fun _ Z30=>?_));obtain rfl:i=ts.length:=by omega
 refine gL (s1:=[]) (s2:=[]) (k+100000) 15 (cs:=wY (wCe w (y4 w.xAi ts bs)) (aU.sl (rJ ts bs ts.length).length) (.v (.slice none 0 0)) (kW w.xAi) (.v (.slice none 0 0))) su (by rw[cJ];rfl) rfl (eK.frzL qE (rJ ts bs ts.length)) rfl ?_;rw[cIk];refine eO hF [] ?_;refine Z30 _ _ (dV ?_)
 (try simp only[fQ,d8]);exact aAb (s:=k) (cs0:=wY w (.v (.slice none 0 0)) (.v (.slice none 0 0)) (kW w.xAi) (.v (.slice none 0 0))) (cs:=wY (wCe w (y4 w.xAi ts bs)) (m4 (rJ ts bs ts.length)) (.v (.slice none 0 0)) (kW w.xAi) (.v (.slice none 0 0))) 6 rfl (by rw[aK,if_pos rfl]) rfl st st st su rfl rfl (.inr ⟨he,rfl,rfl⟩)
end
def cNq (a b:bL):Bool:=bLn a.xAr b.xAe&& !bLl a b||bLn b.xAr a.xAe&& !bLl b a
def cNc (a b:bL):Bool:=bLn a.xAr b.xAr&& !bLl a b&& !bLl b a
def bt3 (a b:bL):Int:=if cNc a b=true then 4 else 0
def bt2 (a b:bL):Int:=if cNq a b=true then 3 else bt3 a b
def bt1 (a b:bL):Int:=if bLn a.xAe b.xAe=true then 2 else bt2 a b
def bIp (a b:bL):Int:=if aLm (aMs a) (aMs b)=false then 1 else bt1 a b
def btN (a b:bL):Nat→Int
 |0=>bIp a b
 |1=>bt1 a b
 |2=>bt2 a b
 |3=>bt3 a b
 |_=>0
abbrev bUq (l:List bL):DV:=encL 14 bK l
theorem tS (O:aN) (a b:bL) (ha:Sml a) (hb:Sml b):aZ Tryz.prog O 208 [.agg (bK a++bK b)] (vb (!aLm (aMs a) (aMs b))):=by
 refine eV Tryz.func208 ?_;refine aB [0] ?_;refine aA fun _ Z1=>gJ [1] [] ?_;refine cdz (jB [aCc [a.xAk,a.xAs,a.xAy]] (.cons (eK.litL [a.xAk,a.xAs,a.xAy] rfl rfl) .nil) (oH _ [a.xAk,a.xAs,a.xAy] (by have:=aVp ha;unfold aMs at this;omega))) ?_;refine cdz (jB [aCc [b.xAk,b.xAs,b.xAy]] (.cons (eK.litL [b.xAk,b.xAs,b.xAy] rfl rfl) .nil) (oH _ [b.xAk,b.xAs,b.xAy] (by have:=aVp hb;unfold aMs at this;omega))) ?_;refine cdz (aBy _ (aMs a) (aMs b)) ?_;refine Z1 _ (aL (dN 2 ?_));exact xd
theorem wS (O:aN) (a b:bL) (ha:Sml a) (hb:Sml b):aZ Tryz.prog O 209 [.agg (bK a++bK b)] (vb (bLn a.xAe b.xAe)):=by
 refine eV Tryz.func209 ?_;refine aB [0] ?_;refine aA fun _ Z1=>bN [1] ?_;refine f9 (nZ _ a.xAe b.xAe (by have:=ha.s;omega) (by have:=hb.s;omega)) ?_;refine Z1 _ (aL (dN 2 ?_));exact xd
theorem vN (O:aN) (a b:bL) (ha:Sml a) (hb:Sml b):aZ Tryz.prog O 210 [.agg (bK a++bK b)] (vb (cNq a b)):=by
 refine eV Tryz.func210 ?_;refine aB [0] ?_;refine aA fun _ Z1=>bN [1] ?_;refine f9 (nZ _ a.xAr b.xAe (by have:=ha.v;omega) (by have:=hb.s;omega)) ?_;refine rO (fun g0=>fY _ a b) ?_;refine rO (fun g1=>nZ _ b.xAr a.xAe (by have:=hb.v;omega) (by have:=ha.s;omega)) ?_;refine rO (fun g2=>fY _ b a) ?_;refine Z1 _ (aL (dN 2 ?_));exact xd
theorem tX (O:aN) (a b:bL) (ha:Sml a) (hb:Sml b):aZ Tryz.prog O 211 [.agg (bK a++bK b)] (vb (cNc a b)):=by
 refine eV Tryz.func211 ?_;refine aB [0] ?_;refine aA fun _ Z1=>bN [1] ?_;refine f9 (nZ _ a.xAr b.xAr (by have:=ha.v;omega) (by have:=hb.v;omega)) ?_;refine rO (fun g0=>fY _ a b) ?_;refine rO (fun g1=>fY _ b a) ?_;refine Z1 _ (aL (dN 2 ?_));exact xd
section
attribute [local go_sem] uJ
theorem aAz (O:aN) (a b:bL) (ha:Sml a) (hb:Sml b):aZ Tryz.prog O 185 [.agg (bK a),.agg (bK b)] (vi (bIp a b)):=by
 refine eV Tryz.func185 ?_;refine aB [0,1] ?_;refine aB [2,3] ?_;refine aA fun _ Z2=>aB [2,3,5] ?_;refine aI (aX [2,3,9,10,11] (fun n ρ=> ∃i,n=4-i∧(i≤4)∧(bIp a b=btN a b i)∧ρ=dU O [(2,.bx (bK a)),(3,.bx (bK b)),(9,.sl 1 4 fun i=>([[.fn 208 [] []],[.fn 209 [] []],[.fn 210 [] []],[.fn 211 [] []]]:List (List DV)).getD i []),(10,vi 4),(11,vi (i:Nat))]) _ ⟨0,rfl,?_,?_,?_⟩ ?_)
 ·exact bD
 ·rfl
 ·exact dT
 rintro n ρ ⟨i,rfl,l0_0,l0_1,rfl⟩ _ Z4;rcases (show i=0∨i=1∨i=2∨i=3∨i=4 by omega) with rfl|rfl|rfl|rfl|rfl
 ·skip
  refine aB [2,3,5,9,10,11] ?_;refine aA fun _ Z6=>dY true (by rfl) (rfl) (fun _=>?_) (fun h=>by cases h);refine aD (Z6 _ (aA fun _ Z7=>aI (aB [2,3,5,9,10,11] ?_)));refine aA fun _ Z9=>bN [2,3,5,6,7,9,10,11,14] ?_;refine f9 (tS _ a b ha hb) ?_;refine Z9 _ (aO (fun c1=>?_) fun c1=>?_)
  ·refine aB [6] ?_;refine aL (dN 4 ?_);exact dX.is (by simp (disch:=omega) only[go_sem,seval]<;>(rw[l0_1];simp[btN,bIp,c1])) rfl rfl
  refine aD (Z7 _ (bE [2,3,5,9,10,11] ?_));refine Z4 _ _ bD ⟨1,rfl,bD,?_,dT⟩
  ·rw[l0_1];simp only[btN,bIp];simp[c1]
 ·skip
  refine aB [2,3,5,9,10,11] ?_;refine aA fun _ Z12=>dY true (by rfl) (rfl) (fun _=>?_) (fun h=>by cases h);refine aD (Z12 _ (aA fun _ Z13=>aI (aB [2,3,5,9,10,11] ?_)));refine aA fun _ Z15=>bN [2,3,5,6,7,9,10,11,14] ?_;refine f9 (wS _ a b ha hb) ?_;refine Z15 _ (aO (fun c3=>?_) fun c3=>?_)
  ·refine aB [6] ?_;refine aL (dN 4 ?_);exact dX.is (by simp (disch:=omega) only[go_sem,seval]<;>(rw[l0_1];simp[btN,bt1,c3])) rfl rfl
  refine aD (Z13 _ (bE [2,3,5,9,10,11] ?_));refine Z4 _ _ bD ⟨2,rfl,bD,?_,dT⟩
  ·rw[l0_1];simp only[btN,bt1];simp[c3]
 ·skip
  refine aB [2,3,5,9,10,11] ?_;refine aA fun _ Z18=>dY true (by rfl) (rfl) (fun _=>?_) (fun h=>by cases h);refine aD (Z18 _ (aA fun _ Z19=>aI (aB [2,3,5,9,10,11] ?_)));refine aA fun _ Z21=>bN [2,3,5,6,7,9,10,11,14] ?_;refine f9 (vN _ a b ha hb) ?_;refine Z21 _ (aO (fun c5=>?_) fun c5=>?_)
  ·refine aB [6] ?_;refine aL (dN 4 ?_);exact dX.is (by simp (disch:=omega) only[go_sem,seval]<;>(rw[l0_1];simp[btN,bt2,c5])) rfl rfl
  refine aD (Z19 _ (bE [2,3,5,9,10,11] ?_));refine Z4 _ _ bD ⟨3,rfl,bD,?_,dT⟩
  ·rw[l0_1];simp only[btN,bt2];simp[c5]
 ·skip
  refine aB [2,3,5,9,10,11] ?_;refine aA fun _ Z24=>dY true (by rfl) (rfl) (fun _=>?_) (fun h=>by cases h);refine aD (Z24 _ (aA fun _ Z25=>aI (aB [2,3,5,9,10,11] ?_)));refine aA fun _ Z27=>bN [2,3,5,6,7,9,10,11,14] ?_;refine f9 (tX _ a b ha hb) ?_;refine Z27 _ (aO (fun c7=>?_) fun c7=>?_)
  ·refine aB [6] ?_;refine aL (dN 4 ?_);exact dX.is (by simp (disch:=omega) only[go_sem,seval]<;>(rw[l0_1];simp[btN,bt3,c7])) rfl rfl
  refine aD (Z25 _ (bE [2,3,5,9,10,11] ?_));refine Z4 _ _ bD ⟨4,rfl,bD,?_,dT⟩
  ·rw[l0_1];simp only[btN,bt3];simp[c7]
 skip
 refine aB [2,3,5,9,10,11] ?_;refine aA fun _ Z30=>dY false (by rfl) (rfl) (fun h=>by cases h) (fun _=>?_);refine bA (Z2 _ (aB [] ?_));refine aL (dN 4 ?_);exact dX.is (by simp (disch:=omega) only[go_sem,seval]<;>(rw[l0_1];rfl)) rfl rfl
end
attribute [go_sem] uJ
abbrev cL (l:List bR):DV:=encL 2 kQ l
abbrev aCf (l:List Stop):DV:=encL 4 pT l
def spB (t:dC) (s:Stop):Bool:=decide (0≤s.xBo∧s.xBo<t.xAg.length∧0≤s.xBf∧s.xBf≤1073741824∧1≤s.xBe∧s.xBe≤1000∧0≤s.xBp∧s.xBp≤100)
def plB (t:dC) (p:bR):Bool:=decide (1≤p.xAt∧p.xAt≤99)&&p.xAb.all (spB t)
def lnB (p:bR):Bool:=decide (1≤p.xAb.length∧p.xAb.length≤4)
def trN (tr:List bR) (i:Nat):Int:=(tr.getD i default).xAt
def aXq (tr:List bR) (i:Nat):Bool:=(List.range i).all fun k=> !(trN tr i==trN tr k)
def bCe (p:bR) (j:Nat):Stop:=p.xAb.getD j default
def rtT (t:dC) (s:Stop):bL:=t.xAg.getD s.xBo.toNat default
def fwB (t:dC) (p:bR) (j:Nat):Bool:=bLl (rtT t (bCe p j)) (rtT t (bCe p (j+1)))
def odB (p:bR) (j:Nat):Bool:=decide ((bCe p j).xBf<(bCe p (j+1)).xBf)
def fwA (t:dC) (p:bR):Bool:=(List.range (p.xAb.length-1)).all (fwB t p)
def odA (p:bR):Bool:=(List.range (p.xAb.length-1)).all (odB p)
def lV (t:dC) (tr:List bR):Int:=
 if 4<tr.length then 2 else if tr.all lnB=false then 2 else if tr.all (plB t)=false then 1 else if (List.range tr.length).all (aXq tr)=false then 8 else if tr.all (fwA t)=false then 10 else if tr.all odA=false then 7 else 0
section
variable {t:dC} {tr:List bR}
theorem cOm (h:4<tr.length):lV t tr=2:=by rw[lV,if_pos h]
theorem cRz (h: ¬4<tr.length) (h2:tr.all lnB=false):lV t tr=2:=by rw[lV,if_neg h,if_pos h2]
theorem cQp (h: ¬4<tr.length) (h2:tr.all lnB=true) (h3:tr.all (plB t)=false):lV t tr=1:=by rw[lV,if_neg h,if_neg (by rw[h2];simp),if_pos h3]
theorem cNz (h: ¬4<tr.length) (h2:tr.all lnB=true) (h3:tr.all (plB t)=true) (h4:(List.range tr.length).all (aXq tr)=false):lV t tr=8:=by rw[lV,if_neg h,if_neg (by rw[h2];simp),if_neg (by rw[h3];simp),if_pos h4]
theorem cMo (h: ¬4<tr.length) (h2:tr.all lnB=true) (h3:tr.all (plB t)=true) (h4:(List.range tr.length).all (aXq tr)=true) (h5:tr.all (fwA t)=false):lV t tr=10:=by rw[lV,if_neg h,if_neg (by rw[h2];simp),if_neg (by rw[h3];simp),if_neg (by rw[h4];simp),if_pos h5]
theorem cQe (h: ¬4<tr.length) (h2:tr.all lnB=true) (h3:tr.all (plB t)=true) (h4:(List.range tr.length).all (aXq tr)=true) (h5:tr.all (fwA t)=true) (h6:tr.all odA=false):lV t tr=7:=by rw[lV,if_neg h,if_neg (by rw[h2];simp),if_neg (by rw[h3];simp),if_neg (by rw[h4];simp),if_neg (by rw[h5];simp),if_pos h6]
theorem cMc (h: ¬4<tr.length) (h2:tr.all lnB=true) (h3:tr.all (plB t)=true) (h4:(List.range tr.length).all (aXq tr)=true) (h5:tr.all (fwA t)=true) (h6:tr.all odA=true):lV t tr=0:=by rw[lV,if_neg h,if_neg (by rw[h2];simp),if_neg (by rw[h3];simp),if_neg (by rw[h4];simp),if_neg (by rw[h5];simp),if_neg (by rw[h6];simp)]
theorem cOb (h:lV t tr=0):tr.length≤4∧tr.all lnB=true∧tr.all (plB t)=true∧(List.range tr.length).all (aXq tr)=true∧tr.all (fwA t)=true∧tr.all odA=true:=by
 unfold lV at h;split at h;cases h;split at h;cases h;split at h;cases h;split at h;cases h;split at h;cases h;split at h;cases h;rename_i h1 h2 h3 h4 h5 h6;exact ⟨by omega,by simpa using h2,by simpa using h3,by simpa using h4,by simpa using h5,by simpa using h6⟩
theorem cDa {s:Stop} (h:spB t s=true):0≤s.xBo∧s.xBo<t.xAg.length∧0≤s.xBf∧s.xBf≤1073741824∧1≤s.xBe∧s.xBe≤1000∧0≤s.xBp∧s.xBp≤100:=dK h
theorem cSk {p:bR} (h:plB t p=true):(1≤p.xAt∧p.xAt≤99)∧ ∀j,j<p.xAb.length→spB t (bCe p j)=true:=by
 unfold plB at h;rw[cD] at h;exact ⟨dK h.1,fun j hj=>rY h.2 hj⟩
end
theorem aCb (O:aN) (t:dC) (p:bR):aZ Tryz.prog O 67 [.agg (dQ t),.agg (kQ p)] (vb (plB t p)):=by
 refine bG 0 rfl (.agg (d:=bUq t.xAg) (by simp[dQ]) (.sl _ _ _)) fun ht=>?_;refine bG 1 rfl (.agg (d:=aCf p.xAb) (by simp[kQ]) (.sl _ _ _)) fun hp=>?_;refine eV Tryz.func67 ?_;refine aB [0,1] ?_;refine aA fun _ Z1=>aB [2,3] ?_;refine aO (fun c0=>?_) fun c0=>?_
 ·refine aB [] ?_;refine aL (dN 4 (xb ?_))
  (rw[plB,e9 aV];rfl)
 refine aD (Z1 _ (aA fun _ Z4=>aB [2,3] ?_));refine aI (aX [2,3,17,18] (fun n ρ=> ∃i,n=p.xAb.length-i∧(i≤p.xAb.length)∧(m0 (spB t) p.xAb i)∧ρ=dU O [(2,.bx (dQ t)),(3,.bx (kQ p)),(17,vi (p.xAb.length:Nat)),(18,vi (i:Nat))]) _ ⟨0,rfl,?_,?_,?_⟩ ?_)
 ·exact bD
 ·exact i8 _ _
 ·exact dT
 rintro n ρ ⟨i,rfl,l0_0,l0_1,rfl⟩ _ Z6;refine aB [2,3,17,18] ?_;refine aA fun _ Z8=>aO (fun c1=>?_) fun c1=>?_
 ·refine aD (Z8 _ (aA fun _ Z9=>aI (aB [2,3,17,18] ?_)));refine aB [2,3,5,17,18] ?_;refine aA fun _ Z12=>aB [2,3,6,17,18] ?_;refine aO (fun c2=>?_) fun c2=>?_
  ·refine aB [] ?_;refine aL (dN 4 (xb ?_))
   (rw[plB,nK c1 (e9 aV),aBt])
  refine aD (Z12 _ (aB [2,3,6,17,18] ?_));refine aO (fun c3=>?_) fun c3=>?_
  ·refine aB [] ?_;refine aL (dN 4 (xb ?_))
   (rw[plB,nK c1 (e9 aV),aBt])
  refine aD (Z9 _ (bE [2,3,17,18] ?_));refine Z6 _ _ bD ⟨i+1,rfl,bD,?_,dT⟩
  ·exact jA l0_1 (dF aV)
 refine bA (Z4 _ (aB [] ?_));refine aL (dN 4 (xb ?_))
 (rw[plB,pF l0_1 aV,dF aV];rfl)
theorem cTf {tr:List bR} {i k:Nat} (hk:k<i) (h:trN tr i=trN tr k):aXq tr i=false:=rR hk (by rw[h];simp)
theorem bMe {tr:List bR} (h:tr.all lnB=true) {i:Nat} (hi:i<tr.length):1≤(tr.getD i default).xAb.length∧(tr.getD i default).xAb.length≤4:=dK (p:=1≤(tr.getD i default).xAb.length∧(tr.getD i default).xAb.length≤4) (rY (f:=lnB) h hi)
theorem aXm {t:dC} {tr:List bR} (h:tr.all (plB t)=true) {i j:Nat} (hi:i<tr.length) (hj:j<(tr.getD i default).xAb.length):spB t ((tr.getD i default).xAb.getD j default)=true:=(cSk (rY h hi)).2 j hj
theorem cAp {t:dC} {s:Stop} (h:spB t s=true):0≤s.xBo∧s.xBo.toNat<t.xAg.length:=by have:=cDa h;omega
theorem oY (O:aN) (t:dC) (tr:List bR):aZ Tryz.prog O 28 [.agg (dQ t),cL tr] (vi (lV t tr)):=by
 refine bG 0 rfl (.agg (d:=bUq t.xAg) (by simp[dQ]) (.sl _ _ _)) fun ht=>?_;refine bG 1 rfl (.sl _ _ _) fun hn=>?_;refine eV Tryz.func28 ?_;refine aB [0,1] ?_;refine aA fun _ Z1=>aB [1,2] ?_;refine aO (fun c0=>?_) fun c0=>?_
 ·refine aB [] ?_;refine aL (dN 4 ?_);exact dX.is (by simp (disch:=omega) only[go_sem,seval]<;>(rw[cOm c0])) rfl rfl
 refine aD (Z1 _ (aA fun _ Z4=>aB [1,2] ?_));refine aI (aX [1,2,24,25,26] (fun n ρ=> ∃i,n=tr.length-i∧(i≤tr.length)∧(m0 lnB tr i)∧ρ=dU O [(1,cL tr),(2,.bx (dQ t)),(24,cL tr),(25,vi (tr.length:Nat)),(26,vi (i:Nat))]) _ ⟨0,rfl,?_,?_,?_⟩ ?_)
 ·exact bD
 ·exact i8 _ _
 ·exact dT
 rintro n ρ ⟨i,rfl,l0_0,l0_1,rfl⟩ _ Z6;refine aB [1,2,24,25,26] ?_;refine aA fun _ Z8=>aO (fun c1=>?_) fun c1=>?_
 ·refine aD (Z8 _ (aA fun _ Z9=>aI (aB [1,2,24,25,26] ?_)));refine aB [1,2,6,24,25,26] ?_;refine aO (fun c2=>?_) fun c2=>?_
  ·refine aB [] ?_;refine aL (dN 4 ?_);exact dX.is (by simp (disch:=omega) only[go_sem,seval]<;>(rw[cRz aV (nK c1 (e9 aV))])) rfl rfl
  refine aD (Z9 _ (bE [1,2,24,25,26] ?_));refine Z6 _ _ bD ⟨i+1,rfl,bD,?_,dT⟩
  ·exact jA l0_1 (dF aV)
 refine bA (Z4 _ (aA fun _ Z13=>aB [1,2] ?_));refine aI ?_;have hA:=pF l0_1 aV;refine aX [1,2,41,42,43] (fun n ρ=> ∃i,n=tr.length-i∧(i≤tr.length)∧(m0 (plB t) tr i)∧ρ=dU O [(1,cL tr),(2,.bx (dQ t)),(41,cL tr),(42,vi (tr.length:Nat)),(43,vi (i:Nat))]) _ ⟨0,rfl,?_,?_,?_⟩ ?_
 ·exact bD
 ·exact i8 _ _
 ·exact dT
 rintro n ρ ⟨i,rfl,l1_0,l1_1,rfl⟩ _ Z15;refine aB [1,2,41,42,43] ?_;refine aA fun _ Z17=>aO (fun c3=>?_) fun c3=>?_
 ·refine aD (Z17 _ (aA fun _ Z18=>aI (aB [1,2,41,42,43] ?_)));refine aA fun _ Z20=>bN [1,2,8,41,42,43] ?_;refine f9 (aCb _ t (tr.getD i default)) ?_;refine Z20 _ (aO (fun c4=>?_) fun c4=>?_)
  ·refine aB [] ?_;refine aL (dN 4 ?_);exact dX.is (by simp (disch:=omega) only[go_sem,seval]<;>(rw[cQp aV hA (nK c3 (by simpa using c4))])) rfl rfl
  refine aD (Z18 _ (bE [1,2,41,42,43] ?_));refine Z15 _ _ bD ⟨i+1,rfl,bD,?_,dT⟩
  ·exact jA l1_1 (by simpa using c4)
 refine bA (Z13 _ (aA fun _ Z22=>aB [1,2] ?_));refine aI ?_;have hP:=pF l1_1 aV;refine aX [1,2,52,53,54] (fun n ρ=> ∃i,n=tr.length-i∧(i≤tr.length)∧(nX (aXq tr) i)∧ρ=dU O [(1,cL tr),(2,.bx (dQ t)),(52,cL tr),(53,vi (tr.length:Nat)),(54,vi (i:Nat))]) _ ⟨0,rfl,?_,?_,?_⟩ ?_
 ·exact bD
 ·exact lP _
 ·exact dT
 rintro n ρ ⟨i,rfl,l2_0,l2_1,rfl⟩ _ Z24;refine aB [1,2,52,53,54] ?_;refine aA fun _ Z26=>aO (fun c5=>?_) fun c5=>?_
 ·refine aD (Z26 _ (aA fun _ Z27=>aI (aB [1,2,52,53,54] ?_)));refine aB [1,2,9,10,52,53,54] ?_;refine aI (aX [1,2,52,53,54,10,61,62,63] (fun n ρ=> ∃k,n=i-k∧(k≤i)∧(nX (fun k=> !(trN tr i==trN tr k)) k)∧ρ=dU O [(1,cL tr),(2,.bx (dQ t)),(52,cL tr),(53,vi (tr.length:Nat)),(54,vi (i:Nat)),(10,.bx (kQ (tr.getD i default))),(61,.sl 2 i fun k=>kQ (tr.getD k default)),(62,vi (i:Nat)),(63,vi (k:Nat))]) _ ⟨0,rfl,?_,?_,?_⟩ ?_)
  ·exact bD
  ·exact lP _
  ·exact dT
  rintro n ρ ⟨k,rfl,l3_0,l3_1,rfl⟩ _ Z30;refine aB [1,2,10,52,53,54,59,60,61,62,63] ?_;refine aA fun _ Z32=>aO (fun c6=>?_) fun c6=>?_
  ·refine aD (Z32 _ (aA fun _ Z33=>aI (aB [1,2,10,52,53,54,59,60,61,62,63] ?_)));refine aB [1,2,10,12,52,53,54,59,60,61,62,63] ?_;refine aO (fun c7=>?_) fun c7=>?_
   ·refine aB [] ?_;refine aL (dN 4 ?_);exact dX.is (by simp (disch:=omega) only[go_sem,seval]<;>(rw[cNz aV hA hP (rR c5 (cTf (k:=k) c6 c7))])) rfl rfl
   refine aD (Z33 _ (bE [1,2,10,52,53,54,59,60,61,62,63] ?_));refine Z30 _ _ bD ⟨k+1,rfl,bD,?_,dT⟩
   ·exact kE l3_1 (by simpa[trN] using c7)
  refine bA (Z27 _ (bE [1,2,52,53,54] ?_));refine Z24 _ _ bD ⟨i+1,rfl,bD,?_,dT⟩
  ·exact kE l2_1 (t6 l3_1 aV)
 refine bA (Z22 _ (aA fun _ Z37=>aB [1,2] ?_));refine aI ?_;have hD:=t6 l2_1 (n:=tr.length) aV;refine aX [1,2,74,75,76] (fun n ρ=> ∃i,n=tr.length-i∧(i≤tr.length)∧(m0 (fwA t) tr i)∧ρ=dU O [(1,cL tr),(2,.bx (dQ t)),(74,cL tr),(75,vi (tr.length:Nat)),(76,vi (i:Nat))]) _ ⟨0,rfl,?_,?_,?_⟩ ?_
 ·exact bD
 ·exact i8 _ _
 ·exact dT
 rintro n ρ ⟨i,rfl,l4_0,l4_1,rfl⟩ _ Z39;refine aB [1,2,74,75,76] ?_;refine aA fun _ Z41=>aO (fun c8=>?_) fun c8=>?_
 ·refine aD (Z41 _ (aA fun _ Z42=>aI (aB [1,2,74,75,76] ?_)));refine aA fun _ Z44=>?_;have hl:=bMe hA c8;refine bE [1,2,14,74,75,76] ?_;refine Z44 _ (aI (aX [1,2,74,75,76,14,83,84] (fun n ρ=> ∃j,n=(tr.getD i default).xAb.length-j∧(j≤(tr.getD i default).xAb.length-1)∧(nX (fwB t (tr.getD i default)) j)∧ρ=dU O [(1,cL tr),(2,.bx (dQ t)),(74,cL tr),(75,vi (tr.length:Nat)),(76,vi (i:Nat)),(14,.bx (kQ (tr.getD i default))),(83,vi (((tr.getD i default).xAb.length:Nat)-1)),(84,vi (j:Nat))]) _ ⟨0,rfl,?_,?_,?_⟩ ?_))
  ·exact bD
  ·exact lP _
  ·exact dT
  rintro n ρ ⟨j,rfl,l5_0,l5_1,rfl⟩ _ Z45;refine aB [1,2,14,74,75,76,83,84] ?_;refine aA fun _ Z47=>aO (fun c9=>?_) fun c9=>?_
  ·refine aD (Z47 _ (aA fun _ Z48=>aI (aB [1,2,14,74,75,76,83,84] ?_)));refine aA fun _ Z50=>?_;have hj:j+1<(tr.getD i default).xAb.length:=by omega
   have h1:=cAp (aXm hP c8 (j:=j) aV);have h2:=cAp (aXm hP c8 hj);refine bEq [1,2,14,15,74,75,76,83,84] [16,17] [1,2,14,15,74,75,76,83,84,87,88,89,90,91,92,93,94,95,96,97,98,99,100,101,102,103,104,105,106,107] [0,1,2,3,4,5,6,7,8,9,10,11,12,13,14,15,16,17,18,19,20] [21,22] [23,24] [(16,157,96),(17,157,107)] kR bF (by rfl) (by rfl) (by simp only[ptA,List.filterMap_cons,List.filterMap_nil,aEd,List.getElem?_cons_zero];rfl) ?_;refine lL ?_;refine cP (by rfl) ?_;refine lL ?_;refine Z50 _ (aA fun _ Z51=>bN [1,2,14,16,17,74,75,76,83,84] ?_);refine f9 (fY _ (rtT t (bCe (tr.getD i default) j)) (rtT t (bCe (tr.getD i default) (j+1)))) ?_;refine Z51 _ (aO (fun c10=>?_) fun c10=>?_)
   ·refine aB [] ?_;refine aL (dN 4 ?_);exact dX.is (by simp (disch:=omega) only[go_sem,seval]<;>(rw[cMo aV hA hP hD (nK c8 (rR (i:=j) aV (by simpa[fwB] using c10)))])) rfl rfl
   refine aD (Z48 _ (bE [1,2,14,74,75,76,83,84] ?_));refine Z45 _ _ bD ⟨j+1,rfl,bD,?_,dT⟩
   ·exact kE l5_1 (by simpa[fwB] using c10)
  refine bA (Z42 _ (bE [1,2,74,75,76] ?_));refine Z39 _ _ bD ⟨i+1,rfl,bD,?_,dT⟩
  ·exact jA l4_1 (t6 l5_1 aV)
 refine bA (Z37 _ (aA fun _ Z53=>aB [1] ?_));refine aI ?_;have hF:=pF l4_1 aV;refine aX [114,115,116] (fun n ρ=> ∃i,n=tr.length-i∧(i≤tr.length)∧(m0 odA tr i)∧ρ=dU O [(114,cL tr),(115,vi (tr.length:Nat)),(116,vi (i:Nat))]) _ ⟨0,rfl,?_,?_,?_⟩ ?_
 ·exact bD
 ·exact i8 _ _
 ·exact dT
 rintro n ρ ⟨i,rfl,l6_0,l6_1,rfl⟩ _ Z55;refine aB [1,114,115,116] ?_;refine aA fun _ Z57=>aO (fun c11=>?_) fun c11=>?_
 ·refine aD (Z57 _ (aA fun _ Z58=>aI (aB [1,114,115,116] ?_)));refine aA fun _ Z60=>?_;have hl:=bMe hA c11;refine bE [1,19,114,115,116] ?_;refine Z60 _ (aI (aX [114,115,116,19,123,124] (fun n ρ=> ∃j,n=(tr.getD i default).xAb.length-j∧(j≤(tr.getD i default).xAb.length-1)∧(nX (odB (tr.getD i default)) j)∧ρ=dU O [(114,cL tr),(115,vi (tr.length:Nat)),(116,vi (i:Nat)),(19,.bx (kQ (tr.getD i default))),(123,vi (((tr.getD i default).xAb.length:Nat)-1)),(124,vi (j:Nat))]) _ ⟨0,rfl,?_,?_,?_⟩ ?_))
  ·exact bD
  ·exact lP _
  ·exact dT
  rintro n ρ ⟨j,rfl,l7_0,l7_1,rfl⟩ _ Z61;refine aB [1,19,114,115,116,123,124] ?_;refine aA fun _ Z63=>aO (fun c12=>?_) fun c12=>?_
  ·refine aD (Z63 _ (aA fun _ Z64=>aI (aB [1,19,114,115,116,123,124] ?_)));refine aA fun _ Z66=>gJ [1,19,20,114,115,116,123,124] [] ?_;refine Z66 _ (aO (fun c13=>?_) fun c13=>?_)
   ·refine aB [] ?_;refine aL (dN 4 ?_);exact dX.is (by simp (disch:=omega) only[go_sem,seval]<;>(rw[cQe aV hA hP hD hF (nK c11 (rR (i:=j) aV (e9 (Int.not_lt.2 c13))))])) rfl rfl
   refine aD (Z64 _ (bE [1,19,114,115,116,123,124] ?_));refine Z61 _ _ bD ⟨j+1,rfl,bD,?_,dT⟩
   ·exact kE l7_1 (dF c13)
  refine bA (Z58 _ (bE [1,114,115,116] ?_));refine Z55 _ _ bD ⟨i+1,rfl,bD,?_,dT⟩
  ·exact jA l6_1 (t6 l7_1 aV)
 refine bA (Z53 _ (aB [] ?_));refine aL (dN 4 ?_);exact dX.is (by simp (disch:=omega) only[go_sem,seval]<;>(rw[cMc aV hA hP hD hF (pF l6_1 aV)])) rfl rfl
attribute [go_sem] uJ
abbrev wU (l:List (List Int)):DV:=encL 1 (fun l:(List Int)=>[encL 1 eI l]) l
def SmT (t:dC):Prop:= ∀r∈t.xAg,Sml r
def clB (t:dC) (a b:Stop):Bool:=bIp (rtT t a) (rtT t b) !=0
section
variable {t:dC} {tr:List bR} {st:List (List Int)}
end
theorem aFc (O:aN) (t:dC) (a b:Stop) (ha:spB t a=true) (hb:spB t b=true) (hs:SmT t):aZ Tryz.prog O 132 [.agg (dQ t),.agg (pT a),.agg (pT b)] (vb (clB t a b)):=by
 have h1:=cAp ha;have h2:=cAp hb;refine eV Tryz.func132 ?_;refine aB [0,1,2] ?_;refine aA fun _ Z1=>gJ [3,4,5] [] ?_;refine cdz (aAz _ (rtT t a) (rtT t b) (hs _ (kI h1.2)) (hs _ (kI h2.2))) ?_;refine Z1 _ (aL (dN 6 ?_));exact xd
abbrev Dr:=Nat→Nat→Int
abbrev Pl:=Nat→Nat
abbrev Cl:=Nat→Nat→Nat→Nat→Bool
def fG (d:Dr):List DV:=(List.range 16).map fun k=>vi (d (k/4) (k%4))
def mT (a:Pl):List DV:=(List.range 4).map fun k=>vi (a k:Nat)
def clL (c:Cl):List DV:=(List.range 256).map fun k=>vb (c (k/64) (k/16%4) (k/4%4) (k%4))
def upD (d:Dr) (i j:Nat) (v:Int):Dr:=fun x y=>if x=i∧y=j then v else d x y
def lK (a:Pl) (i v:Nat):Pl:=fun x=>if x=i then v else a x
def upC (c:Cl) (i j k m:Nat) (v:Bool):Cl:=fun x y z u=>if x=i∧y=j∧z=k∧u=m then v else c x y z u
theorem rA (d:Dr):(fG d).length=16:=by simp[fG]
theorem aVa (a:Pl):(mT a).length=4:=by simp[mT]
theorem bGp (c:Cl):(clL c).length=256:=by simp[clL]
theorem bGn (d:Dr) {i j:Nat} (hi:i<4) (hj:j<4):(fG d).getD (i*4+j) .any=vi (d i j):=by
 unfold fG;rw[cA,dG,p9 aV];simp only[gG,iE];rw[show (i*4+j)/4=i by omega,show (i*4+j)%4=j by omega]
theorem cBw (a:Pl) {i:Nat} (hi:i<4):(mT a).getD i .any=vi (a i:Nat):=by
 unfold mT;rw[cA,dG,p9 aV];rfl
theorem uI {α:Type} (f g:Nat→α) (n k:Nat) (hk:k<n) (x:α) (h1:g k=x) (h2: ∀i,i<n→i≠k→g i=f i):((List.range n).map f).set k x=(List.range n).map g:=by
 apply List.ext_getElem?;intro i;by_cases hi:i=k
 ·subst hi;rw[List.getElem?_set_self (by simp;omega),dG,p9 hk];simp[h1]
 rw[List.getElem?_set_ne (fC hi),dG,dG];by_cases hn:i<n
 ·rw[p9 hn];simp[h2 i hn hi]
 rw[fN (by simp;omega)];rfl
theorem cBt (d:Dr) {i j:Nat} (v:Int) (hi:i<4) (hj:j<4):(fG d).set (i*4+j) (.v (.int .i64 v))=fG (upD d i j v):=by
 refine uI _ _ 16 _ aV _ ?_ fun k hk hne=>?_
 ·simp only[upD];rw[if_pos aV]
 simp only[upD];rw[if_neg aV]
theorem aSi (a:Pl) {i:Nat} (v:Nat) (hi:i<4):(mT a).set i (.v (.int .i64 (v:Int)))=mT (lK a i v):=by
 refine uI _ _ 4 _ hi _ ?_ fun k hk hne=>?_
 ·simp only[lK];rw[if_pos trivial]
 simp only[lK];rw[if_neg hne]
theorem bXt (a:Pl) {i:Nat} (v:Nat) (hi:i<4):(mT a).set i (.v (.int .i64 ((v:Int)+1)))=mT (lK a i (v+1)):=by
 rw[show ((v:Int)+1)=((v+1:Nat):Int) by omega];exact aSi a (v+1) hi
theorem bNu (a:Pl) {i:Nat} (hi:i<4):(mT a).set i (.v (.int .i64 0))=mT (lK a i 0):=aSi a 0 hi
theorem cAv (c:Cl) {i j k m:Nat} (hi:i<4) (hj:j<4) (hk:k<4) (hm:m<4):(clL c).getD (i*64+j*16+k*4+m) .any=vb (c i j k m):=by
 unfold clL;rw[cA,dG,p9 aV];simp only[gG,iE];rw[show (i*64+j*16+k*4+m)/64=i by omega,show (i*64+j*16+k*4+m)/16%4=j by omega,show (i*64+j*16+k*4+m)/4%4=k by omega,show (i*64+j*16+k*4+m)%4=m by omega]
theorem cAm (c:Cl) {i j k m:Nat} (v:Bool) (hi:i<4) (hj:j<4) (hk:k<4) (hm:m<4):(clL c).set (i*64+j*16+k*4+m) (.v (.bool v))=clL (upC c i j k m v):=by
 refine uI _ _ 256 _ aV _ ?_ fun q hq hne=>?_
 ·simp only[upC];rw[if_pos aV]
 simp only[upC];rw[if_neg aV]
theorem aUz {α:Type} (p:Nat→Bool) (f:α→Value) (l:List α):d6 p (l.map fun k=>.v (f k))=true:=by
 rw[pD];intro d hd;obtain ⟨k,_,rfl⟩:=dZ.1 hd;rfl
theorem aXz (p:Nat→Bool) (d:Dr):d6 p (fG d)=true:=aUz p _ _
theorem bPp (p:Nat→Bool) (a:Pl):d6 p (mT a)=true:=aUz p _ _
theorem cQi (p:Nat→Bool) (c:Cl):d6 p (clL c)=true:=aUz p _ _
theorem aSy {α:Type} (k:Nat→Nat) (f:α→Value) (l:List α):kT k (l.map fun x=>.v (f x))=l.map fun x=>.v (f x):=by
 rw[oA,List.map_map];rfl
theorem aDo (k:Nat→Nat) (d:Dr):kT k (fG d)=fG d:=aSy k _ _
theorem bZl (k:Nat→Nat) (a:Pl):kT k (mT a)=mT a:=aSy k _ _
theorem bFn (k:Nat→Nat) (c:Cl):kT k (clL c)=clL c:=aSy k _ _
theorem aAc {P:Program} {ρ:aN} {fn:Func} {O:aN} {cs:List DV} (a t:Nat) (hf:fn.results= #[.cell a t]) (h1:hi ρ=bS O) (h2:ρ a=.bx cs) (h3:eA P t=some (some cs.length)) (h4:sh (.agg cs)=.agg cs):rZ P fn O (fun O' r'=>O'=O∧r'=.agg cs) .ret ρ:=
 aEe h1 (by rw[hf];exact ⟨rfl,cs,h2,.inl ⟨h3,by rw[h4];exact eK.refl _⟩⟩)
theorem bZc (d:Dr):(fG d).take 16=fG d:=by rw[← rA d,iL]
theorem bWj (a:Pl):(mT a).take 4=mT a:=by rw[← aVa a,iL]
attribute [go_sem] aDo bZl bFn aXz bPp cQi rA aVa bGp bGn cBw cBt aSi bXt bNu bZc bWj iP Nat.mul_one gH iD
abbrev gY (tr:List bR) (c:Cl):DV:=.dp (cL tr::clL c)
structure Ok (tr:List bR):Prop where
 n:tr.length≤4
 l: ∀i,i<tr.length→1≤(tr.getD i default).xAb.length∧(tr.getD i default).xAb.length≤4
 s: ∀i j,i<tr.length→j<(tr.getD i default).xAb.length→(0≤((tr.getD i default).xAb.getD j default).xBf∧((tr.getD i default).xAb.getD j default).xBf≤1073741824)∧(1≤((tr.getD i default).xAb.getD j default).xBe∧((tr.getD i default).xAb.getD j default).xBe≤1000)∧0≤((tr.getD i default).xAb.getD j default).xBp∧((tr.getD i default).xAb.getD j default).xBp≤100
theorem aOj {t:dC} {tr:List bR} (h:lV t tr=0):Ok tr:=by
 obtain ⟨h1,h2,h3,h4,h5,h6⟩:=cOb h;refine ⟨h1,fun i hi=>bMe h2 hi,fun i j hi hj=>?_⟩;have:=cDa (aXm h3 hi hj);omega
def duN (tr:List bR) (i j:Nat):Int:=((tr.getD i default).xAb.getD j default).xBf
def ruN (tr:List bR) (i j:Nat):Int:=((tr.getD i default).xAb.getD j default).xBe
def weN (tr:List bR) (i j:Nat):Int:=((tr.getD i default).xAb.getD j default).xBp
def enA (tr:List bR):Pl:=fun i=>if i<tr.length then (tr.getD i default).xAb.length else 0
def enP (tr:List bR) (i:Nat):Pl:=fun k=>if k<i then (tr.getD k default).xAb.length else 0
theorem cPw (tr:List bR) (i:Nat):lK (enP tr i) i (tr.getD i default).xAb.length=enP tr (i+1):=by
 funext k;simp only[lK,enP];by_cases h:k=i
 ·subst h;rw[if_pos rfl,if_pos aV]
 rw[if_neg h];by_cases h2:k<i
 ·rw[if_pos h2,if_pos aV]
 rw[if_neg h2,if_neg aV]
theorem enE {tr:List bR} {i:Nat} (h1:i≤tr.length) (h2:tr.length≤i):enP tr i=enA tr:=by
 have:i=tr.length:=by omega
 subst this;rfl
def bgR (tr:List bR) (i:Nat):Nat→Int
 |0=>duN tr i 0
 |j+1=>max (duN tr i (j+1)) (bgR tr i j+ruN tr i j)
def bgD (tr:List bR):Dr:=fun i j=>if i<tr.length∧j<(tr.getD i default).xAb.length then bgR tr i j else 0
def bgP (tr:List bR) (i j:Nat):Dr:=fun x y=>if (x<i∧y<(tr.getD x default).xAb.length)∨(x=i∧y<j) then bgR tr x y else 0
theorem cCp {tr:List bR} {i j:Nat} (h:j=(tr.getD i default).xAb.length):bgP tr i j=bgP tr (i+1) 0:=by
 funext x y;subst h;simp only[bgP];by_cases h1:x=i
 ·subst h1;by_cases h2:y<(tr.getD x default).xAb.length
  ·rw[if_pos aV,if_pos aV]
  rw[if_neg aV,if_neg aV]
 by_cases h2:x<i∧y<(tr.getD x default).xAb.length
 ·rw[if_pos aV,if_pos aV]
 rw[if_neg aV,if_neg aV]
theorem bZp {tr:List bR} {i:Nat} (h:tr.length≤i) (h2:i≤tr.length):bgP tr i 0=bgD tr:=by
 funext x y;simp only[bgP,bgD];by_cases h1:x<tr.length∧y<(tr.getD x default).xAb.length
 ·rw[if_pos aV,if_pos h1]
 rw[if_neg aV,if_neg h1]
theorem cIb (tr:List bR) (i:Nat):upD (bgP tr i 0) i 0 (((tr.getD i default).xAb.getD 0 default).xBf)=bgP tr i 1:=by
 funext x y;simp only[upD,bgP];by_cases h:x=i∧y=0
 ·rw[if_pos h,if_pos aV,h.1,h.2];rfl
 rw[if_neg h];by_cases h2:x<i∧y<(tr.getD x default).xAb.length
 ·rw[if_pos aV,if_pos aV]
 rw[if_neg aV,if_neg aV]
theorem cOt (tr:List bR) (i j:Nat) (v:Int) (u:Int) (hv:v=bgR tr i j):upD (upD (bgP tr i j) i j u) i j v=bgP tr i (j+1):=by
 funext x y;simp only[upD,bgP];by_cases h:x=i∧y=j
 ·rw[if_pos h,if_pos aV,h.1,h.2,hv]
 rw[if_neg h,if_neg h];by_cases h2:(x<i∧y<(tr.getD x default).xAb.length)∨(x=i∧y<j)
 ·rw[if_pos h2,if_pos aV]
 rw[if_neg h2,if_neg aV]
theorem bLr {tr:List bR} (h:Ok tr) {i:Nat} (hi:i<tr.length): ∀j,j<(tr.getD i default).xAb.length→0≤bgR tr i j∧bgR tr i j≤1073741824+1000*j
 |0,hj=>by have:=h.s i 0 hi hj;simp only[bgR,duN];omega
 |j+1,hj=>by
  have h1:=bLr h hi j aV;have h2:=h.s i j hi aV;have h3:=h.s i (j+1) hi hj;simp only[bgR,duN,ruN] at*;omega
def coJ (tr:List bR) (d:Dr) (i:Nat):Nat→Int
 |0=>0
 |j+1=>coJ tr d i j+weN tr i j*(d i j-duN tr i j)
theorem cDd (tr:List bR) (d:Dr) (i j:Nat) (x:Int):x+coJ tr d i j+((tr.getD i default).xAb.getD j default).xBp*(d i j-((tr.getD i default).xAb.getD j default).xBf)=x+coJ tr d i (j+1):=by simp only[coJ,weN,duN];omega
def coN (tr:List bR) (d:Dr) (a:Pl):Nat→Int
 |0=>0
 |i+1=>coN tr d a i+coJ tr d i (a i)
def coD (tr:List bR) (d:Dr) (a:Pl):Int:=coN tr d a tr.length
def Bd (d:Dr):Prop:= ∀i j,0≤d i j∧d i j≤1099511627776
def Pk (tr:List bR) (a:Pl):Prop:= ∀i,i<tr.length→a i≤(tr.getD i default).xAb.length
theorem cOk {w x:Int} (h1:0≤w) (h2:w≤100) (h3: -2199023255552≤x) (h4:x≤2199023255552): -219902325555200≤w*x∧w*x≤219902325555200:=by
 have a1:w*x≤w*2199023255552:=Int.mul_le_mul_of_nonneg_left h4 h1;have a2:w*(-2199023255552)≤w*x:=Int.mul_le_mul_of_nonneg_left h3 h1;omega
theorem bBh {tr:List bR} (h:Ok tr) {d:Dr} (hd:Bd d) {i j:Nat} (hi:i<tr.length) (hj:j<(tr.getD i default).xAb.length): -219902325555200≤weN tr i j*(d i j-duN tr i j)∧weN tr i j*(d i j-duN tr i j)≤219902325555200:=by
 have h1:=h.s i j hi hj;have h2:=hd i j;refine cOk (by simp only[weN];omega) (by simp only[weN];omega) ?_ ?_<;>simp only[duN]<;>omega
theorem bFv {tr:List bR} (h:Ok tr) {d:Dr} (hd:Bd d) {i:Nat} (hi:i<tr.length): ∀j:Nat,j≤(tr.getD i default).xAb.length→ -(219902325555200*j)≤coJ tr d i j∧coJ tr d i j≤219902325555200*j
 |0,_=>by simp[coJ]
 |j+1,hj=>by
  have h1:=bFv h hd hi j aV;have h2:=bBh h hd hi (j:=j) aV;simp only[coJ];omega
theorem bGf {tr:List bR} (h:Ok tr) {d:Dr} (hd:Bd d) {a:Pl} (ha:Pk tr a): ∀i:Nat,i≤tr.length→ -(879609302220800*i)≤coN tr d a i∧coN tr d a i≤879609302220800*i
 |0,_=>by simp[coN]
 |i+1,hi=>by
  have h1:=bGf h hd ha i aV;have h2:=bFv h hd (i:=i) aV (a i) (ha i aV);have h3:=h.l i aV;have h4:=ha i aV;simp only[coN];omega
def alB (tr:List bR) (a:Pl):Bool:=(List.range tr.length).all fun i=>decide ((tr.getD i default).xAb.length≤a i)
theorem oN (O:aN) (tr:List bR) (c:Cl) (ho:Ok tr):aZ Tryz.prog O 138 [gY tr c] (.agg (mT (enA tr))):=by
 have hn:=ho.n;refine eV Tryz.func138 ?_;refine aB [0] ?_;refine aB [0,2] ?_;refine aA fun _ Z2=>aB [0,2,3] ?_;refine aI (aX [2,3,9,10,11] (fun n ρ=> ∃i,n=tr.length-i∧(i≤tr.length)∧ρ=dU O [(2,.bx (mT (fun _=>0))),(3,.bx (mT (enP tr i))),(9,cL tr),(10,vi (tr.length:Nat)),(11,vi (i:Nat))]) _ ⟨0,rfl,?_,?_⟩ ?_)
 ·exact bD
 ·simp (disch:=omega) only[go_sem,seval]<;>rfl
 rintro n ρ ⟨i,rfl,l0_0,rfl⟩ _ Z4;refine aB [0,2,3,6,7,8,9,10,11] ?_;refine aA fun _ Z6=>aO (fun c0=>?_) fun c0=>?_
 ·refine aD (Z6 _ (aA fun _ Z7=>aI (aA fun _ Z8=>?_)));have hl:=ho.l i c0;refine bE [0,2,3,6,7,8,9,10,11] ?_;refine Z8 _ (bE [0,2,3,4,5,6,7,8,9,10,11] ?_);refine Z7 _ (bE [0,2,3,6,7,8,9,10,11] ?_);refine Z4 _ _ bD ⟨i+1,rfl,bD,?_⟩;simp (disch:=omega) only[go_sem,seval]<;>rw[cPw];rfl
 refine bA (Z2 _ (aB [2,3] ?_));refine aL ?_;refine aAc 2 193 rfl sz (by simp (disch:=omega) only[go_sem,seval]<;>(rw[enE aV aV])) sz sz
theorem cUa {tr:List bR} {a:Pl} {i:Nat} (h:nX (fun i=>decide ((tr.getD i default).xAb.length≤a i)) i) (h2:tr.length≤i):alB tr a=true:=t6 h h2
theorem cUh {tr:List bR} {a:Pl} {i:Nat} (hi:i<tr.length) (h:a i<(tr.getD i default).xAb.length):alB tr a=false:=rR hi (e9 aV)
theorem vV (O:aN) (tr:List bR) (c:Cl) (a:Pl) (ho:Ok tr):aZ Tryz.prog O 87 [gY tr c,.agg (mT a)] (vb (alB tr a)):=by
 have hn:=ho.n;refine eV Tryz.func87 ?_;refine aB [0,1] ?_;refine aA fun _ Z1=>aB [0,3] ?_;refine aI (aX [3,10,11,12] (fun n ρ=> ∃i,n=tr.length-i∧(i≤tr.length)∧(nX (fun i=>decide ((tr.getD i default).xAb.length≤a i)) i)∧ρ=dU O [(3,.bx (mT a)),(10,cL tr),(11,vi (tr.length:Nat)),(12,vi (i:Nat))]) _ ⟨0,rfl,?_,?_,?_⟩ ?_)
 ·exact bD
 ·exact lP _
 ·exact dT
 rintro n ρ ⟨i,rfl,l0_0,l0_1,rfl⟩ _ Z3;refine aB [0,3,7,8,9,10,11,12] ?_;refine aA fun _ Z5=>aO (fun c0=>?_) fun c0=>?_
 ·refine aD (Z5 _ (aA fun _ Z6=>aI (aB [0,3,7,8,9,10,11,12] ?_)));refine aA fun _ Z8=>gJ [0,3,5,6,7,8,9,10,11,12] [] ?_;refine Z8 _ (aO (fun c1=>?_) fun c1=>?_)
  ·refine aB [] ?_;refine aL (dN 4 (xb ?_))
   (rw[cUh c0 aV])
  refine aD (Z6 _ (bE [0,3,7,8,9,10,11,12] ?_));refine Z3 _ _ bD ⟨i+1,rfl,bD,?_,dT⟩
  ·exact kE l0_1 (dF aV)
 refine bA (Z1 _ (aB [] ?_));refine aL (dN 4 (xb ?_))
 (rw[cUa l0_1 aV])
theorem lF (O:aN) (tr:List bR) (c:Cl) (d:Dr) (a:Pl) (ho:Ok tr) (hd:Bd d) (ha:Pk tr a):aZ Tryz.prog O 142 [gY tr c,.agg (fG d),.agg (mT a)] (vi (coD tr d a)):=by
 have hn:=ho.n;refine eV Tryz.func142 ?_;refine aB [0,1,2] ?_;refine aB [0,4,5] ?_;refine aA fun _ Z2=>aB [0,4,5,7] ?_;refine aI (aX [4,5,7,15,16,17] (fun n ρ=> ∃i,n=tr.length-i∧(i≤tr.length)∧ρ=dU O [(4,.bx (fG d)),(5,.bx (mT a)),(7,vi (coN tr d a i)),(15,cL tr),(16,vi (tr.length:Nat)),(17,vi (i:Nat))]) _ ⟨0,rfl,?_,?_⟩ ?_)
 ·exact bD
 ·exact dT
 rintro n ρ ⟨i,rfl,l0_0,rfl⟩ _ Z4;refine aB [0,4,5,7,12,13,14,15,16,17] ?_;refine aA fun _ Z6=>aO (fun c0=>?_) fun c0=>?_
 ·refine aD (Z6 _ (aA fun _ Z7=>aI (aA fun _ Z8=>?_)));have hl:=ho.l i c0;have hai:=ha i c0;refine bE [0,4,5,7,12,13,14,15,16,17] ?_;refine Z8 _ (aA fun _ Z9=>gJ [0,4,5,7,8,9,12,13,14,15,16,17] [] ?_);refine Z9 _ (aI (aX [4,5,7,15,16,17,8,27,28,29] (fun n ρ=> ∃j,n=a i-j∧(j≤a i)∧ρ=dU O [(4,.bx (fG d)),(5,.bx (mT a)),(7,vi (coN tr d a i+coJ tr d i j)),(15,cL tr),(16,vi (tr.length:Nat)),(17,vi (i:Nat)),(8,vi (i:Nat)),(27,.sl 4 (a i) fun k=>pT ((tr.getD i default).xAb.getD k default)),(28,vi (a i:Nat)),(29,vi (j:Nat))]) _ ⟨0,rfl,?_,?_⟩ ?_))
  ·exact bD
  ·simp (disch:=omega) only[go_sem,seval]<;>simp[coJ]
  rintro n ρ ⟨j,rfl,l1_0,rfl⟩ _ Z10;refine aB [0,4,5,7,8,9,12,13,14,15,16,17,22,23,26,27,28,29] ?_;refine aA fun _ Z12=>aO (fun c1=>?_) fun c1=>?_
  ·refine aD (Z12 _ (aA fun _ Z13=>aI (aB [0,4,5,7,8,9,12,13,14,15,16,17,22,23,26,27,28,29] ?_)));have hsj:=ho.s i j c0 aV;have hdj:=hd i j;have ht:=bBh ho hd (j:=j) c0 aV;have hcj:=bFv ho hd c0 j aV;have hcn:=bGf ho hd ha i aV;unfold weN duN at ht;refine gJ [0,4,5,7,8,9,10,11,12,13,14,15,16,17,22,23,26,27,28,29] [] ?_;refine Z13 _ (bE [0,4,5,7,8,9,12,13,14,15,16,17,22,23,26,27,28,29] ?_);refine Z10 _ _ bD ⟨j+1,rfl,bD,?_⟩;simp (disch:=omega) only[go_sem,seval]<;>rw[cDd];rfl
  refine bA (Z7 _ (bE [0,4,5,7,12,13,14,15,16,17] ?_));refine Z4 _ _ bD ⟨i+1,rfl,bD,?_⟩;simp (disch:=omega) only[go_sem,seval]<;>rw[show j=a i by omega];rfl
 refine bA (Z2 _ (aB [7] ?_));refine aL (dN 6 ?_);exact dX.is (by simp (disch:=omega) only[go_sem,seval]<;>(rw[show i=tr.length by omega];rfl)) rfl rfl
def dfJ (x y:Nat→Int) (j:Nat):Nat→Int
 |0=>0
 |n+1=>if x j≠y j then x j-y j else dfJ x y (j+1) n
def dfN (d e:Dr) (a:Pl) (i:Nat):Nat→Int
 |0=>0
 |n+1=>if dfJ (d i) (e i) 0 (a i)≠0 then dfJ (d i) (e i) 0 (a i) else dfN d e a (i+1) n
def cmD (tr:List bR) (d e:Dr) (a:Pl):Int:=if coD tr d a-coD tr e a≠0 then coD tr d a-coD tr e a else dfN d e a 0 tr.length
theorem cPh {x y:Nat→Int} {j n:Nat} (h:j<n) (h2:x j=y j):dfJ x y j (n-j)=dfJ x y (j+1) (n-(j+1)):=by
 rw[show n-j=(n-(j+1))+1 by omega,dfJ,if_neg aV]
theorem cEh {x y:Nat→Int} {j n:Nat} (h:j<n) (h2: ¬x j=y j):dfJ x y j (n-j)=x j-y j:=by
 rw[show n-j=(n-(j+1))+1 by omega,dfJ,if_pos h2]
theorem cLw {x y:Nat→Int} {j n:Nat} (h:n≤j):dfJ x y j (n-j)=0:=by rw[show n-j=0 by omega];rfl
theorem cNj {d e:Dr} {a:Pl} {i n:Nat} (h:i<n) (h2:dfJ (d i) (e i) 0 (a i)=0):dfN d e a i (n-i)=dfN d e a (i+1) (n-(i+1)):=by
 rw[show n-i=(n-(i+1))+1 by omega,dfN,if_neg aV]
theorem cSl {d e:Dr} {a:Pl} {i n:Nat} (h:i<n) (h2:dfJ (d i) (e i) 0 (a i)≠0):dfN d e a i (n-i)=dfJ (d i) (e i) 0 (a i):=by
 rw[show n-i=(n-(i+1))+1 by omega,dfN,if_pos h2]
theorem cPz {d e:Dr} {a:Pl} {i n:Nat} (h:n≤i):dfN d e a i (n-i)=0:=by rw[show n-i=0 by omega];rfl
theorem cEp {tr:List bR} (h:Ok tr) {d:Dr} (hd:Bd d) {a:Pl} (ha:Pk tr a): -3518437208883200≤coD tr d a∧coD tr d a≤3518437208883200:=by
 have h1:=bGf h hd ha tr.length (bW _);have h2:=h.n;unfold coD;omega
theorem cm1 {tr:List bR} {d e:Dr} {a:Pl} (h: ¬coD tr d a-coD tr e a=0):cmD tr d e a=coD tr d a-coD tr e a:=by rw[cmD,if_pos h]
theorem cm2 {tr:List bR} {d e:Dr} {a:Pl} (h:coD tr d a-coD tr e a=0):cmD tr d e a=dfN d e a 0 tr.length:=by rw[cmD,if_neg aV]
def cvJ (d e:Dr) (a:Pl) (i y:Nat):Bool:=decide (a i≤y→d i y≤e i y)
def cvI (tr:List bR) (d e:Dr) (a:Pl) (i:Nat):Bool:=(List.range (tr.getD i default).xAb.length).all (cvJ d e a i)
def cvB (tr:List bR) (d e:Dr) (a:Pl):Bool:=(List.range tr.length).all (cvI tr d e a)&&decide (cmD tr d e a≤0)
theorem bMj (tr:List bR):Pk tr (enA tr):=fun i hi=>by unfold enA;rw[if_pos hi];exact bW _
def beB (tr:List bR) (d e:Dr):Bool:=decide (cmD tr d e (enA tr)<0)
theorem mW (O:aN) (tr:List bR) (c:Cl) (d e:Dr) (a:Pl) (ho:Ok tr) (hd:Bd d) (he:Bd e) (ha:Pk tr a):aZ Tryz.prog O 137 [gY tr c,.agg (fG d),.agg (fG e),.agg (mT a)] (vi (cmD tr d e a)):=by
 have hn:=ho.n;have cd:=cEp ho hd ha;have ce:=cEp ho he ha;refine eV Tryz.func137 ?_;refine aB [0,1,2,3] ?_;refine aA fun _ Z1=>aA fun _ Z2=>gJ [0,5,6,7] [] ?_;refine cdz (lF _ tr c d a ho hd ha) ?_;refine cdz (lF _ tr c e a ho he ha) ?_;refine Z2 _ (aB [0,5,6,7,9] ?_);refine aO (fun c0=>?_) fun c0=>?_
 ·refine aB [9] ?_;refine aL (dN 8 ?_);exact dX.is (by simp (disch:=omega) only[go_sem,seval]<;>(rw[cm1 aV])) rfl rfl
 refine aD (Z1 _ (aA fun _ Z5=>aB [0,5,6,7] ?_));refine aI (aX [5,6,7,28,29] (fun n ρ=> ∃i,n=tr.length-i∧(i≤tr.length)∧(dfN d e a 0 tr.length=dfN d e a i (tr.length-i))∧ρ=dU O [(5,.bx (fG d)),(6,.bx (fG e)),(7,.bx (mT a)),(28,vi (tr.length:Nat)),(29,vi (i:Nat))]) _ ⟨0,rfl,?_,?_,?_⟩ ?_)
 ·exact bD
 ·rfl
 ·exact dT
 rintro n ρ ⟨i,rfl,l0_0,l0_1,rfl⟩ _ Z7;refine aB [5,6,7,28,29] ?_;refine aA fun _ Z9=>aO (fun c1=>?_) fun c1=>?_
 ·refine aD (Z9 _ (aA fun _ Z10=>aI (aA fun _ Z11=>?_)));have hl:=ho.l i c1;have hai:=ha i c1;refine bE [5,6,7,28,29] ?_;refine Z11 _ (aB [5,6,7,10,28,29] ?_);refine aI (aX [5,6,7,28,29,10,34,35] (fun n ρ=> ∃j,n=a i-j∧(j≤a i)∧(dfJ (d i) (e i) 0 (a i)=dfJ (d i) (e i) j (a i-j))∧ρ=dU O [(5,.bx (fG d)),(6,.bx (fG e)),(7,.bx (mT a)),(28,vi (tr.length:Nat)),(29,vi (i:Nat)),(10,vi (i:Nat)),(34,vi (a i:Nat)),(35,vi (j:Nat))]) _ ⟨0,rfl,?_,?_,?_⟩ ?_)
  ·exact bD
  ·rfl
  ·exact dT
  rintro n ρ ⟨j,rfl,l1_0,l1_1,rfl⟩ _ Z13;refine aB [5,6,7,10,28,29,34,35] ?_;refine aA fun _ Z15=>aO (fun c2=>?_) fun c2=>?_
  ·refine aD (Z15 _ (aA fun _ Z16=>aI (aB [5,6,7,10,28,29,34,35] ?_)));refine aA fun _ Z18=>?_;have b1:=hd i j;have b2:=he i j;refine gJ [5,6,7,10,11,28,29,34,35] [] ?_;refine Z18 _ (aO (fun c3=>?_) fun c3=>?_)
   ·refine aA fun _ Z19=>gJ [5,6,10,11] [] ?_;refine Z19 _ (aL (dN 8 ?_));exact dX.is (by simp (disch:=omega) only[go_sem,seval]<;>(rw[cm2 aV,l0_1,cSl c1 (by rw[l1_1,cEh c2 aV];omega),l1_1,cEh c2 aV])) rfl rfl
   refine aD (Z16 _ (bE [5,6,7,10,28,29,34,35] ?_));refine Z13 _ _ bD ⟨j+1,rfl,bD,?_,dT⟩
   ·rw[l1_1,cPh c2 aV]
  refine bA (Z10 _ (bE [5,6,7,28,29] ?_));refine Z7 _ _ bD ⟨i+1,rfl,bD,?_,dT⟩
  ·rw[l0_1,cNj c1 (by rw[l1_1,cLw aV])]
 refine bA (Z5 _ (aB [] ?_));refine aL (dN 8 ?_);exact dX.is (by simp (disch:=omega) only[go_sem,seval]<;>(rw[cm2 aV,l0_1,cPz aV])) rfl rfl
theorem kJ (O:aN) (tr:List bR) (c:Cl) (d e:Dr) (ho:Ok tr) (hd:Bd d) (he:Bd e):aZ Tryz.prog O 88 [gY tr c,.agg (fG d),.agg (fG e)] (vb (beB tr d e)):=by
 refine eV Tryz.func88 ?_;refine aB [0,1,2] ?_;refine aA fun _ Z1=>gJ [0,4,5] [] ?_;refine cdz (oN _ tr c ho) ?_;refine cdz (mW _ tr c d e (enA tr) ho hd he (bMj tr)) ?_;refine Z1 _ (aL (dN 6 ?_));exact xd
theorem cTp {tr:List bR} {d e:Dr} {a:Pl} {i j:Nat} (hi:i<tr.length) (h1:a i≤j) (h2:j<(tr.getD i default).xAb.length) (h: ¬d i j≤e i j):cvB tr d e a=false:=by
 rw[cvB,rR hi (rR h2 (e9 fun q=>h (q h1)))];rfl
theorem cUe {tr:List bR} {d e:Dr} {a:Pl} {i:Nat} (h:nX (cvI tr d e a) i) (h2:tr.length≤i):cvB tr d e a=decide (cmD tr d e a≤0):=by rw[cvB,t6 h h2];rfl
theorem bPj (d:Dr) (i j:Nat) (v:Int):upD d i j v i j=v:=by simp[upD]
theorem bBf (d:Dr) (i j k:Nat) (v:Int) (h:k≠j):upD d i j v i k=d i k:=by simp[upD,h]
theorem bFz (tr:List bR) (i j:Nat) (h:0<j):bgP tr i j i (j-1)=bgR tr i (j-1):=by unfold bgP;rw[if_pos (Or.inr ⟨rfl,by omega⟩)]
theorem cMh {tr:List bR} {i j:Nat} (h:0<j) (x:Int) (hx:x=bgR tr i (j-1)+((tr.getD i default).xAb.getD (j-1) default).xBe):(if ((tr.getD i default).xAb.getD j default).xBf<x then x else ((tr.getD i default).xAb.getD j default).xBf)=bgR tr i j:=by
 obtain ⟨m,rfl⟩: ∃m,j=m+1:=⟨j-1,by omega⟩;simp only[xN] at hx;simp only[bgR,duN,ruN];rw[← hx];split<;>omega
theorem cNt {tr:List bR} {i j:Nat} (h:j=0):upD (bgP tr i j) i j (((tr.getD i default).xAb.getD j default).xBf)=bgP tr i (j+1):=by subst h;exact cIb tr i
theorem nR (O:aN) (tr:List bR) (c:Cl) (d e:Dr) (a:Pl) (ho:Ok tr) (hd:Bd d) (he:Bd e) (ha:Pk tr a):aZ Tryz.prog O 139 [gY tr c,.agg (fG d),.agg (fG e),.agg (mT a)] (vb (cvB tr d e a)):=by
 have hn:=ho.n;refine eV Tryz.func139 ?_;refine aB [0,1,2,3] ?_;refine aA fun _ Z1=>aB [0,5,6,7] ?_;refine aI (aX [0,5,6,7,15,16,17] (fun n ρ=> ∃i,n=tr.length-i∧(i≤tr.length)∧(nX (cvI tr d e a) i)∧ρ=dU O [(0,gY tr c),(5,.bx (fG d)),(6,.bx (fG e)),(7,.bx (mT a)),(15,cL tr),(16,vi (tr.length:Nat)),(17,vi (i:Nat))]) _ ⟨0,rfl,?_,?_,?_⟩ ?_)
 ·exact bD
 ·exact lP _
 ·exact dT
 rintro n ρ ⟨i,rfl,l0_0,l0_1,rfl⟩ _ Z3;refine aB [0,5,6,7,12,13,14,15,16,17] ?_;refine aA fun _ Z5=>aO (fun c0=>?_) fun c0=>?_
 ·refine aD (Z5 _ (aA fun _ Z6=>aI (aA fun _ Z7=>?_)));have hl:=ho.l i c0;have hai:=ha i c0;refine bE [0,5,6,7,12,13,14,15,16,17] ?_;refine Z7 _ (aB [0,5,6,7,9,10,12,13,14,15,16,17] ?_);refine aI (aX [0,5,6,7,15,16,17,9,10,11] (fun n ρ=> ∃j,n=(tr.getD i default).xAb.length-j∧(a i≤j)∧(j≤(tr.getD i default).xAb.length)∧(nX (cvJ d e a i) j)∧ρ=dU O [(0,gY tr c),(5,.bx (fG d)),(6,.bx (fG e)),(7,.bx (mT a)),(15,cL tr),(16,vi (tr.length:Nat)),(17,vi (i:Nat)),(9,vi (i:Nat)),(10,.bx (kQ (tr.getD i default))),(11,vi (j:Nat))]) _ ⟨a i,rfl,?_,?_,?_,?_⟩ ?_)
  ·exact bD
  ·exact bD
  ·exact fun y hy=>dF fun q=>by omega
  ·exact dT
  rintro n ρ ⟨j,rfl,l1_0,l1_1,l1_2,rfl⟩ _ Z9;refine aA fun _ Z10=>aB [0,5,6,7,9,10,11,12,13,14,15,16,17] ?_;refine aO (fun c1=>?_) fun c1=>?_
  ·refine aD (Z10 _ (aA fun _ Z12=>aI (aA fun _ Z13=>gJ [0,5,6,7,9,10,11,12,13,14,15,16,17] [] ?_)));refine Z13 _ (aO (fun c2=>?_) fun c2=>?_)
   ·refine aB [] ?_;refine aL (dN 8 (xb ?_))
    (rw[cTp c0 l1_0 c1 aV])
   refine aD (Z12 _ (bE [0,5,6,7,9,10,11,12,13,14,15,16,17] ?_));refine Z9 _ _ bD ⟨j+1,rfl,bD,bD,?_,dT⟩
   ·exact kE l1_2 (dF fun _=>by omega)
  refine bA (Z6 _ (bE [0,5,6,7,12,13,14,15,16,17] ?_));refine Z3 _ _ bD ⟨i+1,rfl,bD,?_,dT⟩
  ·exact kE l0_1 (t6 l1_2 aV)
 refine bA (Z1 _ (aA fun _ Z15=>bN [0,5,6,7] ?_));refine f9 (mW _ tr c d e a ho hd he ha) ?_;refine Z15 _ (aL (dN 8 (xb ?_)))
 (rw[cUe l0_1 aV])
section
attribute [local go_sem] bPj bFz
theorem kS (O:aN) (tr:List bR) (c:Cl) (ho:Ok tr):aZ Tryz.prog O 85 [gY tr c] (.agg (fG (bgD tr))):=by
 have hn:=ho.n;refine eV Tryz.func85 ?_;refine aB [0] ?_;refine aB [0,2] ?_;refine aA fun _ Z2=>aB [0,2,3] ?_;refine aI (aX [2,3,11,12,13] (fun n ρ=> ∃i,n=tr.length-i∧(i≤tr.length)∧ρ=dU O [(2,.bx (fG (fun _ _=>0))),(3,.bx (fG (bgP tr i 0))),(11,cL tr),(12,vi (tr.length:Nat)),(13,vi (i:Nat))]) _ ⟨0,rfl,?_,?_⟩ ?_)
 ·exact bD
 ·simp (disch:=omega) only[go_sem,seval]<;>rfl
 rintro n ρ ⟨i,rfl,l0_0,rfl⟩ _ Z4;refine aB [0,2,3,8,9,10,11,12,13] ?_;refine aA fun _ Z6=>aO (fun c0=>?_) fun c0=>?_
 ·refine aD (Z6 _ (aA fun _ Z7=>aI (aA fun _ Z8=>?_)));have hl:=ho.l i c0;refine bE [0,2,3,8,9,10,11,12,13] ?_;refine Z8 _ (aB [0,2,3,4,5,8,9,10,11,12,13] ?_);refine aI (aX [2,3,11,12,13,4,5,19,20,21] (fun n ρ=> ∃j,n=(tr.getD i default).xAb.length-j∧(j≤(tr.getD i default).xAb.length)∧ρ=dU O [(2,.bx (fG (fun _ _=>0))),(3,.bx (fG (bgP tr i j))),(11,cL tr),(12,vi (tr.length:Nat)),(13,vi (i:Nat)),(4,vi (i:Nat)),(5,.bx (kQ (tr.getD i default))),(19,aCf (tr.getD i default).xAb),(20,vi ((tr.getD i default).xAb.length:Nat)),(21,vi (j:Nat))]) _ ⟨0,rfl,?_,?_⟩ ?_)
  ·exact bD
  ·exact dT
  rintro n ρ ⟨j,rfl,l1_0,rfl⟩ _ Z10;refine aB [0,2,3,4,5,8,9,10,11,12,13,18,19,20,21] ?_;refine aA fun _ Z12=>aO (fun c1=>?_) fun c1=>?_
  ·refine aD (Z12 _ (aA fun _ Z13=>aI (aB [0,2,3,4,5,8,9,10,11,12,13,18,19,20,21] ?_)));refine aA fun _ Z15=>gJ [0,2,3,4,5,6,7,8,9,10,11,12,13,18,19,20,21] [] ?_;refine Z15 _ (aB [0,2,3,4,5,6,7,8,9,10,11,12,13,18,19,20,21] ?_);refine aO (fun c2=>?_) fun c2=>?_
   ·have b1:=bLr ho c0 (j-1) aV;have b2:=ho.s i (j-1) c0 aV;have hjm:=bFz tr i j aV;have hun:=bBf (bgP tr i j) i j (j-1) (((tr.getD i default).xAb.getD j default).xBf) aV;refine gJ [0,2,3,4,5,6,7,8,9,10,11,12,13,18,19,20,21] [] ?_;refine Z13 _ (bE [0,2,3,4,5,8,9,10,11,12,13,18,19,20,21] ?_);refine Z10 _ _ bD ⟨j+1,rfl,bD,?_⟩;simp (disch:=omega) only[go_sem,seval]<;>rw[bBf _ _ _ _ _ (show j-1≠j by omega),hjm,cOt tr i j _ _ (cMh aV _ rfl)];rfl
   refine aD (Z13 _ (bE [0,2,3,4,5,8,9,10,11,12,13,18,19,20,21] ?_));refine Z10 _ _ bD ⟨j+1,rfl,bD,?_⟩;simp (disch:=omega) only[go_sem,seval]<;>rw[cNt aV];rfl
  refine bA (Z7 _ (bE [0,2,3,8,9,10,11,12,13] ?_));refine Z4 _ _ bD ⟨i+1,rfl,bD,?_⟩;simp (disch:=omega) only[go_sem,seval]<;>rw[cCp aV];rfl
 refine bA (Z2 _ (aB [2,3] ?_));refine aL ?_;refine aAc 2 191 rfl sz (by simp (disch:=omega) only[go_sem,seval]<;>(rw[bZp aV aV])) sz sz
end
def plE (tr:List bR) (d:Dr) (a:Pl) (i:Nat):Int:=d i (a i)+((tr.getD i default).xAb.getD (a i) default).xBe
def yI (tr:List bR) (c:Cl) (d:Dr) (a:Pl) (i k m:Nat):Int:=if c i (a i) k m=true then (if d k m<plE tr d a i then plE tr d a i else d k m) else d k m
def plR (tr:List bR) (c:Cl) (d:Dr) (a:Pl) (i k:Nat):Nat→Int
 |0=>if a k≤0 then yI tr c d a i k 0 else d k 0
 |m+1=>if a k≤m+1 then (if a k<m+1 then (if yI tr c d a i k (m+1)<plR tr c d a i k m+((tr.getD k default).xAb.getD m default).xBe then plR tr c d a i k m+((tr.getD k default).xAb.getD m default).xBe else yI tr c d a i k (m+1)) else yI tr c d a i k (m+1)) else d k (m+1)
def plD (tr:List bR) (c:Cl) (d:Dr) (a:Pl) (i:Nat):Dr:=fun x y=>if x≠i∧x<tr.length∧y<(tr.getD x default).xAb.length then plR tr c d a i x y else d x y
def plP (tr:List bR) (c:Cl) (d:Dr) (a:Pl) (i k m:Nat):Dr:=fun x y=>if x≠i∧((x<k∧y<(tr.getD x default).xAb.length)∨(x=k∧y<m)) then plR tr c d a i x y else d x y
section
variable {tr:List bR} {c:Cl} {d:Dr} {a:Pl} {i k m:Nat}
theorem bCv (h:m<a k):plR tr c d a i k m=d k m:=by
 cases m with
 |zero=>rw[plR,if_neg aV]
 |succ m=>rw[plR,if_neg aV]
theorem cOq:plP tr c d a i 0 0=d:=by
 funext x y;unfold plP;rw[if_neg aV]
theorem cNr (h:k=i):plP tr c d a i k 0=plP tr c d a i (k+1) 0:=by
 subst h;funext x y;unfold plP;by_cases h1:x≠k∧(x<k∧y<(tr.getD x default).xAb.length)
 ·rw[if_pos aV,if_pos aV]
 rw[if_neg aV,if_neg aV]
theorem cPe:plP tr c d a i k (a k)=plP tr c d a i k 0:=by
 funext x y;unfold plP;by_cases h1:x≠i∧(x<k∧y<(tr.getD x default).xAb.length)
 ·rw[if_pos aV,if_pos aV]
 rw[if_neg (c:=x≠i∧((x<k∧y<(tr.getD x default).xAb.length)∨(x=k∧y<0))) aV];split
 ·rename_i h2;obtain ⟨_,h3⟩:=h2;rcases h3 with h3|⟨rfl,h3⟩
  ·exact absurd ⟨by omega,h3⟩ h1
  exact bCv h3
 rfl
theorem cMs (h:(tr.getD k default).xAb.length≤m) (h2:m≤(tr.getD k default).xAb.length):plP tr c d a i k m=plP tr c d a i (k+1) 0:=by
 have:m=(tr.getD k default).xAb.length:=by omega
 subst this;funext x y;unfold plP;by_cases hx:x=k
 ·subst hx;by_cases h1:x≠i∧y<(tr.getD x default).xAb.length
  ·rw[if_pos aV,if_pos aV]
  rw[if_neg aV,if_neg aV]
 by_cases h1:x≠i∧(x<k∧y<(tr.getD x default).xAb.length)
 ·rw[if_pos aV,if_pos aV]
 rw[if_neg aV,if_neg aV]
theorem cSm (h:tr.length≤k) (h2:k≤tr.length):plP tr c d a i k 0=plD tr c d a i:=by
 have:k=tr.length:=by omega
 subst this;funext x y;unfold plP plD;by_cases h1:x≠i∧x<tr.length∧y<(tr.getD x default).xAb.length
 ·rw[if_pos aV,if_pos h1]
 rw[if_neg aV,if_neg h1]
theorem bHk:plP tr c d a i k m k m=d k m:=by unfold plP;rw[if_neg aV]
theorem bGr (hk: ¬k=i) (h:0<m):plP tr c d a i k m k (m-1)=plR tr c d a i k (m-1):=by unfold plP;rw[if_pos ⟨hk,Or.inr ⟨rfl,by omega⟩⟩]
theorem bZy (d:Dr) (i j:Nat) (u v:Int):upD (upD d i j u) i j v=upD d i j v:=by
 funext x y;simp only[upD];split<;>rfl
theorem bGi (hk: ¬k=i) {v:Int} (hv:v=plR tr c d a i k m):upD (plP tr c d a i k m) k m v=plP tr c d a i k (m+1):=by
 funext x y;simp only[upD,plP];by_cases h:x=k∧y=m
 ·rw[if_pos h,if_pos aV,h.1,h.2,hv]
 rw[if_neg h];by_cases h2:x≠i∧((x<k∧y<(tr.getD x default).xAb.length)∨(x=k∧y<m))
 ·rw[if_pos h2,if_pos aV]
 rw[if_neg h2,if_neg aV]
theorem cSo (hk: ¬k=i) (hv:d k m=plR tr c d a i k m):plP tr c d a i k m=plP tr c d a i k (m+1):=by
 rw[← bGi hk hv];funext x y;simp only[upD];split
 ·rename_i h;rw[h.1,h.2];exact bHk
 rfl
theorem aVd (h:a k<m):plR tr c d a i k m=if yI tr c d a i k m<plR tr c d a i k (m-1)+((tr.getD k default).xAb.getD (m-1) default).xBe then plR tr c d a i k (m-1)+((tr.getD k default).xAb.getD (m-1) default).xBe else yI tr c d a i k m:=by
 obtain ⟨q,rfl⟩: ∃q,m=q+1:=⟨m-1,by omega⟩;simp only[xN];rw[plR,if_pos (show a k≤q+1 by omega),if_pos h]
theorem bDi (h:m=a k):plR tr c d a i k m=yI tr c d a i k m:=by
 cases m with
 |zero=>rw[plR,if_pos (show a k≤0 by omega)]
 |succ m=>rw[plR,if_pos (show a k≤m+1 by omega),if_neg (show ¬a k<m+1 by omega)]
theorem cOw (hc:c i (a i) k m=true):yI tr c d a i k m=if d k m<plE tr d a i then plE tr d a i else d k m:=by rw[yI,if_pos hc]
theorem cSj (hc:c i (a i) k m=false):yI tr c d a i k m=d k m:=by rw[yI,if_neg (by rw[hc];simp)]
theorem vlA (hc:c i (a i) k m=true) (h:a k<m):(if (if d k m<plE tr d a i then plE tr d a i else d k m)<plR tr c d a i k (m-1)+((tr.getD k default).xAb.getD (m-1) default).xBe then plR tr c d a i k (m-1)+((tr.getD k default).xAb.getD (m-1) default).xBe else (if d k m<plE tr d a i then plE tr d a i else d k m))=plR tr c d a i k m:=by
 rw[aVd h,cOw hc]
theorem vlB (hc:c i (a i) k m=true) (h:m=a k):(if d k m<plE tr d a i then plE tr d a i else d k m)=plR tr c d a i k m:=by rw[bDi h,cOw hc]
theorem vlC (hc:c i (a i) k m=false) (h:a k<m):(if d k m<plR tr c d a i k (m-1)+((tr.getD k default).xAb.getD (m-1) default).xBe then plR tr c d a i k (m-1)+((tr.getD k default).xAb.getD (m-1) default).xBe else d k m)=plR tr c d a i k m:=by rw[aVd h,cSj hc]
theorem vlD (hc:c i (a i) k m=false) (h:m=a k):d k m=plR tr c d a i k m:=by rw[bDi h,cSj hc]
theorem cSh (c:Cl) {i j k m:Nat} (hi:i<4) (hj:j<4) (hk:k<4) (hm:m<4):(((((clL c).drop (i*64)).drop (j*16)).drop (k*4)).drop m).getD 0 .any=vb (c i j k m):=by
 rw[xW,xW,xW,← cAv c hi hj hk hm,cA,sC,cA];congr 2;omega
theorem cPp (c:Cl) {i j k m:Nat} (hi:i<4) (hj:j<4) (hk:k<4) (hm:m<4):(0<(((((clL c).drop (i*64)).drop (j*16)).drop (k*4)).drop m).length)=True:=by
 simp only[aMa,bGp,eq_iff_iff,iff_true];omega
def Bn (d:Dr) (N:Int):Prop:= ∀x y,0≤d x y∧d x y≤N
theorem bFg (ho:Ok tr) {N:Int} (hd:Bn d N) (hi:i<tr.length) (hai:a i<(tr.getD i default).xAb.length) (hk:k<tr.length): ∀m,m<(tr.getD k default).xAb.length→0≤plR tr c d a i k m∧plR tr c d a i k m≤N+1000+1000*m
 |0,hm=>by
  have h1:=hd k 0;have h2:=hd i (a i);have h3:=ho.s i (a i) hi hai;unfold plR yI plE;split<;>(try split)<;>(try split)<;>omega
 |m+1,hm=>by
  have h1:=hd k (m+1);have h2:=hd i (a i);have h3:=ho.s i (a i) hi hai;have h4:=bFg ho hd hi hai hk m aV;have h5:=ho.s k m hk aV;have h6:0≤yI tr c d a i k (m+1)∧yI tr c d a i k (m+1)≤N+1000:=by
   unfold yI plE;split<;>(try split)<;>omega
  unfold plR;split<;>(try split)<;>(try split)<;>omega
end
section
attribute [local go_sem] cSh cPp bPj bHk
theorem kV (O:aN) (tr:List bR) (c:Cl) (d:Dr) (a:Pl) (i:Nat) (ho:Ok tr) (hd:Bn d 1099511617776) (hi:i<tr.length) (hai:a i<(tr.getD i default).xAb.length) (ha:Pk tr a):aZ Tryz.prog O 89 [gY tr c,.agg (fG d),.agg (mT a),vi (i:Nat)] (.agg (fG (plD tr c d a i))):=by
 have hn:=ho.n;have hli:=ho.l i hi;have bi:=hd i (a i);have ri:=ho.s i (a i) hi hai;refine eV Tryz.func89 ?_;refine aB [0,1,2,3] ?_;refine aB [0,3,5,6,8] ?_;refine aA fun _ Z2=>gJ [0,3,5,6,8,9] [] ?_;refine Z2 _ (aA fun _ Z3=>aB [0,3,5,6,8,9,10] ?_);refine aI (aX [0,3,6,8,9,10,38,39,40,5] (fun n ρ=> ∃k,n=tr.length-k∧(k≤tr.length)∧ρ=dU O [(0,gY tr c),(3,vi (i:Nat)),(6,.bx (mT a)),(8,.bx (fG (fun _ _=>0))),(9,vi (a i:Nat)),(10,vi (plE tr d a i)),(38,cL tr),(39,vi (tr.length:Nat)),(40,vi (k:Nat)),(5,.bx (fG (plP tr c d a i k 0)))]) _ ⟨0,rfl,?_,?_⟩ ?_)
 ·exact bD
 ·simp (disch:=omega) only[go_sem,seval]<;>(rw[cOq];rfl)
 rintro n ρ ⟨k,rfl,l0_0,rfl⟩ _ Z5;refine aB [0,3,5,6,8,9,10,35,36,37,38,39,40] ?_;refine aA fun _ Z7=>aO (fun c0=>?_) fun c0=>?_
 ·refine aD (Z7 _ (aA fun _ Z8=>aI (aA fun _ Z9=>?_)));have hl:=ho.l k c0;have hak:=ha k c0;refine bE [0,3,5,6,8,9,10,35,36,37,38,39,40] ?_;refine Z9 _ (aA fun _ Z10=>aB [0,3,5,6,8,9,10,11,12,35,36,37,38,39,40] ?_);refine aO (fun c1=>?_) fun c1=>?_
  ·refine bA (Z8 _ (bE [0,3,5,6,8,9,10,35,36,37,38,39,40] ?_));refine Z5 _ _ bD ⟨k+1,rfl,bD,?_⟩;simp (disch:=omega) only[go_sem,seval]<;>(rw[cNr aV];rfl)
  refine aD (Z10 _ (aB [0,3,5,6,8,9,10,11,12,35,36,37,38,39,40] ?_));refine aI (aX [0,3,6,8,9,10,38,39,40,5,11,12,13] (fun n ρ=> ∃m,n=(tr.getD k default).xAb.length-m∧(a k≤m)∧(m≤(tr.getD k default).xAb.length)∧ρ=dU O [(0,gY tr c),(3,vi (i:Nat)),(6,.bx (mT a)),(8,.bx (fG (fun _ _=>0))),(9,vi (a i:Nat)),(10,vi (plE tr d a i)),(38,cL tr),(39,vi (tr.length:Nat)),(40,vi (k:Nat)),(5,.bx (fG (plP tr c d a i k m))),(11,vi (k:Nat)),(12,.bx (kQ (tr.getD k default))),(13,vi (m:Nat))]) _ ⟨a k,rfl,?_,?_,?_⟩ ?_)
  ·exact bD
  ·exact bD
  ·simp (disch:=omega) only[go_sem,seval]<;>(rw[cPe])
  rintro n ρ ⟨m,rfl,l1_0,l1_1,rfl⟩ _ Z13;refine aA fun _ Z14=>aB [0,3,5,6,8,9,10,11,12,13,35,36,37,38,39,40] ?_;refine aO (fun c2=>?_) fun c2=>?_
  ·refine aD (Z14 _ (aA fun _ Z16=>aI (aA fun _ Z17=>aB [0,3,5,6,8,9,10,11,12,13,35,36,37,38,39,40] ?_)));refine aO (fun c3=>?_) fun c3=>?_
   ·refine gJ [0,3,5,6,8,9,10,11,12,13,35,36,37,38,39,40] [] ?_;refine Z17 _ (aB [0,3,5,6,8,9,10,11,12,13,35,36,37,38,39,40] ?_);refine aO (fun c4=>?_) fun c4=>?_
    ·have hpr:=bGr (tr:=tr) (c:=c) (d:=d) (a:=a) (i:=i) (k:=k) (m:=m) aV aV;have b1:=bFg (c:=c) ho hd hi hai c0 (m-1) aV;have b2:=ho.s k (m-1) c0 aV;refine gJ [0,3,5,6,8,9,10,11,12,13,35,36,37,38,39,40] [] ?_;refine Z16 _ (bE [0,3,5,6,8,9,10,11,12,13,35,36,37,38,39,40] ?_);refine Z13 _ _ bD ⟨m+1,rfl,bD,bD,?_⟩;simp (disch:=omega) only[go_sem,seval]<;>(rw[bBf _ _ _ _ _ (show m-1≠m by omega),hpr,uJ aV aV,bZy,bGi c1 (vlA c3 c4)];rfl)
    refine aD (Z16 _ (bE [0,3,5,6,8,9,10,11,12,13,35,36,37,38,39,40] ?_));refine Z13 _ _ bD ⟨m+1,rfl,bD,bD,?_⟩;simp (disch:=omega) only[go_sem,seval]<;>(rw[bGi c1 (vlB c3 aV)];rfl)
   refine aD (Z17 _ (aB [0,3,5,6,8,9,10,11,12,13,35,36,37,38,39,40] ?_));refine aO (fun c5=>?_) fun c5=>?_
   ·have hpr:=bGr (tr:=tr) (c:=c) (d:=d) (a:=a) (i:=i) (k:=k) (m:=m) aV aV;have b1:=bFg (c:=c) ho hd hi hai c0 (m-1) aV;have b2:=ho.s k (m-1) c0 aV;refine gJ [0,3,5,6,8,9,10,11,12,13,35,36,37,38,39,40] [] ?_;refine Z16 _ (bE [0,3,5,6,8,9,10,11,12,13,35,36,37,38,39,40] ?_);refine Z13 _ _ bD ⟨m+1,rfl,bD,bD,?_⟩;simp (disch:=omega) only[go_sem,seval]<;>(rw[hpr,bGi c1 (vlC c3 c5)];rfl)
   refine aD (Z16 _ (bE [0,3,5,6,8,9,10,11,12,13,35,36,37,38,39,40] ?_));refine Z13 _ _ bD ⟨m+1,rfl,bD,bD,?_⟩;simp (disch:=omega) only[go_sem,seval]<;>(rw[cSo c1 (vlD c3 aV)];rfl)
  refine bA (Z8 _ (bE [0,3,5,6,8,9,10,35,36,37,38,39,40] ?_));refine Z5 _ _ bD ⟨k+1,rfl,bD,?_⟩;simp (disch:=omega) only[go_sem,seval]<;>(rw[cMs aV aV];rfl)
 refine bA (Z3 _ (aB [5,8] ?_));refine aL ?_;refine aAc 8 191 rfl sz (by simp (disch:=omega) only[go_sem,seval]<;>(rw[cSm aV aV])) sz sz
end
inductive vA (tr:List bR) (c:Cl):Pl→Dr→Prop
 |b:vA tr c (fun _=>0) (bgD tr)
 |s {a:Pl} {d:Dr} {i:Nat} (h:vA tr c a d) (hi:i<tr.length) (ha:a i<(tr.getD i default).xAb.length):vA tr c (lK a i (a i+1)) (plD tr c d a i)
def sA (a:Pl):Nat:=a 0+a 1+a 2+a 3
def nD (tr:List bR) (c:Cl) (d:Dr):Prop:=vA tr c (enA tr) d
section
variable {tr:List bR} {c:Cl} {d:Dr} {a:Pl} {i:Nat}
theorem vA.pk (ho:Ok tr) (h:vA tr c a d):(∀i,i<tr.length→a i≤(tr.getD i default).xAb.length)∧ ∀i,tr.length≤i→a i=0:=by
 induction h with
 |b=>exact ⟨fun _ _=>nJ _,fun _ _=>rfl⟩
 |s h hi ha ih=>
  refine ⟨fun k hk=>?_,fun k hk=>?_⟩
  ·unfold lK;split
   ·rename_i e;subst e;omega
   exact ih.1 k hk
  unfold lK;rw[if_neg aV];exact ih.2 k hk
theorem cKs (hi:i<4):sA (lK a i (a i+1))=sA a+1:=by
 unfold sA lK;rcases (show i=0∨i=1∨i=2∨i=3 by omega) with rfl|rfl|rfl|rfl<;>simp<;>omega
theorem vA.le4 (ho:Ok tr) (h:vA tr c a d) (k:Nat):a k≤4:=by
 have hp:=h.pk ho;rcases b9 k tr.length with q|q
 ·have:=hp.1 k q;have:=ho.l k q;omega
 rw[hp.2 k q];omega
theorem bLp (d:Dr) (a:Pl) (h:a 0<16):(fG d).getD (a 0) .any=vi (d (a 0/4) (a 0%4)):=by
 unfold fG;rw[cA,dG,p9 h];rfl
theorem vA.sum (ho:Ok tr) (h:vA tr c a d):sA a≤16:=by
 have hp:=h.pk ho;have hn:=ho.n;have key: ∀k,k<4→a k≤4:=fun k hk=>by
  rcases b9 k tr.length with q|q
  ·have:=hp.1 k q;have:=ho.l k q;omega
  rw[hp.2 k q];omega
 have:=key 0 aV;have:=key 1 aV;have:=key 2 aV;have:=key 3 aV;unfold sA;omega
theorem vA.bn (ho:Ok tr) (h:vA tr c a d):Bn d (1073745824+4000*(sA a:Int)):=by
 induction h with
 |b=>
  intro x y;unfold bgD;split
  ·rename_i h;have:=bLr ho h.1 y h.2;have:=(ho.l x h.1).2;simp only[sA];omega
  simp only[sA];omega
 | @s a d i h hi ha ih=>
  have hn:=ho.n;rw[cKs aV];intro x y;unfold plD;split
  ·rename_i h;have:=bFg (c:=c) ho ih hi ha h.2.1 y h.2.2;have:=(ho.l x h.2.1).2;omega
  have:=ih x y;omega
theorem vA.bd (ho:Ok tr) (h:vA tr c a d):Bn d 1099511617776:=fun x y=>by
 have h1:=h.bn ho x y;have h2:=h.sum ho;omega
theorem vA.bd' (ho:Ok tr) (h:vA tr c a d):Bd d:=fun x y=>by
 have h1:=h.bd ho x y;omega
theorem vA.full (ho:Ok tr) (h:vA tr c a d) (hf: ∀k,k<tr.length→a k=(tr.getD k default).xAb.length):nD tr c d:=by
 have:a=enA tr:=by
  funext k;unfold enA;split
  ·rename_i hk;exact hf k hk
  rename_i hk;exact (h.pk ho).2 k aV
 subst this;exact h
theorem aQl {P:Program} {ρ:aN} {fn:Func} {O:aN} {cs:List DV} {R:DV→Prop} (a t:Nat) (hf:fn.results= #[.cell a t]) (h1:hi ρ=bS O) (h2:ρ a=.bx cs) (h3:eA P t=some (some cs.length)) (h4:sh (.agg cs)=.agg cs) (hR:R (.agg cs)):rZ P fn O (fun O' r'=>O'=O∧R r') .ret ρ:=
 ⟨O,.agg cs,iK h1,fun _=>fR.refl _,fun _ h=>h,by rw[hf];exact ⟨rfl,cs,h2,.inl ⟨h3,by rw[h4];exact eK.refl _⟩⟩,rfl,hR⟩
theorem cAy (p:Nat):((p:Int)<0)=False:=by apply propext;simp
end
theorem cTg {p:Nat→Prop} {i:Nat} (h: ∀k,k<i→p k) (h2:p i): ∀k,k<i+1→p k:=fun k hk=>by
 rcases uU (aBz hk) with q|q
 ·exact h k q
 subst q;exact h2
def NxI (tr:List bR) (a:Pl) (i:Nat) (x:Int):Prop:=(x= -1∧ ∀k,k<i→a k=(tr.getD k default).xAb.length)∨ ∃p:Nat,x=(p:Int)∧p<tr.length∧a p<(tr.getD p default).xAb.length∧a p<4
section
attribute [local go_sem] bLp cAy Int.reduceLT
theorem rX (O:aN) (tr:List bR) (c:Cl) (ho:Ok tr):iC Tryz.prog O 133 [gY tr c] (fun O' r'=>O'=O∧ ∃d,nD tr c d∧r'=.agg (fG d)):=by
 have hsx:=cP decide_true decide_false;have hn:=ho.n;refine kY Tryz.func133 rfl bF ?_;refine bB [0] ?_;refine aA fun _ Z1=>eZ [0,2] ?_;refine pV (kS _ tr c ho) ?_;refine Z1 _ (bB [0,2,3] ?_);refine aI (aX [0,2,3,4] (fun n ρ=> ∃a,∃d,n=16-sA a∧(vA tr c a d)∧ρ=dU O [(0,gY tr c),(2,.bx (fG (fun _ _=>0))),(3,.bx (fG d)),(4,.bx (mT a))]) _ ⟨fun _=>0,bgD tr,rfl,?_,?_⟩ ?_)
 ·exact vA.b
 ·simp (disch:=omega) only[go_sem,seval,hsx]<;>rfl
 rintro n ρ ⟨a,d,rfl,l0_0,rfl⟩ _ Z3;refine aI (bB [0,2,3,4] ?_);refine aA fun _ Z5=>bB [0,2,3,4,5] ?_;refine aI (aX [0,2,3,4,5,13,14,15] (fun n ρ=> ∃i,∃x,n=tr.length-i∧(i≤tr.length)∧(NxI tr a i x)∧ρ=dU O [(0,gY tr c),(2,.bx (fG (fun _ _=>0))),(3,.bx (fG d)),(4,.bx (mT a)),(5,vi x),(13,cL tr),(14,vi (tr.length:Nat)),(15,vi (i:Nat))]) _ ⟨0,-1,rfl,?_,?_,?_⟩ ?_)
 ·exact bD
 ·exact .inl ⟨rfl,fun _ h=>absurd h aV⟩
 ·exact eX
 rintro n ρ ⟨i,x,rfl,l1_0,l1_1,rfl⟩ _ Z7;rcases l1_1 with ⟨rfl,hz⟩|⟨p,rfl,hp1,hp2,hp3⟩
 ·skip
  refine bB [0,2,3,4,5,10,11,12,13,14,15] ?_;refine aA fun _ Z9=>aO (fun c0=>?_) fun c0=>?_
  ·refine aD (Z9 _ (aA fun _ Z10=>aI (aA fun _ Z11=>?_)));have h0:=l0_0.le4 ho 0;have hai:=(l0_0.pk ho).1 i (by assumption);have hli:=ho.l i (by assumption);refine cN [0,2,3,4,5,10,11,12,13,14,15] ?_;refine Z11 _ (aA fun _ Z12=>aA fun _ Z13=>jF [0,2,3,4,5,6,7,10,11,12,13,14,15] [] ?_);refine Z13 _ (aO (fun c1=>?_) fun c1=>?_)
   ·refine bA (Z10 _ (cN [0,2,3,4,5,10,11,12,13,14,15] ?_));refine Z7 _ _ bD ⟨i+1,-1,rfl,bD,?_,?_⟩
    ·exact .inl ⟨rfl,cTg hz (by assumption)⟩
    exact eX
   refine aD (Z12 _ (aA fun _ Z14=>jF [0,2,3,4,5,6,10,11,12,13,14,15] [] ?_));refine Z14 _ (dY true (by rfl) (rfl) (fun _=>?_) (fun h=>by cases h));refine cN [0,2,3,4,6,10,11,12,13,14,15] ?_;refine Z10 _ (cN [0,2,3,4,5,10,11,12,13,14,15] ?_);refine Z7 _ _ bD ⟨i+1,(i:Nat),rfl,bD,?_,?_⟩
   ·exact .inr ⟨i,rfl,by assumption,by omega,by omega⟩
   exact eX
  refine bA (Z5 _ (aA fun _ Z15=>bB [0,2,3,4,5] ?_));refine dY true (by rfl) (rfl) (fun _=>?_) (fun h=>by cases h);refine bB [2,3] ?_;refine aL (aQl 2 191 rfl xU xU xU xU (⟨d,l0_0.full ho fun k hk=>hz k aV,rfl⟩))
 skip
 refine bB [0,2,3,4,5,10,11,12,13,14,15] ?_;refine aA fun _ Z19=>aO (fun c4=>?_) fun c4=>?_
 ·refine aD (Z19 _ (aA fun _ Z20=>aI (aA fun _ Z21=>?_)));have h0:=l0_0.le4 ho 0;have hai:=(l0_0.pk ho).1 i (by assumption);have hli:=ho.l i (by assumption);refine cN [0,2,3,4,5,10,11,12,13,14,15] ?_;refine Z21 _ (aA fun _ Z22=>aA fun _ Z23=>jF [0,2,3,4,5,6,7,10,11,12,13,14,15] [] ?_);refine Z23 _ (aO (fun c5=>?_) fun c5=>?_)
  ·refine bA (Z20 _ (cN [0,2,3,4,5,10,11,12,13,14,15] ?_));refine Z7 _ _ bD ⟨i+1,(p:Nat),rfl,bD,?_,?_⟩
   ·exact .inr ⟨p,rfl,hp1,hp2,hp3⟩
   exact eX
  refine aD (Z22 _ (aA fun _ Z24=>jF [0,2,3,4,5,6,10,11,12,13,14,15] [] ?_));refine Z24 _ (aO (fun c6=>?_) fun c6=>?_)
  ·refine cS [0,2,3,4,6,10,11,12,13,14,15] bF ?_;refine gE ?_;refine Z20 _ (cN [0,2,3,4,5,10,11,12,13,14,15] ?_);refine Z7 _ _ bD ⟨i+1,(i:Nat),rfl,bD,?_,?_⟩
   ·exact .inr ⟨i,rfl,by assumption,by omega,by omega⟩
   exact eX
  refine aD (Z20 _ (cN [0,2,3,4,5,10,11,12,13,14,15] ?_));refine Z7 _ _ bD ⟨i+1,(p:Nat),rfl,bD,?_,?_⟩
  ·exact .inr ⟨p,rfl,hp1,hp2,hp3⟩
  exact eX
 refine bA (Z5 _ (aA fun _ Z25=>bB [0,2,3,4,5] ?_));refine dY false (by rfl) (rfl) (fun h=>by cases h) (fun _=>?_);refine aD (Z25 _ (aA fun _ Z27=>eZ [0,2,3,4,5] ?_));refine pV (kV _ tr c d a p ho (l0_0.bd ho) hp1 hp2 (l0_0.pk ho).1) ?_;refine Z27 _ (eZ [0,2,3,4,5] ?_);have hsm:=l0_0.sum ho;have hss:=cKs (a:=a) (i:=p) aV;have hs2:=(l0_0.s (c:=c) hp1 hp2).sum ho;refine Z3 _ _ bD ⟨lK a p (a p+1),plD tr c d a p,rfl,?_,?_⟩
 ·exact l0_0.s hp1 hp2
 exact eX
end
theorem cSv:eW Tryz.prog 250=some (.slice none 0 0::List.replicate 256 (.bool false)):=by kernel_rfl
theorem clZ (f:Value→DV) (v0:Value):List.map f (v0::List.replicate 256 (.bool false))=f v0::List.replicate 256 (f (.bool false)):=by rw[kH,List.map_replicate]
theorem cTs:List.replicate 256 (.v (.bool false))=clL (fun _ _ _ _=>false):=by
 unfold clL;rw[List.map_const',List.length_range]
def csF (t:dC) (tr:List bR):Cl:=fun x y z u=>if x<tr.length∧z<tr.length∧x≠z∧y<(tr.getD x default).xAb.length∧u<(tr.getD z default).xAb.length then clB t ((tr.getD x default).xAb.getD y default) ((tr.getD z default).xAb.getD u default) else false
def csP (t:dC) (tr:List bR) (i k j m:Nat):Cl:=fun x y z u=>if (x<i∨(x=i∧(z<k∨(z=k∧(y<j∨(y=j∧u<m))))))∧z<tr.length then csF t tr x y z u else false
section
variable {t:dC} {tr:List bR} {i k j m:Nat}
theorem cSx:csP t tr 0 0 0 0=fun _ _ _ _=>false:=by
 funext x y z u;unfold csP;rw[if_neg aV]
theorem cQl (h:tr.length≤i):csP t tr i 0 0 0=csF t tr:=by
 funext x y z u;unfold csP;by_cases h1:x<tr.length∧z<tr.length
 ·rw[if_pos aV]
 unfold csF;split<;>first|rfl|(rw[if_neg aV])
theorem cPl (h:tr.length≤k):csP t tr i k 0 0=csP t tr (i+1) 0 0 0:=by
 funext x y z u;unfold csP;by_cases h1:(x<i∨x=i)∧z<tr.length
 ·rw[if_pos aV,if_pos aV]
 rw[if_neg aV,if_neg aV]
theorem bQc (h:i=k):csP t tr i k 0 0=csP t tr i (k+1) 0 0:=by
 funext x y z u;unfold csP;by_cases h1:x=i∧z=k
 ·have:csF t tr x y z u=false:=by unfold csF;rw[if_neg aV]
  rw[this];split<;>split<;>rfl
 by_cases h2:(x<i∨(x=i∧z<k))∧z<tr.length
 ·rw[if_pos aV,if_pos aV]
 rw[if_neg aV,if_neg aV]
theorem cQn (h:(tr.getD i default).xAb.length≤j):csP t tr i k j 0=csP t tr i (k+1) 0 0:=by
 funext x y z u;unfold csP;by_cases h1:x=i∧z=k∧j≤y
 ·have:csF t tr x y z u=false:=by
   obtain ⟨rfl,rfl,h3⟩:=h1;unfold csF;rw[if_neg aV]
  rw[this];split<;>split<;>rfl
 by_cases h2:(x<i∨(x=i∧(z<k∨z=k)))∧z<tr.length
 ·rw[if_pos aV,if_pos aV]
 rw[if_neg aV,if_neg aV]
theorem cOi (h:(tr.getD k default).xAb.length≤m):csP t tr i k j m=csP t tr i k (j+1) 0:=by
 funext x y z u;unfold csP;by_cases h1:x=i∧z=k∧y=j∧m≤u
 ·have:csF t tr x y z u=false:=by
   obtain ⟨rfl,rfl,rfl,h3⟩:=h1;unfold csF;rw[if_neg aV]
  rw[this];split<;>split<;>rfl
 by_cases h2:(x<i∨(x=i∧(z<k∨(z=k∧(y<j∨y=j)))))∧z<tr.length
 ·rw[if_pos aV,if_pos aV]
 rw[if_neg aV,if_neg aV]
theorem cMr (hi:i<tr.length) (hk:k<tr.length) (hn: ¬i=k) (hj:j<(tr.getD i default).xAb.length) (hm:m<(tr.getD k default).xAb.length):upC (csP t tr i k j m) i j k m (clB t ((tr.getD i default).xAb.getD j default) ((tr.getD k default).xAb.getD m default))=csP t tr i k j (m+1):=by
 funext x y z u;unfold upC csP;by_cases h1:x=i∧y=j∧z=k∧u=m
 ·rw[if_pos h1,if_pos aV];obtain ⟨rfl,rfl,rfl,rfl⟩:=h1;unfold csF;rw[if_pos ⟨hi,hk,hn,hj,hm⟩]
 rw[if_neg h1];by_cases h2:(x<i∨(x=i∧(z<k∨(z=k∧(y<j∨(y=j∧u<m))))))∧z<tr.length
 ·rw[if_pos h2,if_pos aV]
 rw[if_neg h2,if_neg aV]
end
theorem bXs (X:DV) (c:Cl) {i j k m:Nat} (v:Bool) (hi:i<4) (hj:j<4) (hk:k<4) (hm:m<4):(X::clL c).set (i*64+1+j*16+k*4+m) (.v (.bool v))=X::clL (upC c i j k m v):=by
 rw[show i*64+1+j*16+k*4+m=(i*64+j*16+k*4+m)+1 by omega,List.set_cons_succ,cAm c v hi hj hk hm]
theorem bAx {P:Program} {O:aN} {f:FuncId} {args:List DV} {cs:List DV} (hp:d6 (fun _=>false) cs=true) (h:aZ P O f args (.bx cs)):aZ P O f args (.dp cs):=
 fun w I A vals h1 h2 h3=>(h w I A vals h1 h2 h3).mono fun _ w' ⟨v,I',O',r,k1,k2,k3,k4,k5,k6,k7,k8⟩=>by
  subst k8;obtain ⟨g,us,et,rfl,q2,q3,q4,q5,q6,q7,q8⟩:=k6;have hm: ∀g',I' g'→(I' g'∨g'=g):=fun g' hg=>.inl hg;have hmono: ∀(B':dD) d x,bP w' I' B' d x→bP w' (fun g'=>I' g'∨g'=g) B' d x:=fun B' d x hr=>hr.mono fun g' hg=>⟨hm g' hg,fun _=>rfl⟩;refine ⟨_,fun g'=>I' g'∨g'=g,_,.dp cs,k1,⟨fun s=>(k2.own s).keep (fun _ _ _=>rfl) hmono,k2.inj,fun s g' c' hA=>⟨(k2.sep s g' c' hA).1,fun hi=>hi.elim (k2.sep s g' c' hA).2 fun hB=>?_⟩,k2.imm.step (fun g' hg=>hg.elim (k2.imm g') fun hB=>hB▸q7) fun g' hg=>⟨.inl hg,rfl⟩⟩,k3,k4,
   ⟨k5.os,k5.tape,k5.output,k5.size,fun g' hg=>.inl (k5.imm g' hg),fun g' hg hA=>?_,k5.loc,k5.outA⟩,?_,k7,rfl⟩
  ·have:=(h1.sep s g' c' hA).1;omega
  ·obtain ⟨e1,e2,e3⟩:=k5.old g' hg hA;refine ⟨e1,fun hi=>hi.elim e2 fun hB=>?_,e3⟩;omega
  have hcell: ∀j,j<cs.length→us[j]?=some (us.getD j undef):=fun j hj=>by
   rw[oB,iY aV];rfl
  refine .dp A cs g 0 (fun j=>us.getD j undef) (.inr rfl) (fun j hj=>?_) (fun j hj=>?_) fun j d hd=>?_
  ·rw[gH,show w'.cell? ⟨g,j,none⟩=us[j]? by simp[World.cell?,q2]];exact hcell j hj
  ·exact q4 _ (by
    have:=hcell j hj;rw[← kK] at this;exact pP this)
  have hj:j<cs.length:=by
   rcases b9 j cs.length with h|h
   ·exact h
   rw[fN h] at hd;cases hd
  exact (hmono _ _ _ (q5 j d _ hd (hcell j hj))).pure (gZ hp hd)
section
attribute [local go_sem] cSv clZ cTs bXs
theorem aGm (O:aN) (t:dC) (tr:List bR) (hk:lV t tr=0) (hs:SmT t):aZ Tryz.prog O 83 [.agg (dQ t),cL tr] (.bx (cL tr::clL (csF t tr))):=by
 have ho:=aOj hk;have hn:=ho.n;have hP:=(cOb hk).2.2.1;refine eV Tryz.func83 ?_;refine aB [0,1] ?_;refine aB [1,2] ?_;refine aA fun _ Z2=>aB [1,2,5] ?_;refine aI (aX [1,2,17,18,19,5] (fun n ρ=> ∃i,n=tr.length-i∧(i≤tr.length)∧ρ=dU O [(1,cL tr),(2,.bx (dQ t)),(17,cL tr),(18,vi (tr.length:Nat)),(19,vi (i:Nat)),(5,.bx (cL tr::clL (csP t tr i 0 0 0)))]) _ ⟨0,rfl,?_,?_⟩ ?_)
 ·exact bD
 ·simp (disch:=omega) only[go_sem,seval]<;>(rw[cSx];rfl)
 rintro n ρ ⟨i,rfl,l0_0,rfl⟩ _ Z4;refine aB [1,2,5,17,18,19] ?_;refine aA fun _ Z6=>aO (fun c0=>?_) fun c0=>?_
 ·refine aD (Z6 _ (aA fun _ Z7=>aI (aA fun _ Z8=>?_)));have hli:=ho.l i c0;refine bE [1,2,5,17,18,19] ?_;refine Z8 _ (aB [1,2,5,6,7,17,18,19] ?_);refine aI (aX [1,2,17,18,19,6,7,24,25,26,5] (fun n ρ=> ∃k,n=tr.length-k∧(k≤tr.length)∧ρ=dU O [(1,cL tr),(2,.bx (dQ t)),(17,cL tr),(18,vi (tr.length:Nat)),(19,vi (i:Nat)),(6,vi (i:Nat)),(7,.bx (kQ (tr.getD i default))),(24,cL tr),(25,vi (tr.length:Nat)),(26,vi (k:Nat)),(5,.bx (cL tr::clL (csP t tr i k 0 0)))]) _ ⟨0,rfl,?_,?_⟩ ?_)
  ·exact bD
  ·exact dT
  rintro n ρ ⟨k,rfl,l1_0,rfl⟩ _ Z10;refine aB [1,2,5,6,7,17,18,19,24,25,26] ?_;refine aA fun _ Z12=>aO (fun c1=>?_) fun c1=>?_
  ·refine aD (Z12 _ (aA fun _ Z13=>aI (aA fun _ Z14=>?_)));have hlk:=ho.l k c1;refine bE [1,2,5,6,7,17,18,19,24,25,26] ?_;refine Z14 _ (aA fun _ Z15=>aB [1,2,5,6,7,8,9,17,18,19,24,25,26] ?_);refine aO (fun c2=>?_) fun c2=>?_
   ·refine bA (Z13 _ (bE [1,2,5,6,7,17,18,19,24,25,26] ?_));refine Z10 _ _ bD ⟨k+1,rfl,bD,?_⟩;simp (disch:=omega) only[go_sem,seval]<;>(rw[bQc aV];rfl)
   refine aD (Z15 _ (aB [1,2,5,6,7,8,9,17,18,19,24,25,26] ?_));refine aI (aX [1,2,17,18,19,6,7,24,25,26,8,9,35,36,37,5] (fun n ρ=> ∃j,n=(tr.getD i default).xAb.length-j∧(j≤(tr.getD i default).xAb.length)∧ρ=dU O [(1,cL tr),(2,.bx (dQ t)),(17,cL tr),(18,vi (tr.length:Nat)),(19,vi (i:Nat)),(6,vi (i:Nat)),(7,.bx (kQ (tr.getD i default))),(24,cL tr),(25,vi (tr.length:Nat)),(26,vi (k:Nat)),(8,vi (k:Nat)),(9,.bx (kQ (tr.getD k default))),(35,aCf (tr.getD i default).xAb),(36,vi ((tr.getD i default).xAb.length:Nat)),(37,vi (j:Nat)),(5,.bx (cL tr::clL (csP t tr i k j 0)))]) _ ⟨0,rfl,?_,?_⟩ ?_)
   ·exact bD
   ·exact dT
   rintro n ρ ⟨j,rfl,l2_0,rfl⟩ _ Z18;refine aB [1,2,5,6,7,8,9,17,18,19,24,25,26,34,35,36,37] ?_;refine aA fun _ Z20=>aO (fun c3=>?_) fun c3=>?_
   ·refine aD (Z20 _ (aA fun _ Z21=>aI (aB [1,2,5,6,7,8,9,17,18,19,24,25,26,34,35,36,37] ?_)));refine aB [1,2,5,6,7,8,9,10,11,17,18,19,24,25,26,34,35,36,37] ?_;refine aI (aX [1,2,17,18,19,6,7,24,25,26,8,9,35,36,37,10,11,43,44,45,5] (fun n ρ=> ∃m,n=(tr.getD k default).xAb.length-m∧(m≤(tr.getD k default).xAb.length)∧ρ=dU O [(1,cL tr),(2,.bx (dQ t)),(17,cL tr),(18,vi (tr.length:Nat)),(19,vi (i:Nat)),(6,vi (i:Nat)),(7,.bx (kQ (tr.getD i default))),(24,cL tr),(25,vi (tr.length:Nat)),(26,vi (k:Nat)),(8,vi (k:Nat)),(9,.bx (kQ (tr.getD k default))),(35,aCf (tr.getD i default).xAb),(36,vi ((tr.getD i default).xAb.length:Nat)),(37,vi (j:Nat)),(10,vi (j:Nat)),(11,.bx (pT ((tr.getD i default).xAb.getD j default))),(43,aCf (tr.getD k default).xAb),(44,vi ((tr.getD k default).xAb.length:Nat)),(45,vi (m:Nat)),(5,.bx (cL tr::clL (csP t tr i k j m)))]) _ ⟨0,rfl,?_,?_⟩ ?_)
    ·exact bD
    ·exact dT
    rintro n ρ ⟨m,rfl,l3_0,rfl⟩ _ Z24;refine aB [1,2,5,6,7,8,9,10,11,17,18,19,24,25,26,34,35,36,37,42,43,44,45] ?_;refine aA fun _ Z26=>aO (fun c4=>?_) fun c4=>?_
    ·refine aD (Z26 _ (aA fun _ Z27=>aI (aB [1,2,5,6,7,8,9,10,11,17,18,19,24,25,26,34,35,36,37,42,43,44,45] ?_)));refine gJ [1,2,5,6,7,8,9,10,11,12,13,17,18,19,24,25,26,34,35,36,37,42,43,44,45] [] ?_;refine cdz (aFc _ t ((tr.getD i default).xAb.getD j default) ((tr.getD k default).xAb.getD m default) (aXm hP c0 c3) (aXm hP c1 c4) hs) ?_;refine Z27 _ (bE [1,2,5,6,7,8,9,10,11,17,18,19,24,25,26,34,35,36,37,42,43,44,45] ?_);refine Z24 _ _ bD ⟨m+1,rfl,bD,?_⟩;simp (disch:=omega) only[go_sem,seval]<;>(rw[cMr c0 c1 aV c3 c4];rfl)
    refine bA (Z21 _ (bE [1,2,5,6,7,8,9,17,18,19,24,25,26,34,35,36,37] ?_));refine Z18 _ _ bD ⟨j+1,rfl,bD,?_⟩;simp (disch:=omega) only[go_sem,seval]<;>(rw[cOi aV];rfl)
   refine bA (Z13 _ (bE [1,2,5,6,7,17,18,19,24,25,26] ?_));refine Z10 _ _ bD ⟨k+1,rfl,bD,?_⟩;simp (disch:=omega) only[go_sem,seval]<;>(rw[cQn aV];rfl)
  refine bA (Z7 _ (bE [1,2,5,17,18,19] ?_));refine Z4 _ _ bD ⟨i+1,rfl,bD,?_⟩;simp (disch:=omega) only[go_sem,seval]<;>(rw[cPl aV];rfl)
 refine bA (Z2 _ (aB [5] ?_));refine aL (dN 4 (dX.ptr 5 (cL tr::clL (csF t tr)) (by rfl) aV ?_));rw[← cQl (t:=t) (tr:=tr) (i:=i) aV];exact congrArg DV.bx (congrArg (_:: ·) (bFn _ _).symm)
end
section
variable {tr:List bR}
end
section
variable {tr:List bR} {c:Cl} {d e:Dr} {a:Pl} {i k m:Nat}
theorem bGv:plD tr c d a i i m=d i m:=by unfold plD;rw[if_neg dH]
theorem cPv (h:m<a k):plD tr c d a i k m=d k m:=by
 unfold plD;split
 ·exact bCv h
 rfl
theorem bWh:d k m≤yI tr c d a i k m:=by unfold yI;split<;>(try split)<;>omega
theorem cEl:d k m≤plD tr c d a i k m:=by
 unfold plD;split
 ·rcases b9 m (a k) with h|h
  ·rw[bCv h];exact Int.le_refl _
  have:=bWh (tr:=tr) (c:=c) (d:=d) (a:=a) (i:=i) (k:=k) (m:=m);rcases b9 (a k) m with h2|h2
  ·rw[aVd h2];split<;>omega
  rw[bDi aV];exact this
 exact Int.le_refl _
end
section
variable {tr:List bR} {c:Cl}
def Gt (tr:List bR) (a b:Pl):Prop:= ∃p,p<tr.length∧b p<a p∧ ∀q,q<p→a q=b q
def Ge (tr:List bR) (a b:Pl):Prop:=a=b∨Gt tr a b
def Vp (tr:List bR) (a:Pl):Prop:=(∀i,i<tr.length→a i≤(tr.getD i default).xAb.length)∧ ∀i,tr.length≤i→a i=0
theorem vA.vp (ho:Ok tr) {a:Pl} {d:Dr} (h:vA tr c a d):Vp tr a:=h.pk ho
theorem Gt.up {a b:Pl} {i:Nat} (hi:i<tr.length) (h:Ge tr a b):Gt tr (lK a i (a i+1)) b:=by
 rcases h with rfl|⟨p,h1,h2,h3⟩
 ·exact ⟨i,hi,by simp[lK],fun q hq=>by simp[lK,show q≠i by omega]⟩
 rcases b9 i p with h|h
 ·exact ⟨i,hi,by have:=h3 i h;simp[lK];omega,fun q hq=>by rw[show lK a i (a i+1) q=a q by simp[lK,show q≠i by omega]];exact h3 q aV⟩
 refine ⟨p,h1,?_,fun q hq=>by rw[show lK a i (a i+1) q=a q by simp[lK,show q≠i by omega]];exact h3 q hq⟩;unfold lK;split
 ·rename_i e;subst e;omega
 exact h2
def zrA (a:Pl) (i:Nat):Pl:=fun q=>if i≤q then 0 else a q
def nxA (a:Pl) (i:Nat):Pl:=lK (zrA a (i+1)) i (a i+1)
theorem cBr {a b:Pl} {i:Nat} (hi:i<tr.length) (ha:Vp tr a) (hb:Vp tr b) (hf: ∀q,i<q→q<tr.length→b q=(tr.getD q default).xAb.length) (h:Gt tr a b):Ge tr a (nxA b i):=by
 obtain ⟨p,h1,h2,h3⟩:=h;have hnx: ∀q,nxA b i q=if q=i then b i+1 else if i<q then 0 else b q:=fun q=>by
  unfold nxA lK zrA;by_cases e:q=i
  ·rw[if_pos e,if_pos e]
  rw[if_neg e,if_neg e];by_cases e2:i<q
  ·rw[if_pos aV,if_pos e2]
  rw[if_neg aV,if_neg e2]
 have hp:p≤i:=by
  rcases b9 i p with h|h
  ·have:=hf p h h1;have:=ha.1 p h1;omega
  exact h
 rcases b9 p i with h|h
 ·exact .inr ⟨p,h1,by rw[hnx,if_neg aV,if_neg aV];exact h2,fun q hq=>by rw[hnx,if_neg aV,if_neg aV];exact h3 q hq⟩
 obtain rfl:p=i:=by omega
 by_cases he: ∀q,p≤q→a q=nxA b p q
 ·left;funext q;rcases b9 q p with h4|h4
  ·rw[hnx,if_neg aV,if_neg aV];exact h3 q h4
  exact he q h4
 right;obtain ⟨q0,h4,h5⟩: ∃q,p≤q∧a q≠nxA b p q:=by
  refine aIp fun hn=>he fun q hq=>aIp fun h=>hn ⟨q,hq,h⟩
 have: ∀N q,q≤N→p≤q→a q≠nxA b p q→ ∃r,p≤r∧a r≠nxA b p r∧ ∀s,p≤s→s<r→a s=nxA b p s:=by
  intro N
  induction N with
  |zero=>intro q h1 h2 h3;exact ⟨q,h2,h3,fun s _ hs=>by omega⟩
  |succ N ih=>
   intro q h1 h2 h3;by_cases hx: ∃s,p≤s∧s<q∧a s≠nxA b p s
   ·obtain ⟨s,k1,k2,k3⟩:=hx;exact ih s aV k1 k3
   exact ⟨q,h2,h3,fun s k1 k2=>aIp fun k3=>hx ⟨s,k1,k2,k3⟩⟩
 obtain ⟨r,k1,k2,k3⟩:=this q0 q0 (bW _) h4 h5;have hrn:r<tr.length:=by
  rcases b9 r tr.length with g|g
  ·exact g
  exact absurd (by rw[ha.2 r g,hnx,if_neg aV,if_pos aV]) k2
 refine ⟨r,hrn,?_,fun s hs=>?_⟩
 ·by_cases e:r=p
  ·subst e;have:nxA b r r=b r+1:=by rw[hnx,if_pos rfl]
   omega
  have:nxA b p r=0:=by rw[hnx,if_neg e,if_pos aV]
  omega
 rcases b9 s p with g|g
 ·rw[hnx,if_neg aV,if_neg aV];exact h3 s g
 exact k3 s g hs
theorem cCl (ho:Ok tr) {b:Pl} {i:Nat} (hi:i<tr.length) (hb:Vp tr b) (h:b i≠(tr.getD i default).xAb.length):Vp tr (nxA b i):=by
 refine ⟨fun q hq=>?_,fun q hq=>?_⟩
 ·unfold nxA lK zrA;split
  ·rename_i e;subst e;have:=hb.1 q hq;omega
  split
  ·omega
  exact hb.1 q hq
 unfold nxA lK zrA;rw[if_neg aV];split
 ·rfl
 exact hb.2 q hq
def NxZ (tr:List bR) (c:Cl) (at_:Pl) (d:Dr) (i:Nat) (a:Pl) (e:Dr):Prop:= ∃k,i≤k∧k<tr.length∧at_ k<(tr.getD k default).xAb.length∧a=lK at_ k (at_ k+1)∧e=plD tr c d at_ k
theorem cFk {a:Pl}:alB tr a=true↔ ∀i,i<tr.length→(tr.getD i default).xAb.length≤a i:=by
 unfold alB;rw[dI];exact ⟨fun h i hi=>dK (h i (by simpa using hi)),fun h i hi=>dF (h i (by simpa using hi))⟩
def aIw (tr:List bR) (l:List Dr) (d:Dr) (a:Pl):List Dr:=if l.any (fun e=>cvB tr e d a) then l else l.filter (fun e=> !cvB tr d e a)++[d]
theorem bSl {l:List Dr} {d e:Dr} {a:Pl} (h:e∈aIw tr l d a):e∈l∨e=d:=by
 unfold aIw at h;split at h
 ·exact .inl h
 rw[iV] at h;rcases h with h|h
 ·exact .inl (aIn.1 h).1
 exact .inr (by simpa using h)
def Ch (tr:List bR) (d:Dr):Prop:= ∀k m,k<tr.length→m<(tr.getD k default).xAb.length→duN tr k m≤d k m∧(0<m→d k (m-1)+ruN tr k (m-1)≤d k m)
theorem bWf:Ch tr (bgD tr):=fun k m hk hm=>by
 unfold bgD;rw[if_pos ⟨hk,hm⟩,if_pos (show k<tr.length∧m-1<(tr.getD k default).xAb.length from ⟨hk,by omega⟩)];cases m with
 |zero=>exact ⟨by simp[bgR],fun h=>absurd h aV⟩
 |succ m=>simp only[bgR,xN];omega
theorem bSj {d:Dr} {a:Pl} {i:Nat} (h:Ch tr d):Ch tr (plD tr c d a i):=fun k m hk hm=>by
 obtain ⟨h1,h2⟩:=h k m hk hm;refine ⟨Int.le_trans h1 cEl,fun h0=>?_⟩;have h2:=h2 h0;rcases b9 (a k) m with q|q
 ·by_cases hki:k=i
  ·subst hki;rw[bGv,bGv];exact h2
  unfold plD;rw[if_pos (show k≠i∧k<tr.length∧m-1<(tr.getD k default).xAb.length from ⟨hki,hk,by omega⟩),if_pos (show k≠i∧k<tr.length∧m<(tr.getD k default).xAb.length from ⟨hki,hk,hm⟩),aVd q];simp only[ruN];split<;>omega
 rw[cPv (show m-1<a k by omega)];exact Int.le_trans h2 cEl
theorem vA.ch {a:Pl} {d:Dr} (h:vA tr c a d):Ch tr d:=by
 induction h with
 |b=>exact bWf
 |s h hi ha ih=>exact bSj ih
end
def z0:Dr:=fun _ _=>0
def gD (l:List Dr) (i:Nat):Dr:=l.getD i z0
theorem aZf {l:List Dr} {i:Nat} (h:i<l.length):(l.map fG).getD i []=fG (gD l i):=by
 unfold gD;rw[cA,dG,cH h,cA (l:=l),cH h];rfl
theorem aCz (u v:Dr):spl 0 (fG v) (fG u)=fG v:=by
 rw[aCk (by rw[rA,rA];omega),List.take_zero,yS,List.drop_of_length_le (by rw[rA,rA];omega),kZ]
theorem aEy (l:List Dr) (i:Nat) (v:Dr):(l.map fG).set i (fG v)=(l.set i v).map fG:=by rw[List.map_set]
theorem aHh {l:List Dr} {i:Nat} (h:i<l.length):gD l i∈l:=by
 unfold gD;rw[cA,cH h];exact xY h
def ixQ (p:Dr→Bool) (l:List Dr):Int:=if l.any p=true then (l.findIdx p:Int) else -1
theorem cQu {p:Dr→Bool} {l:List Dr} {i:Nat} (hi:i<l.length) (h:nX (fun j=> !p (gD l j)) i) (h2:p (gD l i)=true):ixQ p l=(i:Int):=by
 have hm:l.any p=true:=List.any_eq_true.2 ⟨_,aHh hi,h2⟩;unfold ixQ;rw[if_pos hm];congr 1;have e: ∀j (hj:j<l.length),gD l j=l[j]:=fun j hj=>by unfold gD;rw[cA,cH hj];rfl
 rw[List.findIdx_eq hi];refine ⟨by rw[← e i hi];exact h2,fun j hj=>?_⟩;have:=h j hj;simp only at this;rw[e j aV] at this;simpa using this
theorem cDs {p:Dr→Bool} {l:List Dr} (h:nX (fun j=> !p (gD l j)) l.length):ixQ p l= -1:=by
 unfold ixQ;rw[if_neg];intro hm;obtain ⟨x,hx,hp⟩:=List.any_eq_true.1 hm;obtain ⟨j,hj,rfl⟩:=List.getElem_of_mem hx;have:=h j hj;simp only at this;unfold gD at this;rw[cA,cH hj] at this;simp only[iE] at this;rw[hp] at this;cases this
theorem cMi {p:Dr→Bool} {l:List Dr} (h: ¬ixQ p l= -1): ∃i:Nat,i<l.length∧ixQ p l=(i:Int)∧p (gD l i)=true∧(l.take i).filter (fun e=> !p e)=l.take i:=by
 have hm:l.any p=true:=by
  cases hc:l.any p with
  |true=>rfl
  |false=>unfold ixQ at h;rw[hc] at h;simp at h
 have hlt:l.findIdx p<l.length:=List.findIdx_lt_length.2 (List.any_eq_true.1 hm);refine ⟨l.findIdx p,hlt,by unfold ixQ;rw[if_pos hm],?_,?_⟩
 ·unfold gD;rw[cA,cH hlt];exact List.findIdx_getElem
 rw[List.filter_eq_self];intro a ha;obtain ⟨j,hj,rfl⟩:=List.getElem_of_mem ha;rw[iO] at hj;rw[List.getElem_take];have:=List.not_of_lt_findIdx (p:=p) (xs:=l) (i:=j) aV;simpa using this
theorem bVv {p:Dr→Bool} {l:List Dr} (h:ixQ p l= -1):l.filter (fun e=> !p e)=l:=by
 rw[List.filter_eq_self];intro a ha;cases hc:p a with
 |false=>rfl
 |true=>
  have hm:l.any p=true:=List.any_eq_true.2 ⟨a,ha,hc⟩;unfold ixQ at h;rw[if_pos hm] at h;omega
theorem bUs {l:List Dr} {j:Nat} (h:j<l.length):l.take (j+1)=l.take j++[gD l j]:=by
 unfold gD;rw[List.take_add_one,cH h,cA,cH h];rfl
theorem bXp {l m:List Dr} {j:Nat} (h:m.drop j=l.drop j):gD m j=gD l j:=by
 have:=congrArg (fun x:List Dr=>x.getD 0 z0) h;simp only[cA,sC,iD] at this;unfold gD;rw[cA,cA];exact this
theorem bVc {l m:List Dr} {j:Nat} (h:m.drop j=l.drop j):m.drop (j+1)=l.drop (j+1):=by
 have:=congrArg (List.drop 1) h
 rwa [xW,xW] at this
theorem cRh {p:Dr→Bool} {l m:List Dr} {i j:Nat} (hj:j<l.length) (h:m.take i=(l.take j).filter fun e=> !p e) (hp:p (gD l j)=true):m.take i=(l.take (j+1)).filter fun e=> !p e:=by
 rw[h,bUs hj,yN];simp[hp]
theorem cSs {p:Dr→Bool} {l m:List Dr} {i j:Nat} (hj:j<l.length) (hi:i<m.length) (h:m.take i=(l.take j).filter fun e=> !p e) (hp:p (gD l j)=false):(m.set i (gD l j)).take (i+1)=(l.take (j+1)).filter fun e=> !p e:=by
 rw[bUs hj,yN,← h,List.take_add_one,List.take_set_of_le (bW i),List.getElem?_set_self hi];simp[hp]
theorem cHw (ys:List Dr) (i n:Nat):(ys.map fG).take i++List.replicate (n-i) ((List.replicate 16 (Value.int .i64 0)).map DV.v)=((ys.take i)++List.replicate (n-i) z0).map fG:=by
 rw[eM,List.map_take,List.map_replicate (f:=fG)];rfl
theorem bDw {P:Program} {ρ:aN} {fn:Func} {O O':aN} {r:DV} {R:aN→DV→Prop} {e:Exit} (he:e=.ret∨e=.normal) (t:Nat) (hf:fn.results= #[.tmp t]) (h1:hi ρ=bS O') (h2: ∀s,fR (O s) (O' s)) (h3: ∀s,cX (O s)→cX (O' s)) (hr:dX ρ t r) (hR:R O' r):rZ P fn O R e ρ:=by
 have: ∃O' r,(∀s,ρ (s+100000)=sh (O' s))∧(∀s,fR (O s) (O' s))∧(∀s,cX (O s)→cX (O' s))∧qI P ρ fn.results.toList r∧R O' r:=
  ⟨O',r,fun s=>iK h1 s,h2,h3,by rw[hf];exact hr,hR⟩
 rcases he with rfl|rfl<;>exact this
theorem bUf (O:aN) (s:Nat) {l m:List Dr} (h:m.length=l.length) (q:Nat):fR (set O s (.row 191 16 (l.map fG)) q) (set O s (.row 191 16 (m.map fG)) q):=by
 simp only[aK];split
 ·exact ⟨rfl,rfl,by simp[h]⟩
 exact fR.refl _
theorem bDv (O:aN) (s:Nat) (l m:List Dr) (q:Nat) (h:cX (set O s (.row 191 16 (l.map fG)) q)):cX (set O s (.row 191 16 (m.map fG)) q):=by
 simp only[aK] at*;split
 ·rfl
 rename_i e;rw[if_neg e] at h;exact h
theorem cMt {P:Program} {fn:Func} {O:aN} {e:TypeId} {z:Nat} {R:List (List DV)→Prop} {ex:Exit} {ρ:aN} (he:ex=.ret∨ex=.normal) (t:Nat) (ys:List (List DV)) (h1:fn.results= #[.tmp t]) (h2:(decide (t<fn.ntmps))=true) (h0:hi ρ=bS O)
  (h:ρ t=.row e z ys∨ ∃s n xs,ρ t=.own s n∧s<100000∧ρ s=.row e z xs∧n≤xs.length∧ys=xs.take n) (hR:R ys):cEb P fn O e z R ex ρ:=by
 have:hi ρ=bS O∧ ∃t ys,fn.results.toList=[.tmp t]∧t<fn.ntmps∧(ρ t=.row e z ys∨ ∃s n xs,ρ t=.own s n∧s<100000∧ρ s=.row e z xs∧n≤xs.length∧ys=xs.take n)∧R ys:=
  ⟨h0,t,ys,by rw[h1],dK h2,h,hR⟩
 rcases he with rfl|rfl<;>exact this
theorem cGt {p:Dr→Bool} {l:List Dr} (h:nX (fun j=> !p (gD l j)) l.length):l.any p=false:=by
 cases hc:l.any p with
 |false=>rfl
 |true=>
  have:=cDs h;unfold ixQ at this;rw[if_pos hc] at this;omega
section
attribute [local go_sem] aZf aCz aEy cJ
theorem oC (O:aN) (tr:List bR) (c:Cl) (d e:Dr) (a:Pl) (ho:Ok tr) (hd:Bd d) (he:Bd e) (ha:Pk tr a):aZ Tryz.prog O 141 [.agg (fG e),.dp [gY tr c],.dp (fG d),.dp (mT a)] (vb (cvB tr d e a)):=by
 refine eV Tryz.func141 ?_;refine aB [0,1,2,3] ?_;refine aA fun _ Z1=>bN [1,2,3,4] ?_;refine f9 (nR _ tr c d e a ho hd he ha) ?_;refine Z1 _ (aL (dN 5 ?_));exact xd
end
section
attribute [local go_sem] aZf aCz aEy cJ
theorem tZ (O:aN) (tr:List bR) (c:Cl) (d:Dr) (a:Pl) (ho:Ok tr) (hd:Bd d) (ha:Pk tr a) (l:List Dr) (hB: ∀e∈l,Bd e) (hlen:l.length≤1000000000000) (s:Nat) (hO:O s=.row 191 16 (l.map fG)):aZ Tryz.prog O 186 [.own s l.length,.fn 141 [] [.dp [gY tr c],.dp (fG d),.dp (mT a)]] (vi (ixQ (fun e=>cvB tr d e a) l)):=by
 have hsx:bS O (s+100000)=.row 191 16 (l.map fG):=by rw[cI,hO];rfl
 refine eV Tryz.func186 ?_;refine bB [0,1] ?_;refine aA fun _ Z1=>bB [0,1] ?_;refine aI (aX [0,1,7,8] (fun n ρ=> ∃i,n=l.length-i∧(i≤l.length)∧(nX (fun j=> !(fun e=>cvB tr d e a) (gD l j)) i)∧ρ=dU O [(0,.own (s+100000) l.length),(1,.fn 141 [] [.dp [gY tr c],.dp (fG d),.dp (mT a)]),(7,vi (l.length:Nat)),(8,vi (i:Nat))]) _ ⟨0,rfl,?_,?_,?_⟩ ?_)
 ·exact bD
 ·exact lP _
 ·exact eX
 rintro n ρ ⟨i,rfl,l0_0,l0_1,rfl⟩ _ Z3;refine bB [0,1,7,8] ?_;refine aA fun _ Z5=>aO (fun c0=>?_) fun c0=>?_
 ·refine aD (Z5 _ (aA fun _ Z6=>aI (bB [0,1,7,8] ?_)));refine aA fun _ Z8=>eZ [0,1,5,7,8] ?_;refine pV (oC _ tr c d (gD l i) a ho hd (hB _ (aHh c0)) ha) ?_;refine Z8 _ (aO (fun c1=>?_) fun c1=>?_)
  ·refine bB [5] ?_;refine aL (mA 4 ?_);exact dX.is (by simp (disch:=omega) only[go_sem,seval,hsx]<;>(rw[cQu c0 l0_1 c1])) rfl rfl
  refine aD (Z6 _ (cN [0,1,7,8] ?_));refine Z3 _ _ bD ⟨i+1,rfl,bD,?_,?_⟩
  ·exact kE l0_1 (by simp[c1])
  exact eX
 refine bA (Z1 _ (bB [] ?_));refine aL (mA 4 ?_);exact dX.is (by simp (disch:=omega) only[go_sem,seval,hsx]<;>(rw[cDs (by rw[show l.length=i by omega];exact l0_1)])) rfl rfl
end
def roD (tr:List bR) (d:Dr) (i:Nat):List Int:=(List.range (tr.getD i default).xAb.length).map (d i)
def scD (tr:List bR) (d:Dr):y9:={xBr:=(List.range tr.length).map (roD tr d),xCq:=coD tr d (enA tr)}
theorem bBi (tr:List bR) (d:Dr) (i:Nat):(roD tr d i).length=(tr.getD i default).xAb.length:=by simp[roD]
def scP (tr:List bR) (d:Dr) (i:Nat):List (List DV):=(List.range tr.length).map fun k=>if k<i then [d5 (roD tr d k)] else [.v (.slice none 0 0)]
theorem bEt (tr:List bR) (d:Dr) (i:Nat):(scP tr d i).length=tr.length:=by simp[scP]
theorem cRg (tr:List bR) (d:Dr):List.replicate tr.length [DV.v (.slice none 0 0)]=scP tr d 0:=by
 unfold scP;simp[List.map_const']
theorem scZ (tr:List bR) (d:Dr):scP tr d 0=List.replicate tr.length [DV.v (.slice none 0 0)]:=(cRg tr d).symm
theorem cNn (tr:List bR) (d:Dr) (i:Nat) (hi:i<tr.length):(scP tr d i).set i [d5 (roD tr d i)]=scP tr d (i+1):=by
 refine uI _ _ tr.length _ hi _ ?_ fun k hk hne=>?_
 ·simp
 by_cases h:k<i
 ·rw[if_pos aV,if_pos h]
 rw[if_neg aV,if_neg h]
theorem scS {tr:List bR} (d:Dr) {i:Nat} (hi:i<tr.length):(scP tr d i).set i (((scP tr d i).getD i []).set 0 (d5 (roD tr d i)))=scP tr d (i+1):=by
 have:(scP tr d i).getD i []=[.v (.slice none 0 0)]:=by
  unfold scP;rw[cA,dG,p9 hi];simp
 rw[this];exact cNn tr d i hi
theorem scC (tr:List bR) (d:Dr):(scD tr d).xCq=coD tr d (enA tr):=rfl
theorem cPr (tr:List bR) (d:Dr) (i:Nat) (hi:tr.length≤i):scP tr d i=(scD tr d).xBr.map eLI:=by
 unfold scP scD;simp only[List.map_map];refine zP fun k hk=>?_;rw[if_pos (by have:=gU.1 hk;omega)];rfl
theorem cHx {tr:List bR} {d:Dr} {i:Nat} (h4:(tr.getD i default).xAb.length≤4) (hi:i<4):eK (.sl 1 (tr.getD i default).xAb.length fun k=>(List.drop k (List.drop (i*4) (fG d))).take 1) (d5 (roD tr d i)):=by
 have:d5 (roD tr d i)=.sl 1 (tr.getD i default).xAb.length fun k=>[vi ((roD tr d i).getD k default)]:=by
  rw[← bBi tr d i];rfl
 rw[this];refine eK.sl _ _ fun k hk=>?_;rw[xW];have h1:(fG d).getD (i*4+k) .any=vi (d i k):=bGn d hi aV;have h2:i*4+k<(fG d).length:=by rw[rA];omega
 rw[aMf h2];simp only[aHc,List.take_zero,List.cons.injEq,jC];rw[cA,cH aV] at h1;simp only[iE] at h1;rw[h1];unfold roD;rw[cA,dG,p9 hk];rfl
section
attribute [local go_sem] bEt scZ scC Nat.reduceBNe zG Bool.and_true
set_option maxRecDepth 20000 in
theorem rV (O:aN) (tr:List bR) (c:Cl) (d:Dr) (ho:Ok tr) (hd:Bd d):aZ Tryz.prog O 91 [gY tr c,.agg (fG d)] (.agg (mP (scD tr d))):=by
 have hn:=ho.n;refine eV Tryz.func91 ?_;refine aB [0,1] ?_;refine aA fun _ Z1=>mC 3 rfl rfl (aXz _ d) ?_;refine aBi 14 [0,3,4] [0,3,4,8,9,10,11,12,13,14,15,16,17,18,19,5] [5] [] [[],[0],[0,1],[0,1,2],[0,1,2,3],[0,1,2,3,4],[],[],[],[8],[6,7,8,9],[0,1,2,3,4,5,6,7,8,9,10],[],[0,1,2,3,4,5,6,7,8,9,10,11,12]] [[11,13],[11,13],[11,13],[11,13],[11,13],[11,13],[11,13],[11,13],[11,13],[11,13],[11,13],[13],[13],[]] (fun bQ=>dU O [(0,gY tr c),(3,.dp (fG d)),(4,.bx [.v (.slice none 0 0),vi 0]),(8,bC (bQ 0) (gY tr c)),(9,bC (bQ 1) (gY tr c)),(10,bC (bQ 2) (gY tr c)),(11,bC (bQ 3) (cL tr)),(12,bC (bQ 4) (vi (tr.length:Nat))),(13,bC (bQ 5) (.row 35 1 (scP tr d 0))),(14,bC (bQ 6) (gY tr c)),(15,bC (bQ 7) (.agg (fG d))),(16,bC (bQ 8) (gY tr c)),(17,bC (bQ 9) (.agg (mT (enA tr)))),(18,bC (bQ 10) (vi (coD tr d (enA tr)))),(19,bC (bQ 11) (.agg [.own 13 tr.length,vi (coD tr d (enA tr))])),(5,rP (bQ 13) (bQ 12) (.bx [.own 13 tr.length,vi (coD tr d (enA tr))]) (.bx [.v (.slice none 0 0),vi 0]))]) (fun iQ hiQ oQ hoQ bQ hbQ KQ hKQ=>?_) ?_
 ·match iQ,hiQ with
  |0,_|1,_|2,_|3,_|4,_|6,_|7,_|8,_|11,_|12,_|13,_=>
   exact mkp hoQ hbQ hKQ
  |5,_=>
   exact mkp hoQ hbQ hKQ
  |9,_=>
   exact mkc hoQ hbQ hKQ (oN _ tr c ho)
  |10,_=>
   exact mkc hoQ hbQ hKQ (lF _ tr c d (enA tr) ho hd (bMj tr))
 refine lL ?_;refine Z1 _ (aA fun _ Z2=>aB [0,3,4,5,13] ?_);refine aI (aX [0,4,3,5,13,23,24,25] (fun n ρ=> ∃i,n=tr.length-i∧(i≤tr.length)∧ρ=dU O [(0,gY tr c),(4,.bx [.v (.slice none 0 0),vi 0]),(3,.dp (fG d)),(5,.bx [.own 13 tr.length,vi (coD tr d (enA tr))]),(13,.row 35 1 (scP tr d i)),(23,cL tr),(24,vi (tr.length:Nat)),(25,vi (i:Nat))]) _ ⟨0,rfl,?_,?_⟩ ?_)
 ·exact bD
 ·exact dT
 rintro n ρ ⟨i,rfl,l0_0,rfl⟩ _ Z4;refine aB [0,3,4,5,13,23,24,25] ?_;refine aA fun _ Z6=>aO (fun c0=>?_) fun c0=>?_
 ·refine aD (Z6 _ (aA fun _ Z7=>aI (aB [0,3,4,5,13,23,24,25] ?_)));have hli:=ho.l i aV;have hdl:4≤(List.drop (i*4) (fG d)).length:=by rw[aMa,rA];omega
  refine gJ [0,3,4,5,6,7,13,23,24,25] [] ?_;refine cdz (bHy (cHx aV aV) (dA (sD _ (roD tr d i) (by rw[bBi];omega)))) ?_;refine Z7 _ (bE [0,3,4,5,13,23,24,25] ?_);refine Z4 _ _ bD ⟨i+1,rfl,bD,?_⟩;simp (disch:=omega) only[go_sem,seval]<;>(have hS:=scS d c0;simp only[encL] at hS;rw[hS];rfl)
 refine bA (Z2 _ (aA fun _ Z9=>?_));refine bXw 13 5 0 rfl rfl rfl (by rw[bEt];rfl) ?_;refine pN 5 rfl rfl (rQ.cons (by rw[cPr tr d i aV];exact eK.frzL eLI _) (rQ.cons (eK.refl _) .nil)) ?_;refine bE [4,5,13] ?_;refine Z9 _ (aL ?_);refine aAc 4 56 rfl sz (by simp (disch:=omega) only[go_sem,seval]<;>(exact bD)) sz sz
end
theorem qN (O:aN) (s:Nat) (X:DV):bS (set O s X)=set (bS O) (s+100000) (sh X):=by
 funext i;rw[aK];by_cases h:i<100000
 ·rw[nG _ h,nG _ h,if_neg aV]
 obtain ⟨k,rfl⟩: ∃k,i=k+100000:=⟨i-100000,by omega⟩;rw[cI,cI,aK];by_cases h2:k=s
 ·rw[if_pos h2,if_pos aV]
 rw[if_neg h2,if_neg aV]
theorem aKb (ρ:aN) (d:Nat) (x y:DV):set (set ρ d x) d y=set ρ d y:=by
 funext i;simp only[aK];split<;>rfl
theorem kA {P:Program} {ρ:aN} {f:FuncId} {l:List DV} {k:aN→DV→Prop} {t:Tg k} {R:aN→DV→Prop} (h:iC P ρ f l R) (hk: ∀O' r,R O' r→k O' r):aHw P ρ f l k t:=⟨R,h,hk⟩
def kO (b:Nat) (O:aN) (rl:List Int) (k:Nat) (best:Dr):aN:=set (set (set O (b+90000) (.row 3 1 (rl.map eI))) (b+5) (.bx [.own (b+90000) k])) (b+3) (.bx (fG best))
theorem cUp (b:Nat) (O:aN) (rl:List Int) (k:Nat) (best:Dr):kO b O rl k best (b+5)=.bx [.own (b+90000) k]:=by
 unfold kO;rw[aK,if_neg aV,aK,if_pos rfl]
theorem cTw (b:Nat) (O:aN) (rl:List Int) (k:Nat) (best:Dr):kO b O rl k best (b+3)=.bx (fG best):=by
 unfold kO;rw[aK,if_pos rfl]
theorem cTo (b:Nat) (O:aN) (rl:List Int) (k:Nat) (best:Dr):kO b O rl k best (b+90000)=.row 3 1 (rl.map eI):=by
 unfold kO;rw[aK,if_neg aV,aK,if_neg aV,aK,if_pos rfl]
theorem cSw (b:Nat) (O:aN) (rl:List Int) (k:Nat) (best:Dr):kO b O rl k best (b+6)=O (b+6):=by
 unfold kO;rw[aK,if_neg aV,aK,if_neg aV,aK,if_neg aV]
theorem cPd (b:Nat) (O:aN) (rl:List Int) (k k':Nat) (best:Dr):set (kO b O rl k best) (b+5) (.bx [.own (b+90000) k'])=kO b O rl k' best:=by
 funext s;unfold kO;simp only[aK];split<;>split<;>first|rfl|(exfalso;omega)|(split<;>first|rfl|(exfalso;omega))
theorem cNf (b:Nat) (O:aN) (rl:List Int) (k:Nat) (best best':Dr):set (kO b O rl k best) (b+3) (.bx (fG best'))=kO b O rl k best':=by
 funext s;unfold kO;simp only[aK];split<;>rfl
theorem cLz (b:Nat) (O:aN) (rl rl':List Int) (k:Nat) (best:Dr):set (kO b O rl k best) (b+90000) (.row 3 1 (rl'.map eI))=kO b O rl' k best:=by
 funext s;unfold kO;simp only[aK];split<;>split<;>first|rfl|(exfalso;omega)|(split<;>first|rfl|(exfalso;omega))
theorem bMf (b:Nat) (O:aN) (rl rl':List Int) (k k':Nat) (best best':Dr):kO b (kO b O rl k best) rl' k' best'=kO b O rl' k' best':=by
 funext s;unfold kO;simp only[aK];split<;>first|rfl|(split<;>first|rfl|(split<;>rfl))
theorem cNy {b:Nat} {O:aN} {rl:List Int} {k:Nat} {best:Dr} (h5:O (b+5)=.bx [.own (b+90000) k]) (h3:O (b+3)=.bx (fG best)) (h9:O (b+90000)=.row 3 1 (rl.map eI)):O=kO b O rl k best:=by
 funext s;unfold kO;simp only[aK];split
 ·rename_i e;rw[e,h3]
 split
 ·rename_i e;rw[e,h5]
 split
 ·rename_i e;rw[e,h9]
 rfl
theorem bSe (b:Nat) (O:aN) {rl rl':List Int} (k k':Nat) (best best':Dr) (hl:rl.length=rl'.length) (s:Nat):fR (kO b O rl k best s) (kO b O rl' k' best' s):=by
 unfold kO;simp only[aK];split
 ·show (fG best).length=(fG best').length;rw[rA,rA]
 split
 ·rfl
 split
 ·exact ⟨rfl,rfl,by simp[hl]⟩
 exact fR.refl _
theorem bCy (b:Nat) (O:aN) {rl rl':List Int} (k k':Nat) (best best':Dr) (s:Nat) (h:cX (kO b O rl k best s)):cX (kO b O rl' k' best' s):=by
 unfold kO at*;simp only[aK] at*;split at h
 ·rename_i e;rw[if_pos e];exact aXz _ _
 rename_i e;rw[if_neg e];split at h
 ·rename_i e;rw[if_pos e];exact h
 rename_i e;rw[if_neg e];split at h
 ·rename_i e;rw[if_pos e];exact h
 rename_i e;rw[if_neg e];exact h
theorem aZx {P:Program} {ρ O O':aN} {fn:Func} {R:aN→DV→Prop} {e:Exit} (he:e=.ret∨e=.normal) (hf:fn.results= #[]) (h1:hi ρ=bS O') (h2: ∀s,fR (O s) (O' s)) (h3: ∀s,cX (O s)→cX (O' s)) (hR:R O' (.tup [])):rZ P fn O R e ρ:=by
 have: ∃O' r,(∀s,ρ (s+100000)=sh (O' s))∧(∀s,fR (O s) (O' s))∧(∀s,cX (O s)→cX (O' s))∧qI P ρ fn.results.toList r∧R O' r:=
  ⟨O',.tup [],fun s=>iK h1 s,h2,h3,by rw[hf];exact ⟨[],rfl,rfl,fun j v d hv=>by simp at hv⟩,hR⟩
 rcases he with rfl|rfl<;>exact this
theorem aOd (ρ:aN) {i K:Nat} (v w:DV) (h1:i<100000) (h2:100000≤K):set (set ρ i v) K w=set (set ρ K w) i v:=by
 funext s;simp only[aK];split<;>split<;>first|rfl|(exfalso;omega)
theorem aCl (a:Pl) (i v:Nat):lK a i v i=v:=by simp[lK]
theorem aLn (a:Pl) (i v w:Nat):lK (lK a i v) i w=lK a i w:=by funext x;simp only[lK];split<;>rfl
theorem bTr {a:Pl} {i v:Nat} (h:a i=v):lK a i v=a:=by
 funext x;by_cases e:x=i
 ·subst e;simp[lK,h]
 simp[lK,e]
def aHa (tr:List bR) (l:List Int):Pl:=fun q=>if q<tr.length∧l.contains (q:Int)=true then (tr.getD q default).xAb.length else 0
structure Odr (tr:List bR) (l:List Int):Prop where
 nd:l.Nodup
 rg: ∀x∈l,0≤x∧x<tr.length
theorem bTm: ∀(m:Nat) (l:List Int),l.Nodup→(∀x∈l,0≤x∧x<m)→l.length≤m
 |0,l,_,h=>by
  cases l with
  |nil=>simp
  |cons x l=>have:=h x dH;omega
 |m+1,l,hn,h=>by
  by_cases hm:(m:Int)∈l
  ·have:=bTm m (l.erase m) (hn.erase _) fun x hx=>by
    have h1:=(hn.mem_erase_iff).1 hx;have:=h x h1.2;have:=h1.1;omega
   rw[List.length_erase_of_mem hm] at this;omega
  have:=bTm m l hn fun x hx=>by
   have:=h x hx;have:x≠m:=fun e=>hm (e▸hx);omega
  omega
theorem bFw: ∀(m:Nat) (l:List Int),l.Nodup→(∀x∈l,0≤x∧x<m)→l.length=m→ ∀q:Nat,q<m→(q:Int)∈l
 |0,l,_,h,_=>fun q hq=>by omega
 |m+1,l,hn,h,hl=>by
  by_cases hm:(m:Int)∈l
  ·intro q hq;by_cases e:q=m
   ·subst e;exact hm
   have:=bFw m (l.erase m) (hn.erase _) (fun x hx=>by
    have h1:=(hn.mem_erase_iff).1 hx;have:=h x h1.2;have:=h1.1;omega) (by rw[List.length_erase_of_mem hm];omega) q aV
   exact List.mem_of_mem_erase this
  have:=bTm m l hn fun x hx=>by
   have:=h x hx;have:x≠m:=fun e=>hm (e▸hx);omega
  omega
theorem bPt {tr:List bR} {c:Cl} (ho:Ok tr) {l:List Int} {d:Dr} (h:Odr tr l) (hl:l.length=tr.length) (hr:vA tr c (aHa tr l) d):nD tr c d:=
 hr.full ho fun k hk=>by
  unfold aHa;rw[if_pos ⟨hk,by simpa using bFw _ _ h.nd h.rg hl k hk⟩]
theorem bZm {tr:List bR} {l:List Int} {i:Nat} (h:l.contains (i:Int)=false):aHa tr l i=0:=by
 unfold aHa;rw[if_neg (by rw[h];simp)]
theorem cAg {tr:List bR} {l:List Int} {i:Nat} (hi:i<tr.length):lK (aHa tr l) i (tr.getD i default).xAb.length=aHa tr (l++[(i:Int)]):=by
 funext q;unfold lK aHa;by_cases e:q=i
 ·subst e;rw[if_pos rfl,if_pos ⟨hi,by simp⟩]
 rw[if_neg e];have:(l++[(i:Int)]).contains (q:Int)=l.contains (q:Int):=by
  rw[List.contains_eq_mem,List.contains_eq_mem];simp only[iV,lH,decide_eq_decide];exact ⟨fun h=>h.resolve_right aV,.inl⟩
 rw[this]
theorem Odr.add {tr:List bR} {l:List Int} {i:Nat} (h:Odr tr l) (hi:i<tr.length) (hn:l.contains (i:Int)=false):Odr tr (l++[(i:Int)]):=by
 have hn':(i:Int)∉l:=by simpa using hn
 refine ⟨?_,fun x hx=>?_⟩
 ·rw[nO];exact ⟨h.nd,by simp,fun a ha b hb=>by simp at hb;subst hb;exact fun e=>hn' (e▸ha)⟩
 rw[iV] at hx;rcases hx with hx|hx
 ·exact h.rg x hx
 simp at hx;subst hx;omega
theorem bPc {rl:List Int} {k:Nat} (h:k<rl.length) (x:Int):(rl.set k x).take (k+1)=rl.take k++[x]:=by
 rw[List.take_add_one,List.take_set_of_le (bW k),List.getElem?_set_self h];rfl
theorem bLg {l m:List Int} {k:Nat} (h:l.take (k+1)=m.take (k+1)):l.take k=m.take k:=by
 have:=congrArg (List.take k) h
 rwa [List.take_take,List.take_take,qP aV] at this
theorem bVb (rl:List Int) (k:Nat) (x:Int):(rl.map eI).set k [vi x]=(rl.set k x).map eI:=by rw[List.map_set]
end Go.Sg
