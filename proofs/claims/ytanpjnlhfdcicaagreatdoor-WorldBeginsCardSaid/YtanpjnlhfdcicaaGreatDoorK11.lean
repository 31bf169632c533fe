/- Several texts as one. -/
import Derived.Test.YtanpjnlhfdcicaaGreatDoorK10
set_option linter.unusedSectionVars false
set_option linter.unusedVariables false
set_option linter.unusedSimpArgs false
set_option maxRecDepth 20000
set_option maxHeartbeats 16000000
namespace Go.Sg
open Go.Proofs
section
variable {t:dC} {tr:List bR} {st:List (List Int)} {d best:Dr}
theorem cIm (tr:List bR) (d:Dr):(scD tr d).xBr.length=tr.length:=by simp[scD]
theorem bMm {i:Nat} (hi:i<tr.length):(scD tr d).xBr.getD i default=roD tr d i:=by
 unfold scD;rw[cA,dG,p9 hi];rfl
theorem cOy {i j:Nat} (hj:j<(tr.getD i default).xAb.length):(roD tr d i).getD j default=d i j:=by
 unfold roD;rw[cA,dG,p9 hj];rfl
theorem cPu {i j:Nat} (hi:i<tr.length) (hj:j<(tr.getD i default).xAb.length):stD (scD tr d).xBr i j=d i j:=by
 unfold stD;rw[bMm hi,cOy hj]
theorem cFm (ho:Ok tr) {c:Cl} (h:nD tr c best) (i j:Nat):0≤best i j∧best i j≤1073809824:=by
 have h1:=vA.bn ho h i j;have h2:=vA.sum ho h;omega
theorem bZb (hc:lV t tr=0) (h:nD tr (csF t tr) best):bQe tr (scD tr best).xBr:=by
 have ho:=aOj hc;refine⟨cIm tr best,fun i hi=>by rw[bMm hi,bBi],fun i j hi hj=>?_⟩;rw[cPu hi hj];have:=cFm ho h i j;exact⟨((vA.ch h) i j hi hj).1,by omega⟩
end
theorem cCy {t:dC} (h:aHe t=true):SmT t:=fun r hr=>by
 unfold aHe at h;rw[cD] at h;have:=dI.1 h.2 r hr;unfold fwR at this;have:=dK this;exact⟨by omega,by omega,by omega,by omega,by omega⟩
abbrev rgV (h:Hd) (B:List bR):Rg:=.row h 98 2 (B.map kQ)
def aTq (tr:List bR):DV:=.sl 1 tr.length fun _=>[vi 0]
def cUt (O:aN) (k:Nat) (w:cE) (us:List iR) (tr:List bR) (O':aN) (r:DV):Prop:=
 (lV w.xAz tr≠0∧O'=O∧r=vi (lV w.xAz tr))∨(lV w.xAz tr=0∧ ∃best,nD tr (csF w.xAz tr) best∧O'=set O k (.bx (wY (wPl w (scD tr best)) (m4 us) (cL tr) (kW w.xAi) (aTq tr)))∧r=vi 0)
section
attribute [local go_sem] kD nS oX gR fI cJ Nat.mul_one iD gH iP ite_self wY wLy wTb wIn wMc wCe wPl aIx tO tK kW
section
attribute [local go_sem] aTq
set_option maxRecDepth 20000 in
theorem yA (O:aN) (w:cE) (us:List iR) (tr:List bR) (hf:aHe w.xAz=true) (k:Nat) (hk:O k=.bx (wY w (m4 us) (.v (.slice none 0 0)) (kW w.xAi) (.v (.slice none 0 0)))):iC Tryz.prog O 21 [.bp k 0,cL tr] (cUt O k w us tr):=by
 obtain⟨O1,rfl⟩: ∃O1,O=(set O1 k (.bx (wY w (m4 us) (.v (.slice none 0 0)) (kW w.xAi) (.v (.slice none 0 0))))):=⟨O,by funext j;rw[aK];split<;>simp_all⟩;have hsm:=cCy hf;refine iT Tryz.func21 rfl bF fun w0 I0 A0=>?_;have hF:=pS w0 I0 (cG A0) (GOf []);refine bI hF [0,1] ?_;refine aW fun _ Z1=>aW fun _ Z2=>gI hF [0,1] ?_;refine f9 (oY _ w.xAz tr) ?_;refine Z2 _ _ (bI hF [0,1,5] ?_);refine cQ (fun c0=>?_) fun c0=>?_
 ·have her:lV w.xAz tr≠0:=(by simpa using c0);refine bI hF [5] ?_;refine dV ?_
  (try simp only[fQ,d8]);exact aCs 4 rfl sx su rfl rfl (.inl ⟨her,rfl,rfl⟩)
 have hc0:lV w.xAz tr=0:=(by simpa using c0);have ho:=aOj hc0;have hn4:=ho.n;refine bU (Z1 _ _ (aW fun _ Z5=>gI hF [0,1] ?_));refine kA (aDm _ w.xAz tr hsm) ?_;rintro O2 r2 ⟨rfl,hS⟩;obtain⟨_,best,hfull,hmin,rfl⟩:=hS.resolve_left (fun h=>h.1 hc0);refine lL ?_;refine Z5 _ _ (aW fun _ Z6=>bI hF [0,1,6,7] ?_);refine cQ (fun c1=>?_) fun c1=>?_
 ·exact absurd c1 dH
 refine bU (Z6 _ _ (aW fun _ Z8=>bI hF [0,1,6] ?_));refine bZ (kF [] [] 98 2 rfl ?_);refine eY [0,1,6,33,34,35] (fun n sF ρ=> ∃i,∃aP,n=tr.length-i∧sF=[rgV aP (tr.take i)]∧(i≤tr.length)∧ρ=dU (set O1 k (.bx (wY w (m4 us) (aP.sl (tr.take i).length) (kW w.xAi) (.v (.slice none 0 0))))) [(0,.bp (k+100000) 0),(1,cL tr),(6,.bx (mP (scD tr best))),(33,cL tr),(34,vi (tr.length:Nat)),(35,vi (i:Nat))]) _ ⟨0,mJ,rfl,rfl,?_,?_⟩ ?_
 ·exact bD
 ·exact dT
 rintro n sF ρ ⟨i,aP,rfl,rfl,l0_0,rfl⟩ _ Z10;have htl:=aBu i tr;refine bI hF [0,1,6,33,34,35] ?_;refine aW fun _ Z12=>cQ (fun c2=>?_) fun c2=>?_
 ·refine bU (Z12 _ _ (aW fun _ Z13=>bZ (bI hF [0,1,6,33,34,35] ?_)));refine aW fun _ Z15=>gI hF [0,1,6,9,33,34,35] ?_;refine f9 (dA (aAq _ (tr.getD i default).xAb (by have:=ho.l i (by assumption);omega))) ?_;refine Z15 _ _ (cC (Le.keepC [0,1,6,9,33,34,35] _) ?_);refine aLe [0,1,6,9,33,34,35,43,44,45,46,47,49,50,51,52,53,54,48] [[],[],[1],[1,2],[1,2,3],[1,2,3,4],[],[6],[1,2,3,4,5,6,7],[0,1,2,3,4,5,6,7,8],[0,1,2,3,4,5,6,7,8,9],[0,1,2,3,4,5,6,7,8,9,10],[0,1,2,3,4,5,6,7,8,9,10,11]] [[12],[5,8,12],[5,8,12],[5,8,12],[5,8,12],[8,12],[8,12],[8,12],[12],[12],[12],[12],[]] (fun (hx:Hd) bQ=>dU (cond (bQ 12) (set O1 k (.bx (wY w (m4 us) (hx.sl (tr.take (i+1)).length) (kW w.xAi) (.v (.slice none 0 0))))) (set O1 k (.bx (wY w (m4 us) (aP.sl (tr.take i).length) (kW w.xAi) (.v (.slice none 0 0)))))) [(0,.bp (k+100000) 0),(1,cL tr),(6,.bx (mP (scD tr best))),(9,.bx (kQ (tr.getD i default))),(33,cL tr),(34,vi (tr.length:Nat)),(35,vi (i:Nat)),(43,bC (bQ 0) (.bp (k+100000) 0)),(44,bC (bQ 1) (.bp (k+100000) 0)),(45,bC (bQ 2) (.bp (k+100000) 0)),(46,bC (bQ 3) (.bp (k+100000) 0)),(47,bC (bQ 4) (.bp (k+100000) 24)),(49,bC (bQ 6) (.agg (kQ (tr.getD i default)))),(50,bC (bQ 7) (.sl 2 1 (fun i_=>[kQ (tr.getD i default)].getD i_ []))),(51,bC (bQ 8) (hx.sl (tr.take (i+1)).length)),(52,bC (bQ 9) (.bp (k+100000) 0)),(53,bC (bQ 10) (.bp (k+100000) 0)),(54,bC (bQ 11) (.bp (k+100000) 24)),(48,(cond (bQ 8) (.any) (cond (bQ 5) (aP.sl (tr.take i).length) (.any))))]) (fun (hx:Hd) bQ=>(cond (bQ 8) [rgV hx (tr.take (i+1))] [rgV aP (tr.take i)])) ⟨none,none,0⟩ hF kR bF ?_ ?_ (fun iQ oQ hoQ hx bQ hbQ KQ hKQ=>?_) (fun hx=>?_)
  ·exact sf
  ·exact eqs
  ·have hiQ:iQ<13:=(oJ.1 hoQ).1;rcases (by omega:iQ=0∨iQ=1∨iQ=2∨iQ=3∨iQ=4∨iQ=5∨iQ=6∨iQ=7∨iQ=8∨iQ=9∨iQ=10∨iQ=11∨iQ=12) with rfl|rfl|rfl|rfl|rfl|rfl|rfl|rfl|rfl|rfl|rfl|rfl|rfl
   ·exact qC hF hoQ hbQ (hKQ hx)
   ·exact qC hF hoQ hbQ (hKQ hx)
   ·exact qC hF hoQ hbQ (hKQ hx)
   ·exact qC hF hoQ hbQ (hKQ hx)
   ·exact qC hF hoQ hbQ (hKQ hx)
   ·exact qC hF hoQ hbQ (hKQ hx)
   ·exact qC hF hoQ hbQ (hKQ hx)
   ·exact qC hF hoQ hbQ (hKQ hx)
   ·obtain rfl:=dO hoQ;simp only[stM,tE,tI,oK,oS,pH,jC,jE] at hbQ;rw[hbQ.1];simp only[fI];show lW _ _ _ _ _ _ _ _;refine iI (s1:=[]) (s2:=[]) 48 eN (by ((try simp only[go_sem,seval,hbQ]);try simp (disch:=omega) only[go_sem,seval,hbQ])<;>rfl) rfl ?_;refine nT [] [] 98 2 ((tr.take (i+1)).map kQ) 51 eN ?_;show lW _ _ _ _ _ _ _ _;refine fK hF ?_;refine bV rfl bF bF ?_;((try simp only[go_sem,seval,hbQ]);try simp (disch:=omega) only[go_sem,seval,hbQ])
    repeat refine cP kN ?_
    refine⟨rfl,by ((try simp only[go_sem,seval,hbQ]);try simp (disch:=omega) only[go_sem,seval,hbQ])<;>(first|rfl|(rw[kX default (by assumption),eM];try rfl)),fun hx=>?_⟩
    try ((try simp only[go_sem,seval,hbQ]);try simp (disch:=omega) only[go_sem,seval,hbQ])
    refine hKQ hx _ _ ?_ ?_
    ·first|rfl|(((try simp only[go_sem,seval,hbQ]);try simp (disch:=omega) only[go_sem,seval,hbQ]);done)|(((try simp only[go_sem,seval,hbQ]);try simp (disch:=omega) only[go_sem,seval,hbQ])<;>rfl)
    ((try simp only[go_sem,seval,hbQ]);try simp (disch:=omega) only[go_sem,seval,hbQ])<;>first|rfl|simp
   ·exact qC hF hoQ hbQ (hKQ hx)
   ·exact qC hF hoQ hbQ (hKQ hx)
   ·exact qC hF hoQ hbQ (hKQ hx)
   exact qC hF hoQ hbQ (hKQ hx)
  refine lL ?_;refine Z13 _ _ (eO hF [0,1,6,33,34,35] ?_);refine Z10 _ _ _ bD ⟨i+1,hx,rfl,rfl,bD,dT⟩
 refine fV (Z8 _ _ (bI hF [0,1,6] ?_));refine aW fun _ Z17=>iU hF ?_;refine aNq [0,1] [] bF ?_;refine lL ?_;refine Z17 _ _ (aW fun _ Z18=>?_);obtain rfl:i=tr.length:=by omega
 rw[iL];refine gL (s1:=[]) (s2:=[]) (k+100000) 24 (cs:=wY (wPl w (scD tr best)) (m4 us) (aP.sl tr.length) (kW w.xAi) (aTq tr)) su (by rw[cJ];rfl) rfl (eK.frzL kQ tr) rfl ?_;rw[cKo];refine eO hF [] ?_;refine Z18 _ _ (dV ?_)
 (try simp only[fQ,d8]);exact aAb (s:=k) (cs0:=wY w (m4 us) (.v (.slice none 0 0)) (kW w.xAi) (.v (.slice none 0 0))) (cs:=wY (wPl w (scD tr best)) (m4 us) (cL tr) (kW w.xAi) (aTq tr)) 4 rfl (by rw[aK,if_pos rfl]) rfl st st st su rfl rfl (.inr ⟨hc0,best,hfull,rfl,rfl⟩)
end
end
end Go.Sg
namespace Go.Sg
open Go.RowKit
open Go.Rv (FR)
section
variable {P:Program} {nt:Nat} {ρ:aN} {w:World} {I:Nat→Prop} {A:dD}
theorem bZn {ops:Array Oper} {o:Oper} {gh:Nat} {K:aN→Prop} {t:TypeId} {n:Nat} {parts:Array (Nat×Operand)} {d:Nat} {e:TypeId} {by_:Nat} {zs:List Value} {cs:List DV} (hop:o.op=.buildSlice t n parts) (hg:o.guard=none) (hdst:o.dst=some d) (hd:d<nt) (hg1:nt≤gh) (hg2:gh<100000)
  (ho:eJ nt o=true) (hs:nE P t=some (e,1,by_)) (hz:eW P e=some zs) (hn0:0<n) (hn:n≤16777216) (hl:parts.toList.length=n) (hcl:cs.length=n)
  (hp: ∀(j:Nat) (p:Nat×Operand),parts.toList[j]?=some p→p.1=j∧gd (ev ρ p.2)∧ ∃x,cs[j]?=some x∧cW (un (ev ρ p.2))=[x]) (hm:d6 (fun s=>s !=gh) cs=true)
  (hK:K (set (set (d4 gh ρ) gh (.bx cs)) d (.own gh n))):OW P nt ops o K ρ:=by
 obtain⟨hu,i,hi,hz1,rfl⟩:=lC hs;obtain⟨i',zv,hi',hzv,rfl,_⟩:=lQ hz;rw[hi] at hi';cases hi';refine iF hg fun I A a w hsim=>?_
 have hpart: ∀(j:Nat) (p:Nat×Operand),parts.toList[j]?=some p→p.1=j∧(a.eval p.2).cells.size=1∧(∀u∈(a.eval p.2).cells.toList,u.oneCell'=true)∧
   ∀(x:DV) (u:Value),cs[j]?=some x→(a.eval p.2).cells[0]?=some u→bP w I A x u:=fun j p hj=>by
  obtain⟨h1,h2,x0,h3,h4⟩:=hp j p hj;have hx:=hsim.opd p.2 (bM ho (by
   simp only[hop,Op.operands];simp;exact⟨p.1,by have:=pP hj;simpa using this⟩)) h2
  obtain⟨k1,k2,k3⟩:=tJ hx (.inl (by rw[h4];simp));rw[h4] at k1 k3;refine⟨h1,k1.symm,k2,fun x u hx hu=>?_⟩;rw[h3] at hx;cases hx;exact k3 0 _ u rfl hu
 let vparts:List (Nat×Value):=parts.toList.map fun p=>(p.1,a.eval p.2)
 have hv: ∀(j k:Nat) (v:Value),vparts[j]?=some (k,v)→ ∃p,parts.toList[j]?=some p∧p.1=k∧a.eval p.2=v:=fun j k v h=>by
  simp only[vparts,dG,gC] at h;obtain⟨p,hp,he⟩:=h;simp at he;exact⟨p,hp,he.1,he.2⟩
 obtain⟨zero,hzero⟩: ∃zero:Array Value,zero=(Array.range (n*i.size)).map (zv.cells[· %zv.cells.size]!):=⟨_,rfl⟩;have hzsz:zero.size=n*i.size:=by simp[hzero]
 obtain⟨out,o1,o2,o3⟩:=aAh (fun k=>some (k*i.size,i.size)) vparts zero (fun j k v h=>by
  obtain⟨p,hpj,rfl,rfl⟩:=hv j k v h;obtain⟨h1,h2,_⟩:=hpart j p hpj;have hjn:j<n:=by
   rw[← hl];rcases b9 j parts.toList.length with h|h
   ·exact h
   rw[fN h] at hpj;cases hpj
  refine⟨p.1*i.size,by rw[h2,hz1],?_⟩;rw[hzsz,h2,h1,hz1];omega)
 rw[hzsz,hz1,Nat.mul_one] at o2;have hout: ∀(j:Nat) (p:Nat×Operand),parts.toList[j]?=some p→out[j]?=(a.eval p.2).cells[0]?:=fun j p hj=>by
  obtain⟨h1,h2,_⟩:=hpart j p hj;have hvj:vparts[j]?=some (p.1,a.eval p.2):=by simp only[vparts,dG,hj];rfl
  rcases o3 j with ⟨j',k,v,off,k1,k2,k3,k4,k5⟩|⟨k1,_⟩
  ·obtain⟨p',hp',rfl,rfl⟩:=hv j' k v k1;obtain⟨h1',h2',_⟩:=hpart j' p' hp';simp only[bX,cF] at k2;obtain⟨rfl,_⟩:=k2;rw[hz1,Nat.mul_one] at k3 k4 k5;have:j'=j:=by omega
   subst this;rw[hj] at hp';cases hp';rw[k5,h1];congr 1;omega
  exact absurd ⟨by rw[h1,hz1];omega,by rw[h1,h2,hz1];omega⟩ (k1 j p.1 _ (p.1*i.size) hvj (by rw[h2,hz1]))
 have hcell: ∀(j:Nat) (x:DV) (u:Value),cs[j]?=some x→out[j]?=some u→u.oneCell'=true∧bP w I A x u:=fun j x u hx hu=>by
  have hj:j<n:=by
   rw[← hcl];rcases b9 j cs.length with h|h
   ·exact h
   rw[fN h] at hx;cases hx
  have h1:parts.toList[j]?=some (parts.toList[j]'(by omega)):=cH aV;obtain⟨_,_,h3,h4⟩:=hpart j _ h1;rw[hout j _ h1] at hu;exact⟨h3 u (by simpa using tQ hu),h4 x u hx hu⟩
 have hb:=hsim.bound;have hgr:=oT.alloc hsim.osim (.cells out e);have hs1:=hsim.grow hgr;have hs2:=hs1.ghost hg1 hg2 (B:=some w.heap.size) (c:=n) (v:=.bx cs) (fun b hb'=>by
  cases hb';refine⟨by simp,fun hi=>?_,fun s c' hc=>?_⟩
  ·have:=hsim.osim.imm _ hi;omega
  have:=(hsim.osim.sep s _ c' hc).1;omega) ⟨_,_,out,e,dJ _ _ _,heap_alloc_new w _,by rw[o2,hcl],fun u hu=>by
  obtain⟨j,hj,rfl⟩:=Array.mem_iff_getElem.1 (show u∈out by simpa using hu);exact (hcell j (cs[j]'(by omega)) _ (cH aV) (iY hj)).1,fun j x u hx hu=>
  (hgr.rel hsim.osim (hcell j x u hx hu).2).congrA _ (gZ hm hx) fun s hs=>fF A _ (by simpa using hs)⟩
 refine⟨.slice (some ⟨w.heap.size,0,none⟩) n n,w.alloc (.cells out e),I,kC A gh (some (some w.heap.size,n)),_,?_,?_,?_,hK⟩
 ·have hne:n*i.size≠0:=by rw[hz1];omega
  have hmap:(parts.map fun p=>(p.1,a.eval p.2)).toList=vparts:=by simp[vparts]
  have h24: ¬(n*i.size>2^24):=by
   have:(2:Nat)^24=16777216:=by decide
   rw[hz1];omega
  simp only[execOp,hop,Instr.buildSlice,Sem.run_bind,run_underlying hu,Result.andThen_ok,run_sizeOf w hi,Program.cellsOf,hi,gG,iE,h24,s7,hne,zeroValue,run_typeInfo w hi,hzv,Sem.run_pure,Sem.run_ite];simp only[hmap];rw[← hzero,o1];rfl
 ·rw[hdst];exact hs2.put hd (.ofRel (.own _ gh n (some w.heap.size) n _ (dJ _ _ _) (sY _))) trivial
 refine⟨rfl,⟨rfl,bW _⟩,rfl,by simp,fun _ h=>h,fun g hg hA=>⟨hgr.heap g hg,fun h=>h,fun s c hc=>?_⟩,fun s g c hc hg hl'=>?_,fun s h=>fF A _ aV⟩
 ·rcases cZ hc with ⟨_,h⟩|⟨_,h⟩
  ·simp only[bX,cF] at h;omega
  exact hA s c h
 rcases cZ hc with ⟨_,h⟩|⟨_,h⟩
 ·simp only[bX,cF] at h;omega
 exact⟨s,c,hl',h⟩
theorem aUl {ops:Array Oper} {o:Oper} {K:aN→Prop} {t:TypeId} {x y:Operand} {d s n:Nat} {cs:List DV} {kk:IntKind} {k:Int} (hop:o.op=.indexAddr t x y) (hg:o.guard=none) (hdst:o.dst=some d) (hd:d<nt)
  (ho:eJ nt o=true) (hel:fZ P t=some (none,1)) (hx:ev ρ x=.own s n) (hy:ev ρ y=.v (.int kk k)) (hρ:ρ s=.bx cs) (h0:0≤k) (h1:k<n)
  (hK:K (set ρ d (.bp s k.toNat))):OW P nt ops o K ρ:=by
 refine iF hg fun I A a w hsim=>?_;have hxr:=hsim.opd x (bM ho (by simp[hop,Op.operands])) (by rw[hx];trivial);have hyr:=hsim.opd y (bM ho (by simp[hop,Op.operands])) (by rw[hy];trivial);rw[hx] at hxr;rw[hy] at hyr;have hye:a.eval y=.int kk k:=by
  have hyr:bP w I A (.v (.int kk k)) (a.eval y):=hyr;generalize a.eval y=q at hyr ⊢;cases hyr;rfl
 have hxr:bP w I A (.own s n) (a.eval x):=hxr;have hown:=hsim.osim.own s;rw[hρ] at hown;obtain⟨g,c,us,et,hA,_⟩:=hown;unfold fZ at hel;split at hel<;>simp at hel;rename_i e' hu;obtain⟨i,hi,hz⟩:=hel;generalize hq:a.eval x=q at hxr;cases hxr with
 |own _ _ _ B c' b hA' hb=>
  rw[hA] at hA';simp only[bX,cF] at hA';obtain⟨rfl,rfl⟩:=hA';obtain rfl:=iX hb;refine⟨.pointer (some ⟨g,k.toNat,none⟩),w,I,A,_,?_,?_,f8.refl _ _ _,hK⟩
  ·simp[execOp,hop,hq,hye,Instr.indexAt,asIntOf,run_underlying hu,h0,h1,run_sizeOf w hi,Program.cellsOf,hi,hz,Addr.add_lit]
  rw[hdst];exact hsim.put hd (.ofRel (.bp A s k.toNat g c hA)) trivial
end
end Go.Sg
namespace Go.Sg
open Go.Proofs
def bRs (O:aN) (k:Nat) (e:Int) (ok:List DV→Prop) (O':aN) (r:DV):Prop:= ∃cs,O'=set O k (.bx cs)∧r=vi e∧(e=0→ok cs)
theorem bRr {O1:aN} {k:Nat} {c0:List DV} {e:Int} {ok:List DV→Prop} (h:e≠0):bRs (set O1 k (.bx c0)) k e ok (set O1 k (.bx c0)) (vi e):=⟨c0,(nS _ _ _ _).symm,rfl,fun h0=>absurd h0 h⟩
theorem bOc {O:aN} {k:Nat} {cs:List DV} {e:Int} {ok:List DV→Prop} (h:e=0) (h2:ok cs):bRs O k e ok (set O k (.bx cs)) (vi 0):=⟨cs,rfl,by rw[h],fun _=>h2⟩
theorem aKp {P:Program} {ρ O:aN} {fn:Func} {R:aN→DV→Prop} {cs:List DV} {e:Int} (a ty t:Nat) (hf:fn.results= #[.cell a ty,.tmp t]) (h1:hi ρ=bS O) (h2:ρ a=.bx cs) (h3:eA P ty=some (some cs.length)) (h4:sh (.agg cs)=.agg cs) (h5:ρ t=vi e)
  (hR:R O (.tup [.agg cs,vi e])):rZ P fn O R .ret ρ:=
 ⟨O,.tup [.agg cs,vi e],iK h1,fun _=>fR.refl _,fun _ h=>h,by
  rw[hf];refine⟨_,rfl,rfl,fun j v d hv hd=>?_⟩
  match j with
  |0=>
   simp only[List.getElem?_cons_zero,bX] at hv hd;subst hv;subst hd;exact⟨cs,h2,.inl ⟨h3,by rw[h4];exact eK.refl _⟩⟩
  |1=>
   simp at hv hd;subst hv;subst hd;exact⟨by rw[h5];rfl,by rw[h5];exact eK.refl _⟩
  |j+2=>simp at hv,hR⟩
def bSx (l:aC):cE:=aIx default l
def bLx (l:aC) (ts:List cT) (bs:List eF):cE:=wCe (bSx l) (y4 l ts bs)
def cKk (l:aC) (ts:List cT) (bs:List eF) (tr:List bR) (best:Dr):cE:=wPl (bLx l ts bs) (scD tr best)
def aOy (l:aC) (ts:List cT) (bs:List eF) (tr:List bR) (best:Dr):cE:=
 {cKk l ts bs tr best with xAm:=rJ ts bs ts.length,xCd:=tr,xCr:=List.replicate l.xAa.length false,xBy:=List.replicate tr.length 0}
def vZ (l:aC) (ts:List cT) (bs:List eF) (tr:List bR):Int:=if aAu l≠0 then aAu l else if sQ l ts bs≠0 then sQ l ts bs else lV (u5 l) tr
def cSp (l:aC) (ts:List cT) (bs:List eF) (tr:List bR) (r:DV):Prop:=
 (vZ l ts bs tr≠0∧r=.tup [.agg (eQ default),vi (vZ l ts bs tr)])∨(vZ l ts bs tr=0∧ ∃best,nD tr (csF (u5 l) tr) best∧r=.tup [.agg (eQ (aOy l ts bs tr best)),vi 0])
def nwC (l:aC) (ts:List cT) (bs:List eF) (tr:List bR) (best:Dr):Nat→List DV
 |0=>wY default (.v (.slice none 0 0)) (.v (.slice none 0 0)) (.v (.slice none 0 0)) (.v (.slice none 0 0))
 |1=>wY (bSx l) (.v (.slice none 0 0)) (.v (.slice none 0 0)) (kW l) (.v (.slice none 0 0))
 |2=>wY (bLx l ts bs) (m4 (rJ ts bs ts.length)) (.v (.slice none 0 0)) (kW l) (.v (.slice none 0 0))
 |_=>wY (cKk l ts bs tr best) (m4 (rJ ts bs ts.length)) (cL tr) (kW l) (aTq tr)
abbrev NwI (l:aC) (ts:List cT) (bs:List eF) (tr:List bR) (best:Dr) (i:Nat):Prop:=(1≤i→aAu l=0)∧(2≤i→sQ l ts bs=0)∧(3≤i→lV (u5 l) tr=0∧nD tr (csF (u5 l) tr) best)
theorem cFu (l:aC):eK (kW l) (encL 1 eB (List.replicate l.xAa.length false)):=by
 unfold kW encL;rw[List.length_replicate];exact eK.sl 1 _ fun j hj=>by rw[aCx _ _ hj]
theorem cGu (tr:List bR):eK (aTq tr) (d5 (List.replicate tr.length 0)):=by
 unfold aTq d5 encL;rw[List.length_replicate];exact eK.sl 1 _ fun j hj=>by rw[aCx _ _ hj]
section
attribute [local go_sem] kD nS oX gR fI cJ Nat.mul_one iD gH iP ite_self wY wLy wTb wIn wMc wCe wPl aIx tO tK
theorem aKx (O:aN) (w:cE) (l:aC) (hl:gO l) (k:Nat) (hk:O k=.bx (wY w (.v (.slice none 0 0)) (.v (.slice none 0 0)) (.v (.slice none 0 0)) (.v (.slice none 0 0)))):iC Tryz.prog O 16 [.bp k 0,.dp (aQ l)] (bRs O k (aAu l) (fun cs=>cs=wY (aIx w l) (.v (.slice none 0 0)) (.v (.slice none 0 0)) (kW l) (.v (.slice none 0 0)))):=by
 obtain⟨O1,rfl⟩: ∃O1,O=(set O1 k (.bx (wY w (.v (.slice none 0 0)) (.v (.slice none 0 0)) (.v (.slice none 0 0)) (.v (.slice none 0 0))))):=⟨O,by funext j;rw[aK];split<;>simp_all⟩;refine kY Tryz.func16 rfl bF ?_;refine aB [0,1] ?_;refine aA fun _ Z1=>bN [0,1] ?_;refine kA (wT _ w l hl (k+100000) st) ?_;rintro O2 r2 (⟨her,rfl,rfl⟩|⟨her,rfl,rfl⟩)
 ·try ((try simp only[go_sem,↓reduceIte,Nat.reduceEqDiff,Nat.reduceLT,Nat.reduceLeDiff,Nat.reduceAdd,Nat.reduceSub,Nat.reduceMul,reduceCtorEq,Int.reduceToNat,Int.reduceNeg]);try ((try simp only[go_sem,seval]);try simp (disch:=omega) only[go_sem,seval]))
  repeat refine cP kN ?_
  refine Z1 _ (aL ?_);exact aCs 2 rfl sx su rfl rfl (bRr her)
 refine lL ?_;refine Z1 _ (aL ?_)
 (try simp only[fQ,d8]);exact aAb (s:=k) (cs0:=wY w (.v (.slice none 0 0)) (.v (.slice none 0 0)) (.v (.slice none 0 0)) (.v (.slice none 0 0))) (cs:=wY (aIx w l) (.v (.slice none 0 0)) (.v (.slice none 0 0)) (kW l) (.v (.slice none 0 0))) 2 rfl (by rw[aK,if_pos rfl]) rfl st st st su rfl rfl (bOc her rfl)
end
section
attribute [local go_sem] kD nS oX gR fI cJ Nat.mul_one iD gH iP ite_self wY wLy wTb wIn wMc wCe wPl aIx tO tK
theorem aNf (O:aN) (w:cE) (ts:List cT) (bs:List eF) (hl:gO w.xAi) (hck:mK w.xAi=0) (ht:ts.length≤10) (hb:bs.length≤10) (hq: ∀i,i<bs.length→(bs.getD i default).xAc.length≤100) (k:Nat) (hk:O k=.bx (wY w (.v (.slice none 0 0)) (.v (.slice none 0 0)) (kW w.xAi) (.v (.slice none 0 0)))):iC Tryz.prog O 18 [.bp k 0,.dp [lA ts],.dp [jZ bs]] (bRs O k (sQ w.xAi ts bs) (fun cs=>cs=wY (wCe w (y4 w.xAi ts bs)) (m4 (rJ ts bs ts.length)) (.v (.slice none 0 0)) (kW w.xAi) (.v (.slice none 0 0)))):=by
 obtain⟨O1,rfl⟩: ∃O1,O=(set O1 k (.bx (wY w (.v (.slice none 0 0)) (.v (.slice none 0 0)) (kW w.xAi) (.v (.slice none 0 0))))):=⟨O,by funext j;rw[aK];split<;>simp_all⟩;refine kY Tryz.func18 rfl bF ?_;refine aB [0,1,2] ?_;refine aA fun _ Z1=>bN [0,1,2] ?_;refine kA (vW _ w ts bs hl hck ht hb hq (k+100000) st) ?_;rintro O2 r2 (⟨her,rfl,rfl⟩|⟨her,rfl,rfl⟩)
 ·try ((try simp only[go_sem,↓reduceIte,Nat.reduceEqDiff,Nat.reduceLT,Nat.reduceLeDiff,Nat.reduceAdd,Nat.reduceSub,Nat.reduceMul,reduceCtorEq,Int.reduceToNat,Int.reduceNeg]);try ((try simp only[go_sem,seval]);try simp (disch:=omega) only[go_sem,seval]))
  repeat refine cP kN ?_
  refine Z1 _ (aL ?_);exact aCs 3 rfl sx su rfl rfl (bRr her)
 refine lL ?_;refine Z1 _ (aL ?_)
 (try simp only[fQ,d8]);exact aAb (s:=k) (cs0:=wY w (.v (.slice none 0 0)) (.v (.slice none 0 0)) (kW w.xAi) (.v (.slice none 0 0))) (cs:=wY (wCe w (y4 w.xAi ts bs)) (m4 (rJ ts bs ts.length)) (.v (.slice none 0 0)) (kW w.xAi) (.v (.slice none 0 0))) 3 rfl (by rw[aK,if_pos rfl]) rfl st st st su rfl rfl (bOc her rfl)
end
section
attribute [local go_sem] kD nS oX gR fI cJ Nat.mul_one iD gH iP ite_self wY wLy wTb wIn wMc wCe wPl aIx tO tK
theorem aLv (O:aN) (w:cE) (us:List iR) (tr:List bR) (hf:aHe w.xAz=true) (k:Nat) (hk:O k=.bx (wY w (m4 us) (.v (.slice none 0 0)) (kW w.xAi) (.v (.slice none 0 0)))):iC Tryz.prog O 20 [.bp k 0,.dp [cL tr]] (bRs O k (lV w.xAz tr) (fun cs=> ∃best,nD tr (csF w.xAz tr) best∧cs=wY (wPl w (scD tr best)) (m4 us) (cL tr) (kW w.xAi) (aTq tr))):=by
 obtain⟨O1,rfl⟩: ∃O1,O=(set O1 k (.bx (wY w (m4 us) (.v (.slice none 0 0)) (kW w.xAi) (.v (.slice none 0 0))))):=⟨O,by funext j;rw[aK];split<;>simp_all⟩;refine kY Tryz.func20 rfl bF ?_;refine aB [0,1] ?_;refine aA fun _ Z1=>bN [0,1] ?_;refine kA (yA _ w us tr hf (k+100000) st) ?_;rintro O2 r2 (⟨her,rfl,rfl⟩|⟨her,best,hfull,rfl,rfl⟩)
 ·try ((try simp only[go_sem,↓reduceIte,Nat.reduceEqDiff,Nat.reduceLT,Nat.reduceLeDiff,Nat.reduceAdd,Nat.reduceSub,Nat.reduceMul,reduceCtorEq,Int.reduceToNat,Int.reduceNeg]);try ((try simp only[go_sem,seval]);try simp (disch:=omega) only[go_sem,seval]))
  repeat refine cP kN ?_
  refine Z1 _ (aL ?_);exact aCs 2 rfl sx su rfl rfl (bRr her)
 refine lL ?_;refine Z1 _ (aL ?_)
 (try simp only[fQ,d8]);exact aAb (s:=k) (cs0:=wY w (m4 us) (.v (.slice none 0 0)) (kW w.xAi) (.v (.slice none 0 0))) (cs:=wY (wPl w (scD tr best)) (m4 us) (cL tr) (kW w.xAi) (aTq tr)) 2 rfl (by rw[aK,if_pos rfl]) rfl st st st su rfl rfl (bOc her ⟨best,hfull,rfl⟩)
end
section
attribute [local go_sem] kD nS oX gR fI cJ Nat.mul_one iD gH iP ite_self wY wLy wTb wIn wMc wCe wPl aIx tO tK nwC
set_option maxRecDepth 20000 in
theorem wZ (O:aN) (l:aC) (ts:List cT) (bs:List eF) (tr:List bR) (hl:gO l) (ht:ts.length≤10) (hb:bs.length≤10) (hq: ∀i,i<bs.length→(bs.getD i default).xAc.length≤100):iC Tryz.prog O 6 [.agg (aQ l),lA ts,jZ bs,cL tr] (fun O' r'=>O'=O∧cSp l ts bs tr r'):=by
 refine kY Tryz.func6 rfl bF ?_;refine aB [0,1,2,3] ?_;refine aB [4,5,6,7,8] ?_;refine aA fun _ Z2=>aA fun _ Z3=>mC 4 rfl rfl rfl ?_;refine mC 5 rfl rfl rfl ?_;refine mC 6 rfl rfl rfl ?_;refine mC 7 rfl rfl rfl ?_;refine pN 10 (ds:=wY default (.v (.slice none 0 0)) (.v (.slice none 0 0)) (.v (.slice none 0 0)) (.v (.slice none 0 0))) rfl rfl (jS (gA (gA (gA (gA (gA (gA (gA (gA (jS (jS (gA (gA (gA (jS (jS (gA (gA (gA (gA (gA (gA (gA (gA (jS (gA (jS (jS (gA (jS .nil)))))))))))))))))))))))))))))) ?_;refine pN 8 (ds:=eQ default) rfl rfl (jS (gA (gA (gA (gA (gA (gA (gA (gA (jS (jS (gA (gA (gA (gA (gA (gA (gA (gA (gA (gA (gA (gA (gA (gA (gA (jS (gA (gA (jS .nil)))))))))))))))))))))))))))))) ?_;refine cM (Le.keepC [4,5,6,7,8,10] _) ?_;refine fU ?_;refine ez ?_;refine ez ?_;refine ez ?_;refine bZn (gh:=90000) (e:=108) (by_:=8) (zs:=[.nilFunc]) (cs:=[.fn 16 [] [.bp 10 0,.dp (aQ l)],.fn 18 [] [.bp 10 0,.dp [lA ts],.dp [jZ bs]],.fn 20 [] [.bp 10 0,.dp [cL tr]]]) rfl rfl rfl eN eN eN bF bF bF eN eN rfl rfl (fun j p hj=>?_) rfl ?_
 ·rcases j with _|_|_|j<;>simp at hj<;>subst hj<;>exact⟨rfl,by ((try simp only[go_sem,seval]);try simp (disch:=omega) only[go_sem,seval]),_,rfl,by ((try simp only[go_sem,seval]);try simp (disch:=omega) only[go_sem,seval])<;>rfl⟩
 ((try simp only[go_sem,seval]);try simp (disch:=omega) only[go_sem,seval]);refine ez ?_;refine ez ?_;refine Z3 _ (aI (aX [8,10,17,18,19,90000] (fun n ρ=> ∃i,∃best,n=3-i∧(i≤3)∧(NwI l ts bs tr best i)∧ρ=dU O [(8,.bx (eQ default)),(10,.bx (nwC l ts bs tr best i)),(17,.own 90000 3),(18,vi 3),(19,vi (i:Nat)),(90000,.bx [.fn 16 [] [.bp 10 0,.dp (aQ l)],.fn 18 [] [.bp 10 0,.dp [lA ts],.dp [jZ bs]],.fn 20 [] [.bp 10 0,.dp [cL tr]]])]) _ ⟨0,default,rfl,?_,?_,?_⟩ ?_))
 ·exact bD
 ·exact⟨fun h=>by omega,fun h=>by omega,fun h=>by omega⟩
 ·exact dT
 rintro n ρ ⟨i,best,rfl,l0_0,l0_1,rfl⟩ _ Z4;obtain rfl|rfl|rfl|rfl:i=0∨i=1∨i=2∨i=3:=by omega
 ·skip
  refine aB [8,10,17,18,19,90000] ?_;refine aA fun _ Z6=>dY true (by rfl) (rfl) (fun _=>?_) (fun h=>by cases h);refine aD (Z6 _ (aA fun _ Z7=>aI (aA fun _ Z8=>cM (Le.keepC [8,10,17,18,19,90000] _) ?_)));refine fU ?_;refine aUl (s:=90000) (n:=3) (cs:=[.fn 16 [] [.bp 10 0,.dp (aQ l)],.fn 18 [] [.bp 10 0,.dp [lA ts],.dp [jZ bs]],.fn 20 [] [.bp 10 0,.dp [cL tr]]]) (kk:=.i64) rfl rfl rfl eN bF bF sz sr sz eN eN ?_;((try simp only[go_sem,seval]);try simp (disch:=omega) only[go_sem,seval]);refine ez ?_;refine ez ?_;refine Z8 _ (aA fun _ Z9=>bN [8,10,12,17,18,19,90000] ?_);refine kA (aKx _ default l hl 10 st) ?_;rintro O2 r2 ⟨cs,rfl,rfl,hz⟩;refine lL ?_;refine Z9 _ (aB [8,10,13,17,18,19,90000] ?_);refine aO (fun c1=>?_) fun c1=>?_
  ·have he:aAu l≠0:=(by simpa using c1);have hne:vZ l ts bs tr=aAu l:=(by unfold vZ;rw[if_pos he]);refine aB [8,13] ?_;refine pN 8 (ds:=eQ default) rfl su (jS (gA (gA (gA (gA (gA (gA (gA (gA (jS (jS (gA (gA (gA (gA (gA (gA (gA (gA (gA (gA (gA (gA (gA (gA (gA (jS (gA (gA (jS .nil)))))))))))))))))))))))))))))) ?_;refine aL ?_
   (try simp only[fQ,d8]);exact aKp (e:=vZ l ts bs tr) 8 59 9 rfl sx su bF rfl (by ((try simp only[go_sem,↓reduceIte,Nat.reduceEqDiff,Nat.reduceLT,Nat.reduceLeDiff,Nat.reduceAdd,Nat.reduceSub,Nat.reduceMul,reduceCtorEq,Int.reduceToNat,Int.reduceNeg]);try ((try simp only[go_sem,seval]);try simp (disch:=omega) only[go_sem,seval]))<;>(rw[hne];try rfl)) (⟨rfl,.inl ⟨by rw[hne];exact he,rfl⟩⟩)
  have hb0:aAu l=0:=(by simpa using c1);obtain rfl:cs=_:=hz hb0;refine aD (Z7 _ (bE [8,10,17,18,19,90000] ?_));refine Z4 _ _ bD ⟨1,default,rfl,bD,?_,dT⟩
  ·exact⟨fun _=>hb0,fun h=>by omega,fun h=>by omega⟩
 ·skip
  refine aB [8,10,17,18,19,90000] ?_;refine aA fun _ Z13=>dY true (by rfl) (rfl) (fun _=>?_) (fun h=>by cases h);refine aD (Z13 _ (aA fun _ Z14=>aI (aA fun _ Z15=>cM (Le.keepC [8,10,17,18,19,90000] _) ?_)));refine fU ?_;refine aUl (s:=90000) (n:=3) (cs:=[.fn 16 [] [.bp 10 0,.dp (aQ l)],.fn 18 [] [.bp 10 0,.dp [lA ts],.dp [jZ bs]],.fn 20 [] [.bp 10 0,.dp [cL tr]]]) (kk:=.i64) rfl rfl rfl eN bF bF sz sr sz eN eN ?_;((try simp only[go_sem,seval]);try simp (disch:=omega) only[go_sem,seval]);refine ez ?_;refine ez ?_;refine Z15 _ (aA fun _ Z16=>bN [8,10,12,17,18,19,90000] ?_);refine kA (aNf _ (bSx l) ts bs hl (aAl (l0_1.1 aV)) ht hb hq 10 st) ?_;rintro O2 r2 ⟨cs,rfl,rfl,hz⟩;refine lL ?_;refine Z16 _ (aB [8,10,13,17,18,19,90000] ?_);refine aO (fun c3=>?_) fun c3=>?_
  ·have hb0:=l0_1.1 aV;have he:sQ (bSx l).xAi ts bs≠0:=(by simpa using c3);have he:sQ l ts bs≠0:=he;have hne:vZ l ts bs tr=sQ l ts bs:=(by unfold vZ;rw[if_neg (by rw[hb0];simp),if_pos he]);refine aB [8,13] ?_;refine pN 8 (ds:=eQ default) rfl su (jS (gA (gA (gA (gA (gA (gA (gA (gA (jS (jS (gA (gA (gA (gA (gA (gA (gA (gA (gA (gA (gA (gA (gA (gA (gA (jS (gA (gA (jS .nil)))))))))))))))))))))))))))))) ?_;refine aL ?_
   (try simp only[fQ,d8]);exact aKp (e:=vZ l ts bs tr) 8 59 9 rfl sx su bF rfl (by ((try simp only[go_sem,↓reduceIte,Nat.reduceEqDiff,Nat.reduceLT,Nat.reduceLeDiff,Nat.reduceAdd,Nat.reduceSub,Nat.reduceMul,reduceCtorEq,Int.reduceToNat,Int.reduceNeg]);try ((try simp only[go_sem,seval]);try simp (disch:=omega) only[go_sem,seval]))<;>(rw[hne];try rfl)) (⟨rfl,.inl ⟨by rw[hne];exact he,rfl⟩⟩)
  have hb0:=l0_1.1 aV;have ht0:sQ (bSx l).xAi ts bs=0:=(by simpa using c3);have ht0:sQ l ts bs=0:=ht0;obtain rfl:cs=_:=hz ht0;refine aD (Z14 _ (bE [8,10,17,18,19,90000] ?_));refine Z4 _ _ bD ⟨2,best,rfl,bD,?_,dT⟩
  ·exact⟨fun _=>hb0,fun _=>ht0,fun h=>by omega⟩
 ·skip
  refine aB [8,10,17,18,19,90000] ?_;refine aA fun _ Z20=>dY true (by rfl) (rfl) (fun _=>?_) (fun h=>by cases h);refine aD (Z20 _ (aA fun _ Z21=>aI (aA fun _ Z22=>cM (Le.keepC [8,10,17,18,19,90000] _) ?_)));refine fU ?_;refine aUl (s:=90000) (n:=3) (cs:=[.fn 16 [] [.bp 10 0,.dp (aQ l)],.fn 18 [] [.bp 10 0,.dp [lA ts],.dp [jZ bs]],.fn 20 [] [.bp 10 0,.dp [cL tr]]]) (kk:=.i64) rfl rfl rfl eN bF bF sz sr sz eN eN ?_;((try simp only[go_sem,seval]);try simp (disch:=omega) only[go_sem,seval]);refine ez ?_;refine ez ?_;refine Z22 _ (aA fun _ Z23=>bN [8,10,12,17,18,19,90000] ?_);refine kA (aLv _ (bLx l ts bs) (rJ ts bs ts.length) tr (bBd hl (l0_1.1 aV)) 10 st) ?_;rintro O2 r2 ⟨cs,rfl,rfl,hz⟩;refine lL ?_;refine Z23 _ (aB [8,10,13,17,18,19,90000] ?_);refine aO (fun c5=>?_) fun c5=>?_
  ·have hb0:=l0_1.1 aV;have ht0:=l0_1.2.1 aV;have he:lV (bLx l ts bs).xAz tr≠0:=(by simpa using c5);have he:lV (u5 l) tr≠0:=he;have hne:vZ l ts bs tr=lV (u5 l) tr:=(by unfold vZ;rw[if_neg (by rw[hb0];simp),if_neg (by rw[ht0];simp)]);refine aB [8,13] ?_;refine pN 8 (ds:=eQ default) rfl su (jS (gA (gA (gA (gA (gA (gA (gA (gA (jS (jS (gA (gA (gA (gA (gA (gA (gA (gA (gA (gA (gA (gA (gA (gA (gA (jS (gA (gA (jS .nil)))))))))))))))))))))))))))))) ?_;refine aL ?_
   (try simp only[fQ,d8]);exact aKp (e:=vZ l ts bs tr) 8 59 9 rfl sx su bF rfl (by ((try simp only[go_sem,↓reduceIte,Nat.reduceEqDiff,Nat.reduceLT,Nat.reduceLeDiff,Nat.reduceAdd,Nat.reduceSub,Nat.reduceMul,reduceCtorEq,Int.reduceToNat,Int.reduceNeg]);try ((try simp only[go_sem,seval]);try simp (disch:=omega) only[go_sem,seval]))<;>(rw[hne];try rfl)) (⟨rfl,.inl ⟨by rw[hne];exact he,rfl⟩⟩)
  have hb0:=l0_1.1 aV;have ht0:=l0_1.2.1 aV;have hc0:lV (bLx l ts bs).xAz tr=0:=(by simpa using c5);have hc0:lV (u5 l) tr=0:=hc0;obtain⟨best2,hfull,rfl⟩:=hz hc0;have hfull:nD tr (csF (u5 l) tr) best2:=hfull;refine aD (Z21 _ (bE [8,10,17,18,19,90000] ?_));refine Z4 _ _ bD ⟨3,best2,rfl,bD,?_,dT⟩
  ·exact⟨fun _=>hb0,fun _=>ht0,fun _=>⟨hc0,hfull⟩⟩
 skip
 refine aB [8,10,17,18,19,90000] ?_;refine aA fun _ Z27=>dY false (by rfl) (rfl) (fun h=>by cases h) (fun _=>?_);refine bA (Z2 _ (aA fun _ Z28=>?_));have hb0:=l0_1.1 aV;have ht0:=l0_1.2.1 aV;obtain⟨hc0,hfull⟩:=l0_1.2.2 aV;have hne:vZ l ts bs tr=0:=(by unfold vZ;rw[if_neg (by rw[hb0];simp),if_neg (by rw[ht0];simp)];exact hc0);refine bE [8,10] ?_;refine Z28 _ (pN 8 (ds:=eQ (aOy l ts bs tr best)) rfl su (jS (jS (jS (jS (jS (jS (jS (jS (jS (jS (jS (jS (jS (jS (.cons (cFu l) (jS (jS (jS (jS (jS (jS (jS (jS (jS (jS (jS (jS (.cons (cGu tr) (jS (jS .nil)))))))))))))))))))))))))))))) ?_);refine aL ?_
 (try simp only[fQ,d8]);exact aKp 8 59 9 rfl sx su bF rfl su (⟨rfl,.inr ⟨hne,best,hfull,rfl⟩⟩)
end
def mc1:lO:=⟨1,1,0⟩
abbrev unA (w:cE) (i:Nat):iR:=w.xAm.getD i default
structure GdW (w:cE):Prop where
 ly:gO w.xAi
 ck:mK w.xAi=0
 er:aAu w.xAi=0
 tb:w.xAz=u5 w.xAi
 il:bPr w.xAz w.xCh
 ml:w.xBx.length=w.xAz.xAk.length
 mi: ∀i:Nat,i<w.xBx.length→w.xBx.getD i default=mc1
 cl:(w.xCr.length:Int)=w.xAz.xAa
 un:0<w.xAm.length∧w.xAm.length≤6
 uo: ∀i:Nat,0<i→i<w.xAm.length→(unA w (i-1)).xAx.xAt.fId<(unA w i).xAx.xAt.fId
 us: ∀i:Nat,i<w.xAm.length→bCt (unA w i).xAx.xAt=0∧aVf w.xAi (unA w i).xAw=0∧(unA w i).xAw.xAn=(unA w i).xAx.xAt.xAn∧(unA w i).xAw.xAc.length≤100
 tl:w.xBi.xBm.length=w.xAm.length
 sl:w.xBi.xCp.length=w.xAm.length
 ti: ∀i:Nat,i<w.xAm.length→(w.xBi.xBm.getD i default).fId=(unA w i).xAx.xAt.fId
 si: ∀i:Nat,i<w.xAm.length→(w.xBi.xCp.getD i default).xCl=(unA w i).xAx.xAt.fId
 tr:lV w.xAz w.xCd=0
 st:bQe w.xCd w.xCk.xBr
 pl:w.xBy.length=w.xCd.length
 pi: ∀i:Nat,i<w.xBy.length→w.xBy.getD i default=0
 nw:w.xDd=0
theorem aGa (O:aN) (w:cE) (hg:GdW w):aZ Tryz.prog O 25 [.agg (eQ w)] (vb true):=by
 have hfw:aHe w.xAz=true:=by rw[hg.tb];exact bBd hg.ly hg.er
 have hct:chk w.xAz=0:=by rw[hg.tb];exact bOj hg.ly hg.er
 have hsz:w.xAz.xAg.length≤100∧w.xAz.xAk.length≤100:=by rw[hg.tb];exact cEd hg.ly hg.er
 have hml:=hg.ml;have hsx:=hg.mi;have hcl:=hg.cl;refine eV Tryz.func25 ?_;refine bB [0] ?_;refine aA fun _ Z1=>aA fun _ Z2=>eZ [1] ?_;refine pV (aMg _ w.xAz w.xCh hg.il hfw hct hsz.1 hsz.2) ?_;refine Z2 _ (aO (fun c0=>?_) fun c0=>?_)
 ·exact absurd c0 (by simp[hml])
 refine aD (Z1 _ (aA fun _ Z3=>bB [1] ?_));refine aI (aX [1,22,23,24] (fun n ρ=> ∃i,n=w.xBx.length-i∧(i≤w.xBx.length)∧ρ=dU O [(1,.bx (eQ w)),(22,cFa w.xBx),(23,vi (w.xBx.length:Nat)),(24,vi (i:Nat))]) _ ⟨0,rfl,?_,?_⟩ ?_)
 ·exact bD
 ·exact eX
 rintro n ρ ⟨i,rfl,l0_0,rfl⟩ _ Z5;refine bB [1,21,22,23,24] ?_;refine aA fun _ Z7=>aO (fun c1=>?_) fun c1=>?_
 ·refine aD (Z7 _ (aA fun _ Z8=>aI (bB [1,21,22,23,24] ?_)));refine bB [1,4,21,22,23,24] ?_;refine aO (fun c2=>?_) fun c2=>?_
  ·exact absurd c2 (by simp[mc1])
  refine aD (Z8 _ (cN [1,21,22,23,24] ?_));refine Z5 _ _ bD ⟨i+1,rfl,bD,?_⟩;exact eX
 refine bA (Z3 _ (bB [1] ?_));refine aL (mA 2 ?_);refine xbh ?_
 (simp[hcl])
theorem aJa (O:aN) (w:cE) (hg:GdW w):aZ Tryz.prog O 26 [.agg (eQ w)] (vb true):=by
 have hsx: ∀i:Nat,((i:Int)-1).toNat=i-1:=fun i=>by omega
 have hes:=(qR hg.ck).2.1;have hun:=hg.un;have huo:=hg.uo;have hus:=hg.us;refine eV Tryz.func26 ?_;refine bB [0] ?_;refine aA fun _ Z1=>bB [1] ?_;refine aO (fun c0=>?_) fun c0=>?_
 ·exact absurd c0 (by simp;omega)
 refine aD (Z1 _ (aA fun _ Z3=>bB [1] ?_));refine aI (aX [1,17,18,19] (fun n ρ=> ∃i,n=w.xAm.length-i∧(i≤w.xAm.length)∧ρ=dU O [(1,.bx (eQ w)),(17,m4 w.xAm),(18,vi (w.xAm.length:Nat)),(19,vi (i:Nat))]) _ ⟨0,rfl,?_,?_⟩ ?_)
 ·exact bD
 ·exact eX
 rintro n ρ ⟨i,rfl,l0_0,rfl⟩ _ Z5;refine bB [1,16,17,18,19] ?_;refine aA fun _ Z7=>aO (fun c1=>?_) fun c1=>?_
 ·refine aD (Z7 _ (aA fun _ Z8=>aI (aA fun _ Z9=>?_)));obtain⟨hu1,hu2,hu3,hu4⟩:=hus i (by assumption);refine cN [1,16,17,18,19] ?_;refine Z9 _ (bB [1,3,4,16,17,18,19] ?_);refine aA fun _ Z11=>aA fun _ Z12=>jF [1,3,4,5,16,17,18,19] [] ?_;refine Z12 _ (aO (fun c2=>?_) fun c2=>?_)
  ·exact absurd (huo i aV aV) (by unfold unA;omega)
  refine aD (Z11 _ (aA fun _ Z13=>eZ [1,4,5,16,17,18,19] ?_));refine pV (zT _ (w.xAm.getD i default).xAx.xAt) ?_;refine bLa (fun g0=>aBr _ w.xAi (w.xAm.getD i default).xAw hg.ly hes hu4) ?_;refine Z13 _ (aO (fun c3=>?_) fun c3=>?_)
  ·unfold unA at hu1 hu2 hu3;omega
  refine aD (Z8 _ (cN [1,16,17,18,19] ?_));refine Z5 _ _ bD ⟨i+1,rfl,bD,?_⟩;exact eX
 refine bA (Z3 _ (bB [] ?_));refine aL (mA 2 ?_);exact xdh
theorem aNc (O:aN) (w:cE) (hg:GdW w):aZ Tryz.prog O 27 [.agg (eQ w)] (vb true):=by
 have htl:=hg.tl;have hsl:=hg.sl;have hun:=hg.un;refine eV Tryz.func27 ?_;refine aB [0] ?_;refine aB [1] ?_;refine aA fun _ Z2=>aB [1,3] ?_;refine aO (fun c0=>?_) fun c0=>?_
 ·exact absurd c0 (by simp[htl,hsl])
 refine aD (Z2 _ (aA fun _ Z4=>aB [1,3] ?_));refine aI (aX [1,3,26,27,28] (fun n ρ=> ∃i,n=w.xAm.length-i∧(i≤w.xAm.length)∧ρ=dU O [(1,.bx (eQ w)),(3,.bx (rB w.xBi)),(26,m4 w.xAm),(27,vi (w.xAm.length:Nat)),(28,vi (i:Nat))]) _ ⟨0,rfl,?_,?_⟩ ?_)
 ·exact bD
 ·exact dT
 rintro n ρ ⟨i,rfl,l0_0,rfl⟩ _ Z6;refine aB [1,3,25,26,27,28] ?_;refine aA fun _ Z8=>aO (fun c1=>?_) fun c1=>?_
 ·refine aD (Z8 _ (aA fun _ Z9=>aI (aA fun _ Z10=>?_)));have hti:=hg.ti i (by assumption);have hsi:=hg.si i (by assumption);unfold unA at hti hsi;refine bE [1,3,25,26,27,28] ?_;refine Z10 _ (aB [1,3,4,5,25,26,27,28] ?_);refine aB [1,3,4,6,25,26,27,28] ?_;refine aO (fun c2=>?_) fun c2=>?_
  ·omega
  refine aD (Z9 _ (bE [1,3,25,26,27,28] ?_));refine Z6 _ _ bD ⟨i+1,rfl,bD,dT⟩
 refine bA (Z4 _ (aB [] ?_));refine aL (dN 2 ?_);exact xd
theorem aGb (O:aN) (w:cE) (hg:GdW w):aZ Tryz.prog O 29 [.agg (eQ w)] (vb true):=by
 have hpl:=hg.pl;have hpi:=hg.pi;have hnw:=hg.nw;have hsx:=cP hpi hnw;have ho:=aOj hg.tr;have hn4:=ho.n;refine eV Tryz.func29 ?_;refine bB [0] ?_;refine aA fun _ Z1=>aA fun _ Z2=>eZ [1] ?_;refine pV (aCe _ w.xCd w.xCk.xBr ho hg.st) ?_;refine Z2 _ (bB [1,4] ?_);refine aO (fun c0=>?_) fun c0=>?_
 ·exact absurd c0 dH
 refine aD (Z1 _ (aA fun _ Z4=>bB [1] ?_));refine aO (fun c1=>?_) fun c1=>?_
 ·exact absurd c1 (by simp[hpl])
 refine aD (Z4 _ (aA fun _ Z6=>bB [1] ?_));refine aI (aX [1,26,27,28] (fun n ρ=> ∃i,n=w.xBy.length-i∧(i≤w.xBy.length)∧ρ=dU O [(1,.bx (eQ w)),(26,d5 w.xBy),(27,vi (w.xBy.length:Nat)),(28,vi (i:Nat))]) _ ⟨0,rfl,?_,?_⟩ ?_)
 ·exact bD
 ·exact eX
 rintro n ρ ⟨i,rfl,l0_0,rfl⟩ _ Z8;refine bB [1,25,26,27,28] ?_;refine aA fun _ Z10=>aO (fun c2=>?_) fun c2=>?_
 ·refine aD (Z10 _ (aA fun _ Z11=>aI (bB [1,25,26,27,28] ?_)));refine bB [1,6,25,26,27,28] ?_;refine aO (fun c3=>?_) fun c3=>?_
  ·exact absurd c3 dH
  refine aD (Z11 _ (cN [1,25,26,27,28] ?_));refine Z8 _ _ bD ⟨i+1,rfl,bD,?_⟩;exact eX
 refine bA (Z6 _ (bB [1] ?_));refine aL (mA 2 ?_);exact xdh
theorem zL (O:aN) (w:cE) (hg:GdW w):aZ Tryz.prog O 7 [.agg (eQ w)] (vi 0):=by
 have hck:=hg.ck;have her:=hg.er;have htb:=hg.tb;have htr:=hg.tr;refine eV Tryz.func7 ?_;refine aB [0] ?_;refine aA fun _ Z1=>aA fun _ Z2=>bN [1] ?_;refine f9 (oW _ w.xAi hg.ly) ?_;refine Z2 _ (aB [1,3] ?_);refine aO (fun c0=>?_) fun c0=>?_
 ·exact absurd c0 (by simp[hck])
 refine aD (Z1 _ (aA fun _ Z4=>bN [1] ?_));refine f9 (zU _ w.xAi hg.ly) ?_;refine Z4 _ (aA fun _ Z5=>aA fun _ Z6=>bN [1,4,5] ?_);refine rO (fun g0=>aPe _ (u5 w.xAi) w.xAz) ?_;refine Z6 _ (aO (fun c1=>?_) fun c1=>?_)
 ·exact absurd c1 (by simp[her,htb,bAy])
 refine aD (Z5 _ (aA fun _ Z7=>aA fun _ Z8=>bN [1] ?_));refine f9 (aGa _ w hg) ?_;refine Z8 _ (aO (fun c2=>?_) fun c2=>?_)
 ·exact absurd c2 dH
 refine aD (Z7 _ (aA fun _ Z9=>aA fun _ Z10=>bN [1] ?_));refine f9 (aJa _ w hg) ?_;refine rO (fun g1=>aNc _ w hg) ?_;refine Z10 _ (aO (fun c3=>?_) fun c3=>?_)
 ·exact absurd c3 dH
 refine aD (Z9 _ (aA fun _ Z11=>aA fun _ Z12=>bN [1] ?_));refine f9 (oY _ w.xAz w.xCd) ?_;refine Z12 _ (aB [1,6] ?_);refine aO (fun c4=>?_) fun c4=>?_
 ·exact absurd c4 (by simp[htr])
 refine aD (Z11 _ (aA fun _ Z14=>aA fun _ Z15=>bN [1] ?_));refine f9 (aGb _ w hg) ?_;refine Z15 _ (aO (fun c5=>?_) fun c5=>?_)
 ·exact absurd c5 dH
 refine aD (Z14 _ (aB [] ?_));refine aL (dN 2 ?_);exact dX.is (by ((try simp only[go_sem,seval]);try simp (disch:=omega) only[go_sem,seval])<;>(exact bD)) rfl rfl
attribute [go_sem] uJ
def cJq (l:aC):Bool:=decide (l.xAh.length≤40)&&decide (l.xAd.length≤80)&&decide (l.xAa.length≤30)&&decide (l.xAu.length≤40)&&decide (l.xAe.length≤40)
theorem aKs (O:aN) (l:aC):aZ Tryz.prog O 11 [.agg (aQ l)] (vb (cJq l)):=by
 refine eV Tryz.func11 ?_;refine aB [0] ?_;refine aB [1] ?_;refine aL (dN 2 ?_);exact xd
def pC (l:aC) (q:List bJ):List Int:=(q.map fun s=>fD l s.fEl).filter fun x=>decide (0≤x)
theorem cKa {l:aC} {q:List bJ} {i:Nat} (h:i<q.length) (h1:0≤fD l (q.getD i default).fEl):pC l (q.take (i+1))=pC l (q.take i)++[fD l (q.getD i default).fEl]:=by
 rw[kX default h];unfold pC;rw[eM,yN,kH,sI,zW,if_pos (dF h1)];rfl
theorem cFr {l:aC} {q:List bJ} {i:Nat} (h:i<q.length) (h1: ¬0≤fD l (q.getD i default).fEl):pC l (q.take (i+1))=pC l (q.take i):=by
 rw[kX default h];unfold pC;rw[eM,yN,kH,sI,zW,if_neg (by simpa only[dR] using h1)];simp
theorem bBp (l:aC) (q:List bJ) (i:Nat):(pC l (q.take i)).length≤i:=by
 unfold pC;refine eL (aHv _ _) ?_;rw[cJ,iO];omega
theorem bUn {q:List Int} {x y:Int}:y∈aRu q x↔y∈q∨y=x:=by
 unfold aRu;split
 ·rename_i h;constructor
  ·exact .inl
  rintro (h1|h1)
  ·exact h1
  rw[h1];exact h
 simp
theorem aVy (l:aC) (x:Int) (hx:0≤x): ∀(q:List bJ) (a:List Int),x∈q.foldl (qZ l) a↔x∈a∨x∈pC l q
 | [],a=>by simp[pC]
 |s::q,a=>by
  rw[aNh,aVy l x hx q];have e:x∈pC l (s::q)↔x=fD l s.fEl∨x∈pC l q:=by
   unfold pC;rw[kH,zW];split
   ·simp
   rename_i h;simp only[dR] at h;constructor
   ·exact .inr
   rintro (h1|h1)
   ·omega
   exact h1
  rw[e];unfold qZ;split
  ·rename_i h;have h2:fD l s.fEl=(lI l s.fEl.toNat).xBb:=by unfold fD;rw[if_pos (mG.1 h)]
   rw[bUn,h2];constructor
   ·rintro ((h|h)|h)
    ·exact .inl h
    ·exact .inr (.inl h)
    exact .inr (.inr h)
   rintro (h|h|h)
   ·exact .inl (.inl h)
   ·exact .inl (.inr h)
   exact .inr h
  rename_i h;have h2:fD l s.fEl= -1:=by unfold fD;rw[if_neg (fun h3=>h (mG.2 h3))]
  constructor
  ·rintro (h|h)
   ·exact .inl h
   exact .inr (.inr h)
  rintro (h|h|h)
  ·exact .inl h
  ·omega
  exact .inr h
theorem aSj (ts:List cT) (bs:List eF) {n i:Nat} (h:i<n):(rJ ts bs n).getD i default=aYk (ts.getD i default) (bs.getD i default):=by
 unfold rJ;rw[cA,dG,p9 h];rfl
theorem bGz (l:aC) (ts:List cT) (bs:List eF) {n i:Nat} (h:i<n):(t8 l ts bs n).getD i default=aCp l (ts.getD i default) (bs.getD i default):=by
 unfold t8;rw[cA,dG,p9 h];rfl
theorem bZh (ts:List cT) {n i:Nat} (h:i<n):(sM ts n).getD i default=bIh (idN ts i):=by
 unfold sM;rw[cA,dG,p9 h];rfl
theorem bGh {e:fH}: ∀{q:List mS} {n:Nat} {k:Int},aGw q e n=k→0≤k→ ∃j:Nat,k=((n+j:Nat):Int)∧j<q.length∧(q.getD j default).fAt=e
 | [],n,k,h,h0=>by unfold aGw at h;omega
 |s::q,n,k,h,h0=>by
  unfold aGw at h;split at h
  ·rename_i hs;exact⟨0,by rw[← h];rfl,by simp,hs⟩
  obtain⟨j,h1,h2,h3⟩:=bGh h h0;exact⟨j+1,by rw[h1];omega,by rw[qH];omega,h3⟩
theorem cGd {l:aC} {e:fH} (h:0≤lX l e):lX l e<(l.xAa.length:Int)∧(l.xAa.getD (lX l e).toNat default).fAt=e:=by
 obtain⟨j,h1,h2,h3⟩:=bGh (q:=l.xAa) (e:=e) (n:=0) rfl h;have h1:lX l e=((0+j:Nat):Int):=h1;rw[gH] at h1;rw[h1];exact⟨by omega,by rw[yG];exact h3⟩
structure cLk (l:aC) (ts:List cT) (bs:List eF) (tr:List bR) (best:Dr):Prop where
 her:aAu l=0
 hrc:qY l ts bs=0
 hc:lV (u5 l) tr=0
 hf:nD tr (csF (u5 l) tr) best
theorem cUd {l:aC} {ts:List cT} {bs:List eF} {tr:List bR} {best:Dr} (h:vZ l ts bs tr=0) (hf:nD tr (csF (u5 l) tr) best):cLk l ts bs tr best:=by
 unfold vZ at h;split at h
 ·rename_i h1;exact absurd h h1
 rename_i h1;split at h
 ·rename_i h2;exact absurd h h2
 rename_i h2;have h2:sQ l ts bs=0:=by omega
 refine⟨by omega,?_,h,hf⟩;unfold sQ at h2;split at h2
 ·rename_i h3;exact absurd h2 h3
 omega
section
variable {l:aC} {ts:List cT} {bs:List eF} {tr:List bR} {best:Dr} (hl:gO l) (hq: ∀i,i<bs.length→(bs.getD i default).xAc.length≤100) (H:cLk l ts bs tr best)
include hl hq H
theorem bOy:GdW (aOy l ts bs tr best):=by
 obtain⟨hbt,hn,hbi⟩:=aWr H.hrc;have hck:=aAl H.her;have hU: ∀i,i<ts.length→unA (aOy l ts bs tr best) i=aYk (ts.getD i default) (bs.getD i default):=fun i hi=>aSj ts bs hi;have hul:(aOy l ts bs tr best).xAm.length=ts.length:=bCx ts bs _;have hst:=bZb H.hc H.hf
 exact {
  ly:=hl,ck:=hck,er:=H.her,tb:=rfl,il:=cHc (u5 l),
  ml:=by show (bAg (u5 l)).length=_;simp[bAg];rfl,
  mi:=fun i hi=>aCx mc1 _ (by have h9:i<(bAg (u5 l)).length:=hi;simpa[bAg] using h9),
  cl:=by show ((List.replicate l.xAa.length false).length:Int)=(u5 l).xAa;rw[List.length_replicate,aRk H.her],
  un:=by rw[hul];exact hn,
  uo:=fun i h0 hi=>by
   rw[hul] at hi;rw[hU i hi,hU (i-1) aV];have h9:=dK (aMz (cJr H.hrc).2.1 hi);rcases h9 with h9|h9
   ·omega
   exact h9,
  us:=fun i hi=>by
   rw[hul] at hi;rw[hU i hi];obtain⟨q1,q2,q3,_,_⟩:=cIw (hbi i hi);exact⟨q1,q2,q3,hq i aV⟩,
  tl:=by rw[hul];exact aZt l ts bs _,sl:=by rw[hul];exact bMg ts _,
  ti:=fun i hi=>by rw[hul] at hi;rw[hU i hi];exact congrArg aNy.fId (bGz l ts bs hi),
  si:=fun i hi=>by rw[hul] at hi;rw[hU i hi];exact congrArg rC.xCl (bZh ts hi),
  tr:=H.hc,st:=hst,
  pl:=by show (List.replicate tr.length (0:Int)).length=tr.length;rw[List.length_replicate],
  pi:=fun i hi=>aCx _ _ (by have h9:i<(List.replicate tr.length (0:Int)).length:=hi;rwa [List.length_replicate] at h9),
  nw:=rfl}
theorem cSc {i:Nat} (hi:i<ts.length):(bs.getD i default).xAc≠[]∧(aCp l (ts.getD i default) (bs.getD i default)).xAg=[]∧0≤(aCp l (ts.getD i default) (bs.getD i default)).xCf∧(aCp l (ts.getD i default) (bs.getD i default)).xCf<(l.xAa.length:Int)∧
  (l.xAa.getD (aCp l (ts.getD i default) (bs.getD i default)).xCf.toNat default).fAt=⟨(kU (bs.getD i default)).fEl,(kU (bs.getD i default)).xAv⟩∧(0≤(kU (bs.getD i default)).fEl∧(kU (bs.getD i default)).fEl<(l.xAh.length:Int))∧
  (aCp l (ts.getD i default) (bs.getD i default)).fAt=(l.xAh.getD (kU (bs.getD i default)).fEl.toNat default).xAn-(bs.getD i default).xBc∧(0<(bs.getD i default).xBc∧(bs.getD i default).xBc≤(l.xAh.getD (kU (bs.getD i default)).fEl.toNat default).xAn)∧(l.xAh.getD (kU (bs.getD i default)).fEl.toNat default).xAn≤1000000:=by
 obtain⟨hbt,hn,hbi⟩:=aWr H.hrc;have hes:=(qR (aAl H.her)).2.1;obtain⟨q1,q2,q3,q4,q5⟩:=cIw (hbi i hi);obtain⟨v1,v2,v3,v4,v5⟩:=bDf hes q2;obtain⟨e1,e2,e3⟩:=bDb hes v1 (i:=(bs.getD i default).xAc.length-1) aV;obtain⟨s1,s2⟩:=cGd q5;have hlw:mI l [kU (bs.getD i default)]=(l.xAh.getD (kU (bs.getD i default)).fEl.toNat default).xAn:=by
  unfold mI;rw[kH,sI,if_pos (mG.2 e1)];simp[lI]
 have e3:(l.xAh.getD (kU (bs.getD i default)).fEl.toNat default).xAn≤1000000:=e3;have v5:(bs.getD i default).xBc≤(l.xAh.getD (kU (bs.getD i default)).fEl.toNat default).xAn:=v5;exact⟨fun h=>by rw[h] at q4;simp at q4,rfl,q5,s1,s2,e1,by show mI l [kU _]-_=_;rw[hlw],⟨by omega,by omega⟩,e3⟩
theorem cCv {i j:Nat} (hi:i<ts.length) (hj:j<i):xE (mkR (pC l (bs.getD i default).xAc)) (mkR (pC l (bs.getD j default).xAc)) true=[]:=by
 obtain⟨hbt,_,_⟩:=aWr H.hrc;have hn:=(cJr H.hrc).2.2.2;have hd: ∀x,x∈iA l (bs.getD j default)→x∉iA l (bs.getD i default):=fun x h1 h2=>by
  have h9:=hn.sublist (bEl (l:=l) (i:=i) (j:=(iA l (bs.getD i default)).length) aV);rw[iL,nO] at h9;have h8:x∈o6 l (bs.take i):=by
   unfold o6;refine y1.2 ⟨bs.getD j default,?_,h1⟩;rw[List.mem_take_iff_getElem];exact⟨j,by omega,by rw[cA,cH aV];rfl⟩
  exact h9.2.2 x h8 x h2 rfl
 have hin: ∀(b:eF) (x:Int),x∈mkR (pC l b.xAc)→x∈iA l b:=fun b x h=>by
  rw[aTd] at h;have h0:0≤x:=by unfold pC at h;exact dK (aIn.1 h).2
  unfold iA;exact List.mem_mergeSort.2 ((aVy l x h0 b.xAc []).2 (.inr h))
 have key: ∀(a b acc:List Int),(∀x∈a,x∉b)→a.foldl (fun acc x=>if b.contains x==true then aBm acc x else acc) acc=acc:=fun a b=>by
  induction a with
  |nil=>intro acc _;rfl
  |cons y a ih=>
   intro acc h;rw[aNh,if_neg (by have:=h y dH;simpa using this)];exact ih acc fun x hx=>h x (by simp[hx])
 exact key _ _ _ fun x h1 h2=>hd x (hin _ _ h2) (hin _ _ h1)
end
theorem uG (O:aN) (l:aC) (b:eF) (hq:b.xAc.length≤100):aZ Tryz.prog O 10 [.agg (aQ l),.agg (jL b)] (d5 (mkR (pC l b.xAc))):=by
 refine eV Tryz.func10 ?_;refine aB [0,1] ?_;refine aB [2,3] ?_;refine aA fun _ Z2=>aB [2,3,5] ?_;refine aI (l4 5 3 1 eI rfl rfl ?_);refine aX [2,3,5,6] (fun n ρ=> ∃i,n=b.xAc.length-i∧(i≤b.xAc.length)∧ρ=dU O [(2,.bx (aQ l)),(3,.bx (jL b)),(5,aUu (pC l (b.xAc.take i))),(6,vi (i:Nat))]) _ ⟨0,rfl,?_,?_⟩ ?_
 ·exact bD
 ·exact dT
 rintro n ρ ⟨i,rfl,l0_0,rfl⟩ _ Z4;have hrl:=bBp l b.xAc i;refine aA fun _ Z5=>aB [2,3,5,6] ?_;refine aO (fun c0=>?_) fun c0=>?_
 ·refine aD (Z5 _ (aA fun _ Z7=>aI (aA fun _ Z8=>gJ [2,3,5,6] [] ?_)));refine cdz (aGv _ l (b.xAc.getD i default).fEl) ?_;refine Z8 _ (aB [2,3,5,6,7] ?_);refine aO (fun c1=>?_) fun c1=>?_
  ·refine bE [2,3,5,6,7] ?_;refine Z7 _ (bE [2,3,5,6] ?_);refine Z4 _ _ bD ⟨i+1,rfl,bD,?_⟩;((try simp only[go_sem,seval]);try simp (disch:=omega) only[go_sem,seval])<;>(rw[cKa c0 aV,eM];rfl)
  refine aD (Z7 _ (bE [2,3,5,6] ?_));refine Z4 _ _ bD ⟨i+1,rfl,bD,?_⟩;((try simp only[go_sem,seval]);try simp (disch:=omega) only[go_sem,seval])<;>(rw[cFr c0 aV];rfl)
 refine bA (Z2 _ (aA fun _ Z10=>iS 5 _ rfl rfl ?_));rw[jD (show b.xAc.length≤i by omega)];have hrl2:=bBp l b.xAc b.xAc.length;rw[iL] at hrl2;refine bN [5] ?_;refine f9 (aOp _ (pC l b.xAc) aV) ?_;refine Z10 _ (aL (dN 4 ?_));exact dX.encL rfl (by rfl)
theorem cLt {l:aC} (h:aDz l): ∀n∈d9 l,∀x∈n,x.size≤140737488355328:=by
 obtain⟨h1,⟨h2,_⟩,⟨h3,_⟩,_,⟨h4,_⟩,_⟩:=h;intro n hn x hx;simp only[d9,gN,aHu,or_false] at hn;rcases hn with rfl|rfl|rfl|rfl
 ·rw[lH] at hx;subst hx;exact h1
 ·exact h2 x hx
 ·obtain⟨e,he,rfl⟩:=dZ.1 hx;exact (h3 e he).1
 obtain⟨e,he,rfl⟩:=dZ.1 hx;exact (h4 e he).1
def bGw (b:eF):Bool:=decide (b.xAc.length≤100)
def sp3 (t:bR):Bool:=decide (t.xAb.length≤3)
def bJr (l:aC) (ts:List cT) (bs:List eF) (tr:List bR):Bool:=bs.all bGw&&(tr.all sp3&&(((cJq l&&decide (ts.length≤10))&&decide (bs.length≤10))&&decide (tr.length≤3)))
theorem cBy {l:aC} {ts:List cT} {bs:List eF} {tr:List bR} {r:DV} (h:cSp l ts bs tr r): ∃w e,r=.tup [.agg (eQ w),vi e]∧(e≠0→w=default)∧(e=0→ ∃best,cLk l ts bs tr best∧w=aOy l ts bs tr best):=by
 rcases h with ⟨h1,rfl⟩|⟨h1,best,hf,rfl⟩
 ·exact⟨default,_,rfl,fun _=>rfl,fun h=>absurd h h1⟩
 exact⟨aOy l ts bs tr best,0,rfl,fun h=>absurd rfl h,fun _=>⟨best,cUd h1 hf,rfl⟩⟩
theorem cJy {l:aC} {ts:List cT} {bs:List eF} {tr:List bR} (hk:aDz l) (h:bJr l ts bs tr=true):gO l∧ts.length≤10∧bs.length≤10∧ ∀i,i<bs.length→(bs.getD i default).xAc.length≤100:=by
 unfold bJr cJq at h;simp only[cD,dR] at h;obtain⟨h1,h2,⟨⟨⟨⟨⟨⟨h3,h4⟩,h5⟩,h6⟩,h7⟩,h8⟩,h9⟩,h10⟩:=h;exact⟨⟨by omega,by omega,by omega,by omega,by omega,cLt hk⟩,h8,h9,fun i hi=>dK (rY (f:=bGw) h1 hi)⟩
theorem aPc (O:aN) (t:dC) (s:aIf) (hs:bPr t s):aZ Tryz.prog O 8 [.agg (o9 s)] (vb true):=by
 obtain⟨hsr,hsl,hsx,hli⟩:=id hs;refine bG 0 rfl (.agg (d:=aPv s.xAg) (by simp[o9]) (.sl _ _ _)) fun hr9=>?_;refine eV Tryz.func8 ?_;refine bB [0] ?_;refine aA fun _ Z1=>bB [1] ?_;refine aI (aX [1,3] (fun n ρ=> ∃i,n=s.xAg.length-i∧(i≤s.xAg.length)∧ρ=dU O [(1,.bx (o9 s)),(3,vi (i:Nat))]) _ ⟨0,rfl,?_,?_⟩ ?_)
 ·exact bD
 ·exact eX
 rintro n ρ ⟨i,rfl,l0_0,rfl⟩ _ Z3;refine aA fun _ Z4=>bB [1,3] ?_;refine aO (fun c0=>?_) fun c0=>?_
 ·refine aD (Z4 _ (aA fun _ Z6=>aI (bB [1,3] ?_)));refine aO (fun c1=>?_) fun c1=>?_
  ·exact absurd c1 (by simp[rs0])
  refine aD (Z6 _ (cN [1,3] ?_));refine Z3 _ _ bD ⟨i+1,rfl,bD,?_⟩;exact eX
 refine bA (Z1 _ (bB [] ?_));refine aL (mA 2 ?_);exact xdh
theorem aSo (O:aN) (l:aC) (ts:List cT) (bs:List eF) (tr:List bR):aZ Tryz.prog O 4 [.agg (aQ l),lA ts,jZ bs,cL tr] (vb (bJr l ts bs tr)):=by
 refine bG 2 rfl (.sl _ _ _) fun hb9=>?_;refine bG 3 rfl (.sl _ _ _) fun ht9=>?_;refine eV Tryz.func4 ?_;refine aB [0,1,2,3] ?_;refine aA fun _ Z1=>aB [1,2,3,4] ?_;refine aI (aX [1,2,3,4,12,13] (fun n ρ=> ∃i,n=bs.length-i∧(i≤bs.length)∧(m0 bGw bs i)∧ρ=dU O [(1,lA ts),(2,jZ bs),(3,cL tr),(4,.bx (aQ l)),(12,vi (bs.length:Nat)),(13,vi (i:Nat))]) _ ⟨0,rfl,?_,?_,?_⟩ ?_)
 ·exact bD
 ·exact i8 _ _
 ·exact dT
 rintro n ρ ⟨i,rfl,l0_0,l0_1,rfl⟩ _ Z3;refine aB [1,2,3,4,12,13] ?_;refine aA fun _ Z5=>aO (fun c0=>?_) fun c0=>?_
 ·refine aD (Z5 _ (aA fun _ Z6=>aI (aB [1,2,3,4,12,13] ?_)));refine aB [1,2,3,4,9,12,13] ?_;refine aO (fun c1=>?_) fun c1=>?_
  ·refine aB [] ?_;refine aL (dN 8 (xb ?_))
   ((rw[bJr,nK (f:=bGw) c0 (e9 aV),aYa]))
  refine aD (Z6 _ (bE [1,2,3,4,12,13] ?_));refine Z3 _ _ bD ⟨i+1,rfl,bD,?_,dT⟩
  ·exact jA l0_1 (dF aV)
 refine bA (Z1 _ (aA fun _ Z10=>aB [1,2,3,4] ?_));refine aI ?_;have hA:=pF l0_1 aV;refine aX [1,2,3,4,25,26] (fun n ρ=> ∃i,n=tr.length-i∧(i≤tr.length)∧(m0 sp3 tr i)∧ρ=dU O [(1,lA ts),(2,jZ bs),(3,cL tr),(4,.bx (aQ l)),(25,vi (tr.length:Nat)),(26,vi (i:Nat))]) _ ⟨0,rfl,?_,?_,?_⟩ ?_
 ·exact bD
 ·exact i8 _ _
 ·exact dT
 rintro n ρ ⟨i,rfl,l1_0,l1_1,rfl⟩ _ Z12;refine aB [1,2,3,4,25,26] ?_;refine aA fun _ Z14=>aO (fun c2=>?_) fun c2=>?_
 ·refine aD (Z14 _ (aA fun _ Z15=>aI (aB [1,2,3,4,25,26] ?_)));refine aB [1,2,3,4,10,25,26] ?_;refine aO (fun c3=>?_) fun c3=>?_
  ·refine aB [] ?_;refine aL (dN 8 (xb ?_))
   ((rw[bJr,nK (f:=sp3) c2 (e9 aV),aYa,aBt]))
  refine aD (Z15 _ (bE [1,2,3,4,25,26] ?_));refine Z12 _ _ bD ⟨i+1,rfl,bD,?_,dT⟩
  ·exact jA l1_1 (dF aV)
 refine bA (Z10 _ (aA fun _ Z19=>?_));have hB:=pF l1_1 aV;refine bN [1,2,3,4] ?_;refine f9 (aKs _ l) ?_;refine Z19 _ (aL (dN 8 (xb ?_)))
 ((rw[bJr,hA,hB,zG,zG]))
set_option maxRecDepth 20000 in
theorem yQ (O:aN) (l:aC) (ts:List cT) (bs:List eF) (tr:List bR) (hk:aDz l) (hal: ∀O,aZ Tryz.prog O 5 [] (vb true)):aZ Tryz.prog O 3 [.agg (aQ l),lA ts,jZ bs,cL tr] (vb true):=by
 have hsx: ∀n:Nat,((n:Int)-1).toNat=n-1:=fun n=>by omega
 have hms: ∀q:List bJ,(mkR (pC l q)).length≤q.length:=fun q=>eL (bGb _) (by have:=bBp l q q.length;rwa [iL] at this);refine eV Tryz.func3 ?_;refine bB [0,1,2,3] ?_;refine aA fun _ Z1=>aA fun _ Z2=>eZ [1,2,3,4] ?_;refine pV (aSo _ l ts bs tr) ?_;refine Z2 _ (aO (fun c0=>?_) fun c0=>?_)
 ·refine aA fun _ Z3=>eZ [] ?_;refine pV (hal _) ?_;refine Z3 _ (aL (mA 8 ?_));exact xdh
 refine aD (Z1 _ (aA fun _ Z4=>?_));obtain⟨hl,ht,hb,hq⟩:=cJy (l:=l) (ts:=ts) (bs:=bs) (tr:=tr) hk (by simpa using c0);refine eZ [1,2,3,4] ?_;refine kA (wZ _ l ts bs tr hl ht hb hq) ?_;rintro O2 r2 ⟨rfl,hN⟩;obtain⟨w,e,rfl,hw1,hw2⟩:=cBy hN;refine gE ?_;refine Z4 _ (aA fun _ Z5=>bB [1,2,4,9,10] ?_);refine aO (fun c1=>?_) fun c1=>?_
 ·obtain rfl:=hw1 (by simpa using c1);refine aA fun _ Z7=>eZ [9] ?_;refine bLa (fun g0=>hal _) ?_;refine Z7 _ (aL (mA 8 ?_));refine xbh ?_
  (first|rfl|(simp;rfl))
 obtain⟨best,HF,hwe⟩:=hw2 (by simpa using c1);have hg:GdW w:=(by rw[hwe];exact bOy hl hq HF);obtain⟨hbt,hn,hbi⟩:=aWr HF.hrc;have hul:w.xAm.length=ts.length:=(by rw[hwe];exact bCx ts bs _);have htl:w.xBi.xBm.length=ts.length:=(by rw[hwe];exact aZt l ts bs _);refine aD (Z5 _ (aA fun _ Z8=>aA fun _ Z9=>eZ [1,2,4,9] ?_));refine pV (zL _ w hg) ?_;refine bLa (fun g1=>aPc _ _ w.xCh hg.il) ?_;refine Z9 _ (aO (fun c2=>?_) fun c2=>?_)
 ·exact absurd c2 (by simp[hul,htl,hbt])
 refine aD (Z8 _ (aA fun _ Z10=>bB [4,9] ?_));refine aI (aX [4,9,75,76] (fun n ρ=> ∃i,n=w.xAm.length-i∧(i≤w.xAm.length)∧ρ=dU O [(4,.bx (aQ l)),(9,.bx (eQ w)),(75,vi (w.xAm.length:Nat)),(76,vi (i:Nat))]) _ ⟨0,rfl,?_,?_⟩ ?_)
 ·exact bD
 ·exact eX
 rintro n ρ ⟨i,rfl,l0_0,rfl⟩ _ Z12;refine bB [4,9,75,76] ?_;refine aA fun _ Z14=>aO (fun c3=>?_) fun c3=>?_
 ·refine aD (Z14 _ (aA fun _ Z15=>aI (bB [4,9,75,76] ?_)));refine aA fun _ Z17=>cM (Le.keepC [4,9,11,75,76] _) ?_;refine aKa [4,9,11,75,76,79,80,81,82,83,84,85,86,87,88,89,90,12,13] [] [] [[],[0],[0,1],[],[0,1,2,3],[0,1,2,3,4],[],[6],[],[6,7,8],[6,7,8,9],[6,7,8,9,10],[],[],[0,1,2,3,4,5,12,13],[0,1,2,3,4,5,6,7,8,9,10,11,12,13,14]] [[14,15],[14,15],[14,15],[14,15],[14,15],[14,15],[15],[15],[15],[15],[15],[15],[14,15],[14,15],[15],[]] (fun bQ=>dU O [(4,.bx (aQ l)),(9,.bx (eQ w)),(11,vi (i:Nat)),(75,vi (w.xAm.length:Nat)),(76,vi (i:Nat)),(79,bC (bQ 0) (.bp 9 16)),(80,bC (bQ 1) (.bp 9 16)),(81,bC (bQ 2) (cDm w.xBi.xBm)),(82,bC (bQ 3) (vi (i:Nat))),(83,bC (bQ 4) (.dp (pX (w.xBi.xBm.getD i default)))),(84,bC (bQ 5) (.agg (pX (w.xBi.xBm.getD i default)))),(85,bC (bQ 6) (.bp 9 15)),(86,bC (bQ 7) (m4 w.xAm)),(87,bC (bQ 8) (vi (i:Nat))),(88,bC (bQ 9) (.dp (qE (w.xAm.getD i default)))),(89,bC (bQ 10) (.dp (qE (w.xAm.getD i default)))),(90,bC (bQ 11) (.agg (jL (w.xAm.getD i default).xAw))),(12,rP (bQ 14) (bQ 12) (.bx (pX (w.xBi.xBm.getD i default))) (.bx tkZ)),(13,rP (bQ 15) (bQ 13) (.bx (jL (w.xAm.getD i default).xAw)) (.bx [.v (.slice none 0 0),vi 0,vi 0]))]) kR bF bF ?_ (fun iQ oQ hoQ bQ hbQ KQ hKQ=>?_) ?_
  ·exact aDd
  ·have hiQ:iQ<16:=(oJ.1 hoQ).1;rcases (by omega:iQ=0∨iQ=1∨iQ=2∨iQ=3∨iQ=4∨iQ=5∨iQ=6∨iQ=7∨iQ=8∨iQ=9∨iQ=10∨iQ=11∨iQ=12∨iQ=13∨iQ=14∨iQ=15) with rfl|rfl|rfl|rfl|rfl|rfl|rfl|rfl|rfl|rfl|rfl|rfl|rfl|rfl|rfl|rfl
   ·exact o0 hoQ hbQ hKQ
   ·exact o0 hoQ hbQ hKQ
   ·exact o0 hoQ hbQ hKQ
   ·exact o0 hoQ hbQ hKQ
   ·exact o0 hoQ hbQ hKQ
   ·exact o0 hoQ hbQ hKQ
   ·exact o0 hoQ hbQ hKQ
   ·exact o0 hoQ hbQ hKQ
   ·exact o0 hoQ hbQ hKQ
   ·exact o0 hoQ hbQ hKQ
   ·exact o0 hoQ hbQ hKQ
   ·exact o0 hoQ hbQ hKQ
   ·exact o0 hoQ hbQ hKQ
   ·exact o0 hoQ hbQ hKQ
   ·exact o0 hoQ hbQ hKQ
   exact o0 hoQ hbQ hKQ
  refine gE ?_;refine Z17 _ (aA fun _ Z18=>aA fun _ Z19=>?_);have hii:i<ts.length:=aV;have hTi:(w.xBi.xBm.getD i default)=aCp l (ts.getD i default) (bs.getD i default):=(by rw[hwe];exact bGz l ts bs hii);have hUb:(w.xAm.getD i default).xAw=bs.getD i default:=(by rw[hwe];exact congrArg iR.xAw (aSj ts bs hii));obtain⟨n1,n2,n3,n4,n5,n6,n7,n8,n9⟩:=cSc hl hq HF hii;have hqi:=hq i aV;rw[← hTi] at n2 n3 n4 n5 n7;rw[← hUb] at n1 n5 n6 n7 n8 n9 hqi;have n1:0<(w.xAm.getD i default).xAw.xAc.length:=List.length_pos_iff.2 n1;have n2:(w.xBi.xBm.getD i default).xAg.length=0:=(by rw[n2];rfl);have q1:=congrArg fH.fEl n5;have q2:=congrArg fH.xAj n5;simp only[kU] at q1 q2 n6 n7 n8 n9;refine cN [4,9,11,12,13,75,76] ?_;refine Z19 _ (aO (fun c4=>?_) fun c4=>?_)
  ·omega
  refine aD (Z18 _ (bB [4,9,11,12,13,75,76] ?_));refine aA fun _ Z21=>aA fun _ Z22=>jF [4,9,11,12,13,14,75,76] [] ?_;refine Z22 _ (aO (fun c5=>?_) fun c5=>?_)
  ·omega
  refine aD (Z21 _ (bB [4,9,11,13,75,76] ?_));refine aI (aX [4,9,75,76,11,13,15] (fun n ρ=> ∃j,n=i-j∧(j≤i)∧ρ=dU O [(4,.bx (aQ l)),(9,.bx (eQ w)),(75,vi (w.xAm.length:Nat)),(76,vi (i:Nat)),(11,vi (i:Nat)),(13,.bx (jL (w.xAm.getD i default).xAw)),(15,vi (j:Nat))]) _ ⟨0,rfl,?_,?_⟩ ?_)
  ·exact bD
  ·exact eX
  rintro n ρ ⟨j,rfl,l1_0,rfl⟩ _ Z24;refine aA fun _ Z25=>bB [4,9,11,13,15,75,76] ?_;refine aO (fun c6=>?_) fun c6=>?_
  ·refine aD (Z25 _ (aA fun _ Z27=>aI (aA fun _ Z28=>?_)));have hjj:j<ts.length:=aV;have hUj:(w.xAm.getD j default).xAw=bs.getD j default:=(by rw[hwe];exact congrArg iR.xAw (aSj ts bs hjj));have hqj:=hq j aV;rw[← hUj] at hqj;have hm1:=hms (w.xAm.getD i default).xAw.xAc;have hm2:=hms (w.xAm.getD j default).xAw.xAc;refine cM (Le.keepC [4,9,11,13,15,75,76] _) ?_;refine aKa [4,9,11,13,15,75,76,155,156,157,158,159,160,161,162,163,164,165,166,167,168] [] [] [[],[],[0,1],[],[],[4],[],[4,5,6],[4,5,6,7],[4,5,6,7,8],[0,1,2,3,4,5,6,7,8,9],[0,1,2,3,4,5,6,7,8,9,10],[0,1,2,3,4,5,6,7,8,9,10,11],[0,1,2,3,4,5,6,7,8,9,10,11,12]] [[],[],[],[],[],[],[],[],[],[],[],[],[],[]] (fun bQ=>dU O [(4,.bx (aQ l)),(9,.bx (eQ w)),(11,vi (i:Nat)),(13,.bx (jL (w.xAm.getD i default).xAw)),(15,vi (j:Nat)),(75,vi (w.xAm.length:Nat)),(76,vi (i:Nat)),(155,bC (bQ 0) (.agg (aQ l))),(156,bC (bQ 1) (.agg (jL (w.xAm.getD i default).xAw))),(157,bC (bQ 2) (d5 (mkR (pC l (w.xAm.getD i default).xAw.xAc)))),(158,bC (bQ 3) (.agg (aQ l))),(159,bC (bQ 4) (.bp 9 15)),(160,bC (bQ 5) (m4 w.xAm)),(161,bC (bQ 6) (vi (j:Nat))),(162,bC (bQ 7) (.dp (qE (w.xAm.getD j default)))),(163,bC (bQ 8) (.dp (qE (w.xAm.getD j default)))),(164,bC (bQ 9) (.agg (jL (w.xAm.getD j default).xAw))),(165,bC (bQ 10) (d5 (mkR (pC l (w.xAm.getD j default).xAw.xAc)))),(166,bC (bQ 11) (d5 (xE (mkR (pC l (w.xAm.getD i default).xAw.xAc)) (mkR (pC l (w.xAm.getD j default).xAw.xAc)) true))),(167,bC (bQ 12) (vi ((xE (mkR (pC l (w.xAm.getD i default).xAw.xAc)) (mkR (pC l (w.xAm.getD j default).xAw.xAc)) true).length:Nat))),(168,bC (bQ 13) (vb (decide ((0:Int)<((xE (mkR (pC l (w.xAm.getD i default).xAw.xAc)) (mkR (pC l (w.xAm.getD j default).xAw.xAc)) true).length:Nat)))))]) kR bF bF ?_ (fun iQ oQ hoQ bQ hbQ KQ hKQ=>?_) ?_
   ·exact aDd
   ·have hiQ:iQ<14:=(oJ.1 hoQ).1;rcases (by omega:iQ=0∨iQ=1∨iQ=2∨iQ=3∨iQ=4∨iQ=5∨iQ=6∨iQ=7∨iQ=8∨iQ=9∨iQ=10∨iQ=11∨iQ=12∨iQ=13) with rfl|rfl|rfl|rfl|rfl|rfl|rfl|rfl|rfl|rfl|rfl|rfl|rfl|rfl
    ·exact o0 hoQ hbQ hKQ
    ·exact o0 hoQ hbQ hKQ
    ·exact aWa hoQ hbQ hKQ (uG _ l (w.xAm.getD i default).xAw hqi)
    ·exact o0 hoQ hbQ hKQ
    ·exact o0 hoQ hbQ hKQ
    ·exact o0 hoQ hbQ hKQ
    ·exact o0 hoQ hbQ hKQ
    ·exact o0 hoQ hbQ hKQ
    ·exact o0 hoQ hbQ hKQ
    ·exact o0 hoQ hbQ hKQ
    ·exact aWa hoQ hbQ hKQ (uG _ l (w.xAm.getD j default).xAw hqj)
    ·exact aWa hoQ hbQ hKQ (aIv _ (mkR (pC l (w.xAm.getD i default).xAw.xAc)) (mkR (pC l (w.xAm.getD j default).xAw.xAc)) aV aV)
    ·exact o0 hoQ hbQ hKQ
    exact o0 hoQ hbQ hKQ
   refine gE ?_;refine Z28 _ (aO (fun c7=>?_) fun c7=>?_)
   ·have hd:=cCv hl hq HF hii (j:=j) aV;rw[← hUb,← hUj] at hd;rw[hd] at c7;simp at c7
   refine aD (Z27 _ (cN [4,9,11,13,15,75,76] ?_));refine Z24 _ _ bD ⟨j+1,rfl,bD,?_⟩;exact eX
  refine bA (Z15 _ (cN [4,9,75,76] ?_));refine Z12 _ _ bD ⟨i+1,rfl,bD,?_⟩;exact eX
 refine bA (Z10 _ (aA fun _ Z29=>eZ [] ?_));refine pV (hal _) ?_;refine Z29 _ (aL (mA 8 ?_));exact xdh
theorem cLm (l:List Bool) (i:Nat) (x:Bool):(l.map eB).set i [vb x]=(l.set i x).map eB:=by rw[List.map_set]
attribute [go_sem] cLm
def aGc (n:Nat) (S:List Int):List Bool:=(List.range n).map fun j=>S.contains ((j:Nat):Int)
theorem aVs (n:Nat) (S:List Int):(aGc n S).length=n:=by simp[aGc]
theorem cId (n:Nat):(aGc n []).map eB=List.replicate n [vb false]:=by
 unfold aGc;rw[List.map_map];apply List.ext_getElem
 ·simp
 intro i h1 h2;simp
theorem bPq {n:Nat} {S:List Int} {x:Int} (h0:0≤x) (h1:x<n):aGc n (S++[x])=(aGc n S).set x.toNat true:=by
 unfold aGc;apply List.ext_getElem
 ·simp
 intro i h2 h3;simp only[cJ,List.length_range] at h2;rw[List.getElem_set];simp only[List.getElem_map,List.getElem_range,List.contains_append];by_cases h:x.toNat=i
 ·rw[if_pos h];have:((i:Nat):Int)=x:=by omega
  rw[this];simp
 rw[if_neg h];have: ¬((i:Nat):Int)=x:=by omega
 simp[this]
theorem bLv {n:Nat} {S:List Int} {x:Int} (h: ¬(0≤x∧x<n)):aGc n (S++[x])=aGc n S:=by
 unfold aGc;refine zP fun i hi=>?_;have hi:=gU.1 hi;have: ¬((i:Nat):Int)=x:=by omega
 simp[this]
abbrev cQz (l:List Bool):DV:=encL 1 eB l
def aFd (w:cE) (u:iR):List Int:=iA w.xAi u.xAw
theorem bVa (w:cE) (u:iR):(aFd w u).length≤u.xAw.xAc.length:=aRq _ _
def bYg (w:cE):List Bool:=aGc w.xAi.xAe.length (w.xAm.flatMap (aFd w))
theorem cRj {l:List iR} {f:iR→List Int} {i:Nat} (h:i<l.length):(l.take (i+1)).flatMap f=(l.take i).flatMap f++f (l.getD i default):=by
 rw[kX default h,aBl];simp
def bYt (x:Int) (u:iR):Bool:=decide (u.xAx.xAt.fId=x)
def bOv (w:cE) (x:Int):Int:=if w.xAm.any (bYt x) then (w.xAm.findIdx (bYt x):Nat) else -1
section
attribute [local go_sem] cI
theorem aJd (O:aN) (u:iR) (x:Int) (k:Nat) (hsx:O k=.bx [vi x]):aZ Tryz.prog O 35 [.agg (qE u),.bp k 0] (vb (bYt x u)):=by
 refine eV Tryz.func35 ?_;refine bB [0,1] ?_;refine bB [1,2] ?_;refine aL (mA 3 ?_);exact xdh
end
theorem uQ (O:aN) (l:List iR) (g s:Nat) (cs:List DV) (p:iR→Bool) (hO:O s=.bx cs) (hcs:kT (· +100000) cs=cs) (hsx:aM Tryz.prog g=true) (hk: ∀(ρ:aN) (k:Nat) (x:iR),ρ k=.bx cs→aZ Tryz.prog ρ g [.agg (qE x),.bp k 0] (vb (p x))):aZ Tryz.prog O 34 [encL 32 qE l,.fn g [] [.bp s 0]] (vi (if l.any p then (l.findIdx p:Nat) else -1)):=by
 refine bG 0 rfl (.sl _ _ _) fun hl=>?_;refine eV Tryz.func34 ?_;refine bB [0,1] ?_;refine aA fun _ Z1=>bB [0,1] ?_;refine aI (aX [0,1,7,8] (fun n ρ=> ∃i,n=l.length-i∧(i≤l.length)∧((if l.any p then (l.findIdx p:Int) else -1)=(if (l.drop i).any p then (((l.drop i).findIdx p+i:Nat):Int) else -1))∧ρ=dU O [(0,encL 32 qE l),(1,.fn g [] [.bp (s+100000) 0]),(7,vi (l.length:Nat)),(8,vi (i:Nat))]) _ ⟨0,rfl,?_,?_,?_⟩ ?_)
 ·exact bD
 ·simp
 ·exact eX
 rintro n ρ ⟨i,rfl,l0_0,l0_1,rfl⟩ _ Z3;refine bB [0,1,7,8] ?_;refine aA fun _ Z5=>aO (fun c0=>?_) fun c0=>?_
 ·refine aD (Z5 _ (aA fun _ Z6=>aI (bB [0,1,7,8] ?_)));refine aA fun _ Z8=>eZ [0,1,5,7,8] ?_;refine jJ _ (hk _ (s+100000) (l.getD i default) ?_) ?_
  ·repeat rw[aK,if_neg aV]
   rw[cI,hO];exact congrArg DV.bx hcs
  refine gE ?_;refine Z8 _ (aO (fun c1=>?_) fun c1=>?_)
  ·refine bB [5] ?_;refine aL (mA 4 ?_);exact dX.is (by ((try simp only[go_sem,seval,hsx]);try simp (disch:=omega) only[go_sem,seval,hsx])<;>(refine congrArg vi ?_;rw[l0_1,dL default c0,aQr,aQc,c1];simp)) rfl rfl
  refine aD (Z6 _ (cN [0,1,7,8] ?_));refine Z3 _ _ bD ⟨i+1,rfl,bD,?_,?_⟩
  ·rw[l0_1,dL default c0,aQr,aQc,c1];simp only[vE,fI];rw[show List.findIdx p (List.drop (i+1) l)+1+i=List.findIdx p (List.drop (i+1) l)+(i+1) by omega]
  exact eX
 refine bA (Z1 _ (bB [] ?_));refine aL (mA 4 ?_);exact dX.is (by ((try simp only[go_sem,seval,hsx]);try simp (disch:=omega) only[go_sem,seval,hsx])<;>(refine congrArg vi ?_;rw[l0_1,iW c0];rfl)) rfl rfl
theorem aBd (O:aN) (w:cE) (x:Int):aZ Tryz.prog O 15 [.agg (eQ w),vi x] (vi (bOv w x)):=by
 refine eV Tryz.func15 ?_;refine aB [0,1] ?_;refine aA fun _ Z1=>bN [2,3] ?_;refine f9 (uQ _ w.xAm 35 3 [vi x] (bYt x) (by rfl) rfl rfl (fun ρ k u h=>aJd ρ u x k h)) ?_;refine Z1 _ (aL (dN 4 ?_));exact dX.is (by ((try simp only[go_sem,seval]);try simp (disch:=omega) only[go_sem,seval])<;>(rfl)) rfl rfl
theorem aEu (O:aN) (w:cE) (hl:gO w.xAi) (hes:pK w.xAi=true) (hu:w.xAm.length≤10) (f15: ∀i,i<w.xAm.length→(w.xAm.getD i default).xAw.xAc.length≤100):aZ Tryz.prog O 14 [.agg (eQ w)] (cQz (bYg w)):=by
 obtain⟨fl,_⟩:=id hl;refine eV Tryz.func14 ?_;refine aB [0] ?_;refine aB [1] ?_;refine aA fun _ Z2=>aB [1,3] ?_;refine aI (aX [1,3,14,15,16] (fun n ρ=> ∃i,n=w.xAm.length-i∧(i≤w.xAm.length)∧ρ=dU O [(1,.bx (eQ w)),(3,rowL 4 1 eB (aGc w.xAi.xAe.length ((w.xAm.take i).flatMap (aFd w)))),(14,encL 32 qE w.xAm),(15,vi (w.xAm.length:Nat)),(16,vi (i:Nat))]) _ ⟨0,rfl,?_,?_⟩ ?_)
 ·exact bD
 ·((try simp only[go_sem,seval]);try simp (disch:=omega) only[go_sem,seval])<;>rw[List.flatMap_nil,cId]
 rintro n ρ ⟨i,rfl,l0_0,rfl⟩ _ Z4;have hcl:=aVs w.xAi.xAe.length ((w.xAm.take i).flatMap (aFd w));refine aB [1,3,13,14,15,16] ?_;refine aA fun _ Z6=>aO (fun c0=>?_) fun c0=>?_
 ·refine aD (Z6 _ (aA fun _ Z7=>aI (aB [1,3,13,14,15,16] ?_)));refine aA fun _ Z9=>bN [1,3,5,13,14,15,16] ?_;refine f9 (vI _ w.xAi (w.xAm.getD i default).xAw hl hes (f15 i c0)) ?_;refine Z9 _ (aI (aX [1,3,14,15,16,24,25,26] (fun n ρ=> ∃j,n=(aFd w (w.xAm.getD i default)).length-j∧(j≤(aFd w (w.xAm.getD i default)).length)∧ρ=dU O [(1,.bx (eQ w)),(3,rowL 4 1 eB (aGc w.xAi.xAe.length ((w.xAm.take i).flatMap (aFd w)++(aFd w (w.xAm.getD i default)).take j))),(14,encL 32 qE w.xAm),(15,vi (w.xAm.length:Nat)),(16,vi (i:Nat)),(24,d5 (aFd w (w.xAm.getD i default))),(25,vi ((aFd w (w.xAm.getD i default)).length:Nat)),(26,vi (j:Nat))]) _ ⟨0,rfl,?_,?_⟩ ?_))
  ·exact bD
  ·((try simp only[go_sem,seval]);try simp (disch:=omega) only[go_sem,seval])<;>first|rfl|(rw[kZ];rfl)
  rintro n ρ ⟨j,rfl,l1_0,rfl⟩ _ Z10;have hsu:=bVa w (w.xAm.getD i default);have hus:=f15 i aV;have hcl:=aVs w.xAi.xAe.length ((w.xAm.take i).flatMap (aFd w)++(aFd w (w.xAm.getD i default)).take j);refine aB [1,3,13,14,15,16,24,25,26] ?_;refine aA fun _ Z12=>aO (fun c1=>?_) fun c1=>?_
  ·refine aD (Z12 _ (aA fun _ Z13=>aI (aB [1,3,13,14,15,16,24,25,26] ?_)));refine aB [1,3,7,13,14,15,16,24,25,26] ?_;refine aO (fun c2=>?_) fun c2=>?_
   ·refine bE [1,3,7,13,14,15,16,24,25,26] ?_;refine Z13 _ (bE [1,3,13,14,15,16,24,25,26] ?_);refine Z10 _ _ bD ⟨j+1,rfl,bD,?_⟩;((try simp only[go_sem,seval]);try simp (disch:=omega) only[go_sem,seval])<;>(rw[kX default c1,← tB,bPq c2.1 aV];rfl)
   refine aD (Z13 _ (bE [1,3,13,14,15,16,24,25,26] ?_));refine Z10 _ _ bD ⟨j+1,rfl,bD,?_⟩;((try simp only[go_sem,seval]);try simp (disch:=omega) only[go_sem,seval])<;>(rw[kX default c1,← tB,bLv aV];rfl)
  refine bA (Z7 _ (bE [1,3,13,14,15,16] ?_));refine Z4 _ _ bD ⟨i+1,rfl,bD,?_⟩;((try simp only[go_sem,seval]);try simp (disch:=omega) only[go_sem,seval])<;>(rw[cRj c0,show j=(aFd w (w.xAm.getD i default)).length by omega,iL];rfl)
 refine bA (Z2 _ (aA fun _ Z16=>iS 3 _ rfl rfl ?_));refine bE [3] ?_;refine Z16 _ (aL (dN 2 ?_));exact dX.encL rfl (by rw[bYg,jD aV])
theorem aKr (O:aN) (w:cE) (hl:gO w.xAi) (hc:mK w.xAi≠0):aZ Tryz.prog O 7 [.agg (eQ w)] (vi (mK w.xAi)):=by
 refine eV Tryz.func7 ?_;refine aB [0] ?_;refine aA fun _ Z1=>aA fun _ Z2=>bN [1] ?_;refine f9 (oW _ w.xAi hl) ?_;refine Z2 _ (aB [1,3] ?_);refine aO (fun c0=>?_) fun c0=>?_
 ·refine aB [3] ?_;refine aL (dN 2 ?_);exact dX.is (by ((try simp only[go_sem,seval]);try simp (disch:=omega) only[go_sem,seval])<;>(exact bD)) rfl rfl
 exact absurd c0 hc
def nmA (i:Nat):ByteArray:=[(⟨#[97]⟩:ByteArray),⟨#[98]⟩,⟨#[99]⟩].getD i default
def elB (i:Nat):mZ:=⟨nmA i,1,20000,0,1000,0,(i:Nat)⟩
def L1:aC:=⟨⟨#[108,105,110,101]⟩,[⟨#[97]⟩,⟨#[98]⟩,⟨#[99]⟩],(List.range 3).map elB,[⟨⟨0,1⟩,⟨1,0⟩⟩,⟨⟨1,1⟩,⟨2,0⟩⟩],[⟨⟨#[115,49]⟩,⟨0,1⟩,0⟩,⟨⟨#[115,50]⟩,⟨1,1⟩,0⟩],[]⟩
def X1:cT:=⟨3,⟨#[105,99,101]⟩,5000,900,50,50,100,0,0,0⟩
def Y1:cT:=⟨4,⟨#[105,99,101]⟩,5000,900,50,50,100,0,0,0⟩
def B1:eF:=⟨[⟨0,0,1⟩],15000,5000⟩
theorem bGj {l:aC} (h:(decide (l.xAe.length≤60∧l.xAh.length≤60∧l.xAd.length≤100∧l.xAa.length≤60∧l.xAu.length≤60)&&(d9 l).all fun n=>n.all fun x=>decide (x.size≤140737488355328))=true):gO l:=by
 rw[cD] at h;obtain⟨h1,h2,h3,h4,h5⟩:=dK h.1;exact⟨h1,h2,h3,h4,h5,fun n hn x hx=>dK (dI.1 (dI.1 h.2 n hn) x hx)⟩
theorem bBj:gO L1:=bGj bF
theorem cOv:gO (default:cE).xAi:=bGj bF
theorem cDg:mK (default:cE).xAi≠0:=by rw[show mK (default:cE).xAi=2 from by kernel_rfl];decide
theorem bSp:aAu L1=0:=by kernel_rfl
theorem cSa:wM L1 [X1] [B1] 1 0=0:=by kernel_rfl
theorem cQt:wM L1 [X1,Y1] [B1,B1] 2 0=0:=by kernel_rfl
theorem bAr:iA L1 B1=[0]:=by
 unfold iA;rw[show jK L1 B1.xAc=[0] from by kernel_rfl];exact List.mergeSort_singleton _
theorem bUw:qY L1 [X1] [B1]=0:=cRu bF bF cSa (by unfold o6;simp[bAr])
theorem bFx:qY L1 [X1,Y1] [B1,B1]=10:=cNd bF bF cQt (by unfold o6;simp[bAr])
theorem cKu:rW L1 B1.xAc=[]:=by
 have h:=bWa L1 B1.xAc;unfold rW;rw[show aAt L1 B1.xAc=[] from by kernel_rfl];exact nN (Nat.le_zero.1 (aFo []))
theorem cGl:sQ L1 [X1] [B1]=0:=by
 unfold sQ;rw[if_neg (by rw[bUw];simp),if_pos (by simp[bZi,cKu])]
theorem bFl:sQ L1 [X1,Y1] [B1,B1]=10:=by
 unfold sQ;rw[if_pos (by rw[bFx];decide),bFx]
theorem cEt:lV (u5 L1) []=0:=by kernel_rfl
theorem cIj:vZ L1 [X1] [B1] []=0:=by
 unfold vZ;rw[if_neg (by rw[bSp];simp),if_neg (by rw[cGl];simp),cEt]
theorem bGd:vZ L1 [X1,Y1] [B1,B1] []=10:=by
 unfold vZ;rw[if_neg (by rw[bSp];simp),if_pos (by rw[bFl];decide),bFl]
def W1:cE:=aOy L1 [X1] [B1] [] (fun _ _=>0)
theorem cEq (best:Dr):aOy L1 [X1] [B1] [] best=W1:=by
 unfold W1 aOy cKk scD;rfl
theorem hq1: ∀i,i< [B1].length→([B1].getD i default).xAc.length≤100:=fun i hi=>by
 obtain rfl:i=0:=by simp at hi;omega
 decide
theorem hq2: ∀i,i< [B1,B1].length→([B1,B1].getD i default).xAc.length≤100:=fun i hi=>by
 have:i=0∨i=1:=by simp at hi;omega
 rcases this with rfl|rfl<;>decide
theorem bXx (O:aN):aZ Tryz.prog O 6 [.agg (aQ L1),lA [X1],jZ [B1],cL []] (.tup [.agg (eQ W1),vi 0]):=
 (wZ O L1 [X1] [B1] [] bBj eN eN hq1).mono fun O' r ⟨h1,h2⟩=>⟨h1,by
  rcases h2 with ⟨h2,_⟩|⟨_,best,_,h3⟩
  ·exact absurd cIj h2
  rw[h3,cEq]⟩
theorem bWs (O:aN):aZ Tryz.prog O 6 [.agg (aQ L1),lA [X1,Y1],jZ [B1,B1],cL []] (.tup [.agg (eQ default),vi 10]):=
 (wZ O L1 [X1,Y1] [B1,B1] [] bBj eN eN hq2).mono fun O' r ⟨h1,h2⟩=>⟨h1,by
  rcases h2 with ⟨_,h3⟩|⟨h2,_⟩
  ·rw[h3,bGd]
  rw[bGd] at h2;cases h2⟩
theorem bQa:W1.xAm=[aYk X1 B1]:=rfl
theorem cEm:W1.xBi.xBm=[aCp L1 X1 B1]:=rfl
theorem cPs:W1.xAi=L1:=rfl
theorem cMy:(aCp L1 X1 B1).fAt=5000:=by kernel_rfl
theorem cDl:bYg W1=[true,false,false]:=by
 unfold bYg;rw[bQa,cPs,aIh,List.flatMap_nil,kZ,show aFd W1 (aYk X1 B1)=[0] from bAr];rfl
theorem cTb:bOv W1 3=0:=by unfold bOv;rw[bQa];rfl
theorem cMj:bOv W1 4= -1:=by unfold bOv;rw[bQa];rfl
theorem bEd:GdW W1:=by
 have hf:nD [] (csF (u5 L1) []) (bgD []):=by
  unfold nD;rw[show enA []=fun _=>0 from by funext q;unfold enA;rw[if_neg dH]];exact .b
 rw[← cEq (bgD [])];exact bOy bBj hq1 ⟨bSp,bUw,cEt,hf⟩
abbrev cTl (h:Hd) (E:List mZ):Rg:=.row h 93 7 (E.map gB)
def bOi:Nat→List DV:=fun i=>[[vs ⟨#[97]⟩],[vs ⟨#[98]⟩],[vs ⟨#[99]⟩]].getD i []
theorem bAk {i:Nat} (h:i<3):(bOi i).getD 0 .any=vs (nmA i):=by
 have:i=0∨i=1∨i=2:=by omega
 rcases this with rfl|rfl|rfl<;>rfl
theorem bAc {i:Nat} (h:i<3):(bOi i).length=1:=by
 have:i=0∨i=1∨i=2:=by omega
 rcases this with rfl|rfl|rfl<;>rfl
def lnX (a b:DV):List DV:=[vs ⟨#[108,105,110,101]⟩,.sl 1 3 bOi,a,b,.sl 4 2 (fun i_=>[[vs ⟨#[115,49]⟩,vi 0,vi 1,vi 0],[vs ⟨#[115,50]⟩,vi 1,vi 1,vi 0]].getD i_ []),.v (.slice none 0 0)]
section
variable (a b d:DV)
theorem aVg:(lnX a b).length=6:=rfl
theorem aNr:(lnX a b).take 6=lnX a b:=rfl
theorem bCk:(lnX a b).getD 1 .any=.sl 1 3 bOi:=rfl
theorem bDa:(lnX a b).getD 2 .any=a:=rfl
theorem bBk:(lnX a b).getD 3 .any=b:=rfl
theorem aUo:(lnX a b).set 2 d=lnX d b:=rfl
theorem bAi:(lnX a b).set 3 d=lnX a d:=rfl
theorem aSw (f:Nat→Nat):kT f (lnX a b)=lnX (yF f a) (yF f b):=rfl
theorem aRt (p:Nat→Bool):d6 p (lnX a b)=(fL p a&&fL p b):=by unfold lnX;simp[d6,fL]
end
theorem aNv (O:aN):aZ Tryz.prog O 12 [] (.tup [.agg (gX X1),.agg (jL B1)]):=by
 refine eV Tryz.func12 ?_;refine aB [] ?_;refine aB [0,1] ?_;refine pN 1 (ds:=jL B1) rfl (by ((try simp only[go_sem,seval,or_self,iP,cJ,aVg,aNr,bCk,bDa,bBk,aUo,bAi,aSw,aRt,bAk,bAc]);try simp (disch:=omega) only[go_sem,seval,or_self,iP,cJ,aVg,aNr,bCk,bDa,bBk,aUo,bAi,aSw,aRt,bAk,bAc])<;>rfl) (.cons (eK.litL B1.xAc rfl rfl) (.cons (eK.refl _) (.cons (eK.refl _) .nil))) ?_;refine aL (rtu (.cons ?_ (.cons ?_ .nil)))
 ·exact roC sr (by ((try simp only[go_sem,seval]);try simp (disch:=omega) only[go_sem,seval])<;>(rfl)) bF (by first|rfl|(((try simp only[go_sem,seval]);try simp (disch:=omega) only[go_sem,seval])))
 exact roC sr (by ((try simp only[go_sem,seval]);try simp (disch:=omega) only[go_sem,seval])<;>(rfl)) bF (by first|rfl|(((try simp only[go_sem,seval]);try simp (disch:=omega) only[go_sem,seval])))
section
attribute [local go_sem] or_self iP cJ aVg aNr bCk bDa bBk aUo bAi aSw aRt bAk bAc
set_option maxRecDepth 20000 in
theorem aBk (O:aN):aZ Tryz.prog O 13 [] (.agg (aQ L1)):=by
 refine iT Tryz.func13 rfl bF fun w0 I0 A0=>?_;have hF:=pS w0 I0 (cG A0) (GOf []);refine bI hF [] ?_;refine bI hF [0] ?_;refine aW fun _ Z2=>aW fun _ Z3=>vJ 1 (ds:=lnX (.v (.slice none 0 0)) (.v (.slice none 0 0))) rfl sr (rQ.refl _) ?_;refine eO hF [0,1] ?_;refine Z3 _ _ (bZ (kF [] [] 93 7 rfl ?_));refine eY [0,1,12,13,14] (fun n sF ρ=> ∃i,∃aE,∃E,n=3-i∧sF=[cTl aE E]∧(i≤3)∧(E=(List.range i).map elB)∧ρ=dU O [(0,.bx [vs ⟨#[]⟩,.v (.slice none 0 0),.v (.slice none 0 0),.v (.slice none 0 0),.v (.slice none 0 0),.v (.slice none 0 0)]),(1,.bx (lnX (aE.sl E.length) (.v (.slice none 0 0)))),(12,.sl 1 3 bOi),(13,vi 3),(14,vi (i:Nat))]) _ ⟨0,mJ,[],rfl,rfl,?_,?_,?_⟩ ?_
 ·exact bD
 ·rfl
 ·exact dT
 rintro n sF ρ ⟨i,aE,E,rfl,rfl,l0_0,l0_1,rfl⟩ _ Z4;have hEl:E.length=i:=by rw[l0_1,cJ,List.length_range]
 refine bI hF [0,1,11,12,13,14] ?_;refine aW fun _ Z6=>cQ (fun c0=>?_) fun c0=>?_
 ·have hi3:i<3:=aV;refine bU (Z6 _ _ (aW fun _ Z7=>bZ (bI hF [0,1,11,12,13,14] ?_)));refine cC (Le.keepC [0,1,2,3,11,12,13,14,17] _) ?_;refine cU ?_;refine ef hF ?_;refine ef hF ?_;refine ef hF ?_;refine ef hF ?_;refine ef hF ?_;refine ef hF ?_;show lW _ _ _ _ _ _ _ _;refine iI (s1:=[]) (s2:=[]) 20 eN sr rfl ?_;refine ef hF ?_;show lW _ _ _ _ _ _ _ _;refine nV (s1:=[]) (s2:=[]) (l:=(E++[elB i]).map gB) 25 eN (by ((try simp only[go_sem,seval]);try simp (disch:=omega) only[go_sem,seval])<;>(first|rfl|(simp[gB,elB];done)|(simp[gB,elB];rfl))) rfl (fun hx=>?_);refine ef hF ?_;refine ef hF ?_;refine Z7 _ _ (eO hF [0,1,11,12,13,14] ?_);refine Z4 _ _ _ bD ⟨i+1,hx,E++[elB i],rfl,rfl,bD,?_,dT⟩
  ·rw[l0_1,xS,eM];rfl
 refine fV (Z2 _ _ (aW fun _ Z9=>?_));obtain rfl:i=3:=aV;refine gL (s1:=[]) (s2:=[]) 1 2 sf sf rfl (eK.frzL gB E) rfl ?_;rw[aUo];refine eO hF [0,1] ?_;refine Z9 _ _ (aW fun _ Z10=>?_);refine vJ 1 (ds:=aQ L1) rfl sf (.cons (eK.refl _) (.cons (eK.litL L1.xAe rfl rfl) (.cons (by rw[l0_1];exact eK.refl _) (.cons (eK.litL L1.xAd rfl rfl) (.cons (eK.litL L1.xAa rfl rfl) (.cons (eK.nilL _) .nil)))))) ?_;refine eO hF [0,1] ?_;refine Z10 _ _ (dV ?_)
 (try simp only[fQ,d8]);refine nM 0 28 rfl sz sr bF (by rfl)
end
set_option maxRecDepth 20000 in
theorem aKu (O:aN):aZ Tryz.prog O 5 [] (vb true):=by
 refine eV Tryz.func5 ?_;refine aB [] ?_;refine aA fun _ Z1=>bN [] ?_;refine f9 (aNv _) ?_;refine Z1 _ (aB [1,2] ?_);refine aB [1,2,3] ?_;refine aA fun _ Z4=>aBi 12 [1,2,3] [1,2,3,16,17,18,19,20,21,15,22,23,5,4] [] [] [[],[],[1],[],[3],[0,1,2,3,4],[0,1,2,3,4,5],[0,1,2,3,4,5,6],[0,1,2,3,4,5,6],[],[0,1,2,3,4,5,6,7,9],[0,1,2,3,4,5,6,7,8,9,10]] [[10],[10],[10],[10],[10],[10],[10],[10],[],[10],[],[]] (fun bQ=>dU O [(1,.bx (gX X1)),(2,.bx (jL B1)),(3,.bx (gX Y1)),(16,bC (bQ 0) (.agg (aQ L1))),(17,bC (bQ 1) (.agg (gX X1))),(18,bC (bQ 2) (.sl 10 1 (fun i_=>[gX X1].getD i_ []))),(19,bC (bQ 3) (.agg (jL B1))),(20,bC (bQ 4) (.sl 3 1 (fun i_=>[jL B1].getD i_ []))),(21,bC (bQ 5) (.tup [.agg (eQ W1),vi 0])),(15,bC (bQ 6) (.tup [.agg (eQ W1),vi 0])),(22,bC (bQ 7) (.agg (eQ W1))),(23,bC (bQ 8) (vi 0)),(5,bC (bQ 11) (vi 0)),(4,rP (bQ 10) (bQ 9) (.bx (eQ W1)) (.bx [vs ⟨#[]⟩,.v (.slice none 0 0),.v (.slice none 0 0),.v (.slice none 0 0),.v (.slice none 0 0),.v (.slice none 0 0),.v (.slice none 0 0),.v (.slice none 0 0),.v (.slice none 0 0),vi 0,vi 0,.v (.slice none 0 0),.v (.slice none 0 0),.v (.slice none 0 0),.v (.slice none 0 0),.v (.slice none 0 0),.v (.slice none 0 0),.v (.slice none 0 0),.v (.slice none 0 0),.v (.slice none 0 0),.v (.slice none 0 0),.v (.slice none 0 0),.v (.slice none 0 0),.v (.slice none 0 0),.v (.slice none 0 0),.v (.slice none 0 0),vi 0,.v (.slice none 0 0),.v (.slice none 0 0),vi 0]))]) (fun iQ hiQ oQ hoQ bQ hbQ KQ hKQ=>?_) ?_
 ·rcases (by omega:iQ=0∨iQ=1∨iQ=2∨iQ=3∨iQ=4∨iQ=5∨iQ=6∨iQ=7∨iQ=8∨iQ=9∨iQ=10∨iQ=11) with rfl|rfl|rfl|rfl|rfl|rfl|rfl|rfl|rfl|rfl|rfl|rfl
  ·exact mkc hoQ hbQ hKQ (aBk _)
  ·exact mkp hoQ hbQ hKQ
  ·exact mkp hoQ hbQ hKQ
  ·exact mkp hoQ hbQ hKQ
  ·exact mkp hoQ hbQ hKQ
  ·exact mkc hoQ hbQ hKQ (jB [.agg (aQ L1),lA [X1],jZ [B1],cL []] (.cons (eK.refl _) (.cons (eK.litL [X1] rfl rfl) (.cons (eK.litL [B1] rfl rfl) (.cons (eK.nilL _) .nil)))) (bXx _))
  ·exact mkp hoQ hbQ hKQ
  ·exact mkp hoQ hbQ hKQ
  ·exact mkp hoQ hbQ hKQ
  ·exact mkp hoQ hbQ hKQ
  ·exact mkp hoQ hbQ hKQ
  exact mkp hoQ hbQ hKQ
 refine lL ?_;refine Z4 _ (aA fun _ Z5=>aBi 14 [1,2,3,4,5] [1,2,3,4,5,25,26,27,28,29,30,31,32,24,33,34,7,6] [] [] [[],[],[],[1,2],[],[],[4,5],[0,1,2,3,4,5,6],[0,1,2,3,4,5,6,7],[0,1,2,3,4,5,6,7,8],[0,1,2,3,4,5,6,7,8],[],[0,1,2,3,4,5,6,7,8,9,11],[0,1,2,3,4,5,6,7,8,9,10,11,12]] [[12],[12],[12],[12],[12],[12],[12],[12],[12],[12],[],[12],[],[]] (fun bQ=>dU O [(1,.bx (gX X1)),(2,.bx (jL B1)),(3,.bx (gX Y1)),(4,.bx (eQ W1)),(5,vi 0),(25,bC (bQ 0) (.agg (aQ L1))),(26,bC (bQ 1) (.agg (gX X1))),(27,bC (bQ 2) (.agg (gX Y1))),(28,bC (bQ 3) (.sl 10 2 (fun i_=>[gX X1,gX Y1].getD i_ []))),(29,bC (bQ 4) (.agg (jL B1))),(30,bC (bQ 5) (.agg (jL B1))),(31,bC (bQ 6) (.sl 3 2 (fun i_=>[jL B1,jL B1].getD i_ []))),(32,bC (bQ 7) (.tup [.agg (eQ default),vi 10])),(24,bC (bQ 8) (.tup [.agg (eQ default),vi 10])),(33,bC (bQ 9) (.agg (eQ default))),(34,bC (bQ 10) (vi 10)),(7,bC (bQ 13) (vi 10)),(6,rP (bQ 12) (bQ 11) (.bx (eQ default)) (.bx [vs ⟨#[]⟩,.v (.slice none 0 0),.v (.slice none 0 0),.v (.slice none 0 0),.v (.slice none 0 0),.v (.slice none 0 0),.v (.slice none 0 0),.v (.slice none 0 0),.v (.slice none 0 0),vi 0,vi 0,.v (.slice none 0 0),.v (.slice none 0 0),.v (.slice none 0 0),.v (.slice none 0 0),.v (.slice none 0 0),.v (.slice none 0 0),.v (.slice none 0 0),.v (.slice none 0 0),.v (.slice none 0 0),.v (.slice none 0 0),.v (.slice none 0 0),.v (.slice none 0 0),.v (.slice none 0 0),.v (.slice none 0 0),.v (.slice none 0 0),vi 0,.v (.slice none 0 0),.v (.slice none 0 0),vi 0]))]) (fun iQ hiQ oQ hoQ bQ hbQ KQ hKQ=>?_) ?_)
 ·rcases (by omega:iQ=0∨iQ=1∨iQ=2∨iQ=3∨iQ=4∨iQ=5∨iQ=6∨iQ=7∨iQ=8∨iQ=9∨iQ=10∨iQ=11∨iQ=12∨iQ=13) with rfl|rfl|rfl|rfl|rfl|rfl|rfl|rfl|rfl|rfl|rfl|rfl|rfl|rfl
  ·exact mkc hoQ hbQ hKQ (aBk _)
  ·exact mkp hoQ hbQ hKQ
  ·exact mkp hoQ hbQ hKQ
  ·exact mkp hoQ hbQ hKQ
  ·exact mkp hoQ hbQ hKQ
  ·exact mkp hoQ hbQ hKQ
  ·exact mkp hoQ hbQ hKQ
  ·exact mkc hoQ hbQ hKQ (jB [.agg (aQ L1),lA [X1,Y1],jZ [B1,B1],cL []] (.cons (eK.refl _) (.cons (eK.litL [X1,Y1] rfl rfl) (.cons (eK.litL [B1,B1] rfl rfl) (.cons (eK.nilL _) .nil)))) (bWs _))
  ·exact mkp hoQ hbQ hKQ
  ·exact mkp hoQ hbQ hKQ
  ·exact mkp hoQ hbQ hKQ
  ·exact mkp hoQ hbQ hKQ
  ·exact mkp hoQ hbQ hKQ
  exact mkp hoQ hbQ hKQ
 refine lL ?_;refine Z5 _ (aA fun _ Z6=>bN [4,5,7] ?_);refine f9 (aEu _ W1 bEd.ly (qR bEd.ck).2.1 eN (fun i hi=>(bEd.us i hi).2.2.2)) ?_;refine Z6 _ (aA fun _ Z7=>aB [4,5,7,8] ?_);refine aO (fun c0=>?_) fun c0=>?_
 ·refine aB [] ?_;refine aL (dN 0 (xb ?_))
  (exfalso;rw[cDl,cEm] at c0;simp at c0)
 refine aD (Z7 _ (aA fun _ Z10=>bN [4,8] ?_));refine rO (fun g0=>zL _ W1 bEd) ?_;refine rO (fun g1=>jB [.agg (eQ default)] (.cons (eK.aggL ((.cons (eK.refl _) (.cons (eK.nilL _) (.cons (eK.nilL _) (.cons (eK.nilL _) (.cons (eK.nilL _) (.cons (eK.nilL _) (.cons (eK.nilL _) (.cons (eK.nilL _) (.cons (eK.nilL _) (.cons (eK.refl _) (.cons (eK.refl _) (.cons (eK.nilL _) (.cons (eK.nilL _) (.cons (eK.nilL _) (.cons (eK.nilL _) (.cons (eK.nilL _) (.cons (eK.nilL _) (.cons (eK.nilL _) (.cons (eK.nilL _) (.cons (eK.nilL _) (.cons (eK.nilL _) (.cons (eK.nilL _) (.cons (eK.nilL _) (.cons (eK.nilL _) (.cons (eK.nilL _) (.cons (eK.nilL _) (.cons (eK.refl _) (.cons (eK.nilL _) (.cons (eK.nilL _) (.cons (eK.refl _) .nil)))))))))))))))))))))))))))))))) .nil) (aKr _ default cOv cDg)) ?_;refine rO (fun g2=>aBd _ W1 3) ?_;refine rO (fun g3=>aBd _ W1 4) ?_;refine Z10 _ (aL (dN 0 (xb ?_)))
 (simp[cDl,cEm,cMy,cDg,cTb,cMj])
theorem cMu:Dec Tryz.prog 29 (fun l:List cT=>[encL 10 gX l]) (fun l=>(∀a∈l,bHs a)∧l.length≤140737488355328):=mL Tryz.underlying29 bF eN (dK bF) cRi (fun _=>rfl)
theorem cRt:Dec Tryz.prog 30 (fun l:List eF=>[encL 3 jL l]) (fun l=>(∀a∈l,bQf a)∧l.length≤140737488355328):=mL Tryz.underlying30 bF eN (dK bF) cLv (fun _=>rfl)
end Go.Sg
