/- Several texts as one. -/
import Derived.Test.YtanpjnlhfdcicaaGreatDoorK5
import Derived.Ground.Names2Prog
import Derived.Shelf.LaysM
import Derived.Shelf.SlSortCmp.InsertionK
import Derived.Shelf.SlSortCmp.NoneTotal
import Derived.Shelf.Slices.Cells
import Derived.Shelf.Slices.CompactI
import Derived.Shelf.Slices.In.SortNone
import Derived.Shelf.Slices.SearchI
import Derived.Shelf.Slices.Turned
import Derived.Shelf.Small.Bits
import Derived.Shelf.Small.Wraps
import Derived.Shelf.Sort.Plain
import Derived.Shelf.Spec.SlicesGrow
import Derived.Shelf.Strconv.Itoa0
import Derived.Shelf.Strconv.Itoa1
import Derived.Shelf.Strconv.Itoa2
import Derived.Shelf.Strconv.Itoa3
set_option linter.unusedSectionVars false
set_option linter.unusedVariables false
set_option linter.unusedSimpArgs false
set_option maxRecDepth 20000
set_option maxHeartbeats 16000000
namespace Go.Sg
open Go.Proofs
def sJ (q:List bJ):fH:=⟨(q.getD (q.length-1) default).fEl,(q.getD (q.length-1) default).xAv⟩
theorem xK {q:List bJ} {i:Nat} (h:i<q.length):(q.map cV).getD i []=cV (q.getD i default):=by
 rw[cA (l:=q.map cV),dG,cH h,cA (l:=q),cH h];rfl
def aTe (l:aC) (e:Int) (q:List bJ) (i:Nat):Bool:=
 decide ((q.getD i default).fEl≠e)&& !(decide (0<i)&&(decide (fD l (q.getD (i-1) default).fEl=fD l e)&&decide (fD l (q.getD i default).fEl≠fD l e)))
theorem cLn {l:aC} {e:Int} {q:List bJ} {i:Nat} (h:(q.getD i default).fEl=e):aTe l e q i=false:=by unfold aTe;rw[e9 (by simpa using h)];rfl
theorem cHt {l:aC} {e:Int} {q:List bJ} {i:Nat} (h1:0<i) (h2:fD l (q.getD (i-1) default).fEl=fD l e) (h3: ¬fD l (q.getD i default).fEl=fD l e):aTe l e q i=false:=by
 unfold aTe;rw[dF h1,dF h2,dF h3];simp
theorem cHa {l:aC} {e:Int} {q:List bJ} {i:Nat} (h: ¬(q.getD i default).fEl=e) (h2: ¬((0<i∧fD l (q.getD (i-1) default).fEl=fD l e)∧ ¬fD l (q.getD i default).fEl=fD l e)):aTe l e q i=true:=by
 unfold aTe;rw[dF h,zG];cases hx:(decide (0<i)&&(decide (fD l (q.getD (i-1) default).fEl=fD l e)&&decide (fD l (q.getD i default).fEl≠fD l e))) with
 |false=>rfl
 |true=>
  simp only[cD,dR] at hx;exact absurd ⟨⟨hx.1,hx.2.1⟩,hx.2.2⟩ h2
def aBs (l:aC) (q:List bJ) (e:Int):Bool:=(List.range q.length).all (aTe l e q)
theorem aPf (O:aN) (q:List bJ) (hq:0<q.length):aZ Tryz.prog O 189 [fJ q] (.agg (fM (sJ q))):=by
 have hcast:((q.length:Int)-1).toNat=q.length-1:=by omega
 refine bG 0 rfl (.sl _ _ _) fun hql=>?_;refine eV Tryz.func189 ?_;refine aA fun _ Z0=>cS [0] bF ?_;simp (disch:=omega) only[go_sem,seval,hcast]
 repeat refine cP kN ?_
 refine Z0 _ (aA fun _ Z1=>cS [0,2] bF ?_);simp (disch:=omega) only[go_sem,seval,hcast]
 repeat refine cP kN ?_
 refine Z1 _ (aA fun _ Z2=>cS [2,3] bF ?_);simp (disch:=omega) only[go_sem,seval,hcast]
 repeat refine cP kN ?_
 refine Z2 _ (aL ?_);refine nM 2 89 rfl (by simp (disch:=omega) only[go_sem,seval,hcast]) (by simp (disch:=omega) only[go_sem,seval,hcast]<;>(rfl)) (by simp (disch:=omega) only[go_sem,seval,hcast]) (by simp (disch:=omega) only[go_sem,seval,hcast])
section
attribute [local go_sem] xK cJ Nat.mul_one iD cV
theorem aOe (O:aN) (q:List bJ) (s:Nat) (hO:O s=.row 87 3 (q.map cV)) (hb:q.length≤100) (hq:0<q.length):aZ Tryz.prog O 189 [.own s q.length] (.agg (fM (sJ q))):=by
 have hx:bS O (s+100000)=.row 87 3 (q.map cV):=by rw[cI,hO];rfl
 have hcast:((q.length:Int)-1).toNat=q.length-1:=by omega
 refine eV Tryz.func189 ?_;refine aA fun _ Z0=>cS [0] bF ?_;simp (disch:=omega) only[go_sem,seval,hx,hcast]
 repeat refine cP kN ?_
 refine Z0 _ (aA fun _ Z1=>cS [0,2] bF ?_);simp (disch:=omega) only[go_sem,seval,hx,hcast]
 repeat refine cP kN ?_
 refine Z1 _ (aA fun _ Z2=>cS [2,3] bF ?_);simp (disch:=omega) only[go_sem,seval,hx,hcast]
 repeat refine cP kN ?_
 refine Z2 _ (aL ?_);refine nM 2 89 rfl (by simp (disch:=omega) only[go_sem,seval,hx,hcast]) (by simp (disch:=omega) only[go_sem,seval,hx,hcast]<;>(rfl)) (by simp (disch:=omega) only[go_sem,seval,hx,hcast]) (by simp (disch:=omega) only[go_sem,seval,hx,hcast])
end
section
attribute [local go_sem] xK cJ Nat.mul_one iD
theorem aNk (O:aN) (q:List bJ) (s:Nat) (hO:O s=.row 87 3 (q.map cV)) (hb:q.length≤100) (l:aC) (k:Nat) (hd:DV) (e:Int) (hk:O k=.bx (aQ l++[hd])):aZ Tryz.prog O 187 [.bp k 0,.own s q.length,vi e] (vb (aBs l q e)):=by
 have hx:bS O (s+100000)=.row 87 3 (q.map cV):=by rw[cI,hO];rfl
 have hy:bS O (k+100000)=.bx (aQ l++[sh hd]):=by rw[cI,hk];rfl
 refine eV Tryz.func187 ?_;refine aA fun _ Z0=>cS [0,1,2] bF ?_;simp (disch:=omega) only[go_sem,seval,hx,hy]
 repeat refine cP kN ?_
 refine Z0 _ (aA fun _ Z1=>cS [0,1,2] bF ?_);simp (disch:=omega) only[go_sem,seval,hx,hy]
 repeat refine cP kN ?_
 refine jJ _ (f7 _ l e) ?_
 try simp (disch:=omega) only[go_sem,seval,hx,hy]
 repeat refine cP kN ?_
 refine Z1 _ (aA fun _ Z2=>aA fun _ Z3=>cS [0,1,2,7] bF ?_);simp (disch:=omega) only[go_sem,seval,hx,hy]
 repeat refine cP kN ?_
 refine Z3 _ (aI (aX [0,1,2,7,16,17,18] (fun n ρ=> ∃i,n=q.length-i∧(i≤q.length)∧(nX (aTe l e q) i)∧ρ=dU O [(0,.bp (k+100000) 0),(1,.own (s+100000) q.length),(2,vi e),(7,vi (fD l e)),(16,.own (s+100000) q.length),(17,vi (q.length:Nat)),(18,vi (i:Nat))]) _ ⟨0,rfl,?_,?_,?_⟩ ?_))
 ·exact bD
 ·exact lP _
 ·simp (disch:=omega) only[go_sem,seval,hx,hy]<;>first|rfl|omega|simp|simp_all
 rintro n ρ ⟨i,rfl,l0_0,l0_1,rfl⟩ _ Z4;refine aA fun _ Z5=>cS [0,1,2,7,16,17,18] bF ?_;simp (disch:=omega) only[go_sem,seval,hx,hy]
 repeat refine cP kN ?_
 refine Z5 _ (aA fun _ Z6=>aO (fun c0=>?_) fun c0=>?_)
 ·refine aD (Z6 _ (aA fun _ Z7=>aI (aA fun _ Z8=>cS [0,1,2,7,16,17,18] bF ?_)));simp (disch:=omega) only[go_sem,seval,hx,hy]
  repeat refine cP kN ?_
  refine Z8 _ (aA fun _ Z9=>aA fun _ Z10=>cS [0,1,2,7,8,9,16,17,18] bF ?_);simp (disch:=omega) only[go_sem,seval,hx,hy]
  repeat refine cP kN ?_
  refine Z10 _ (aO (fun c1=>?_) fun c1=>?_)
  ·refine aA fun _ Z11=>cS [] bF ?_;simp (disch:=omega) only[go_sem,seval,hx,hy]
   repeat refine cP kN ?_
   refine Z11 _ (aL (sX 6 rfl (by simp (disch:=omega) only[go_sem,seval,hx,hy]) ?_));exact dX.is (by simp (disch:=omega) only[go_sem,seval,hx,hy]<;>refine congrArg vb ?_<;>((symm;exact rR c0 (cLn c1)))) rfl rfl
  refine aD (Z9 _ (aA fun _ Z12=>nP [0,1,2,7,8,9,16,17,18] [] kR bF ?_));simp (disch:=omega) only[go_sem,seval,hx,hy]
  repeat refine cP kN ?_
  refine rD (fun g0=>f7 _ l (q.getD (i-1) default).fEl) ?_ ?_ ?_
  ·first|exact fun _=>trivial|simp
  ·rfl
  try simp (disch:=omega) only[go_sem,seval,hx,hy]
  repeat refine cP kN ?_
  refine rD (fun g1=>f7 _ l (q.getD i default).fEl) ?_ ?_ ?_
  ·first|exact fun _=>trivial|simp
  ·rfl
  try simp (disch:=omega) only[go_sem,seval,hx,hy]
  repeat refine cP kN ?_
  refine Z12 _ (aO (fun c2=>?_) fun c2=>?_)
  ·have hcc:(0<i∧fD l (q.getD (i-1) default).fEl=fD l e)∧ ¬fD l (q.getD i default).fEl=fD l e:=(by simpa using c2);refine aA fun _ Z13=>cS [] bF ?_;simp (disch:=omega) only[go_sem,seval,hx,hy]
   repeat refine cP kN ?_
   refine Z13 _ (aL (sX 6 rfl (by simp (disch:=omega) only[go_sem,seval,hx,hy]) ?_));exact dX.is (by simp (disch:=omega) only[go_sem,seval,hx,hy]<;>refine congrArg vb ?_<;>((symm;exact rR c0 (cHt hcc.1.1 hcc.1.2 hcc.2)))) rfl rfl
  have hcc: ¬((0<i∧fD l (q.getD (i-1) default).fEl=fD l e)∧ ¬fD l (q.getD i default).fEl=fD l e):=(by rintro ⟨⟨h1,h2⟩,h3⟩;simp at c2 h2 h3;rcases c2 with (c2|c2)|c2<;>first|omega|exact c2 h2|exact h3 c2);refine aD (Z7 _ (cS [0,1,2,7,16,17,18] bF ?_));simp (disch:=omega) only[go_sem,seval,hx,hy]
  repeat refine cP kN ?_
  refine Z4 _ _ bD ⟨i+1,rfl,bD,?_,?_⟩
  ·exact kE l0_1 (cHa (by simpa using c1) hcc)
  simp (disch:=omega) only[go_sem,seval,hx,hy]<;>first|rfl|omega|simp|simp_all
 refine bA (Z2 _ (aA fun _ Z14=>cS [] bF ?_));simp (disch:=omega) only[go_sem,seval,hx,hy]
 repeat refine cP kN ?_
 refine Z14 _ (aL (sX 6 rfl (by simp (disch:=omega) only[go_sem,seval,hx,hy]) ?_));exact dX.is (by simp (disch:=omega) only[go_sem,seval,hx,hy]<;>refine congrArg vb ?_<;>((symm;exact t6 l0_1 c0))) rfl rfl
end
end Go.Sg
namespace Go.Sg
open Go.RowKit
theorem bBz {P:Program} {nt:Nat} {ops:Array Oper} {ρ:aN} {o:Oper} {K:aN→Prop} {t t':TypeId} {x:Operand} {n' c':Nat} {d s n:Nat} {e:TypeId} {z:Nat} {xs:List (List DV)}
  (hop:o.op=.binOp .eql t x (.const (.slice none n' c')) t') (hg:o.guard=none) (hdst:o.dst=some d) (ho:eJ nt o=true) (hd:jH nt o=true) (h2:tk P t=2)
  (h1:gd (ev ρ x)) (hx:un (ev ρ x)=.own s n) (hr:ρ s=.row e z xs) (hK: ∀b:Bool,(0<xs.length→b=false)→K (cO ρ (some d) (.v (.bool b)))):OW P nt ops o K ρ:=by
 obtain ⟨e2,he⟩: ∃e,P.underlying t=some (.slice e):=by
  unfold tk at h2;split at h2<;>first|exact ⟨_,by assumption⟩|omega
 refine iF hg fun I A a w hs=>?_;have hrl:=hs.opd x (bM ho (x:=x) (by rw[hop];simp[Op.operands])) h1;have hrun: ∀(b:Option Addr) n c,a.eval x=.slice b n c→(execOp a.eval o).run P w=.ok (.value (.bool b.isNone)) w:=fun b n c hx=>by
  have hb:execOp a.eval o=(do pure (.value (← (eqGuard .eql t x (.const (.slice none n' c')) (a.eval x) (.slice none n' c')>>=fun _=>binOp .eql t (a.eval x) (.slice none n' c'))))):=by unfold execOp;rw[hop];rfl
  have hg:eqGuard .eql t x (.const (.slice none n' c')) (.slice b n c) (.slice none n' c')=(pure ():Sem Unit):=by unfold eqGuard;rfl
  rw[hb,hx,hg,Sem.run_bind];show Result.andThen ((binOp .eql t (.slice b n c) (.slice none n' c')).run P w) _=_;rw[Lib.run_eql_slice_nil w t e2 b n c n' c' he];rfl
 rw[hx] at hrl;have hown:=hs.osim.own s;rw[hr] at hown;obtain ⟨B',c2,hA,hrow⟩:=hown;rw[← hdst] at hK;generalize hv:a.eval x=v at hrl;cases hrl with
 |own _ _ _ B c b hA' hb=>
  rw[hA] at hA';obtain ⟨rfl,rfl⟩:B'=B∧c2=c:=by simpa using hA'
  refine ⟨_,w,I,A,_,hrun b n _ hv,hs.putV hd (.v A _),f8.refl _ _ _,hK _ fun hlt=>?_⟩;cases B' with
  |none=>
   obtain ⟨rfl,_⟩:=hrow;exact absurd hlt dH
  |some g=>rw[iX hb];rfl
end Go.Sg
namespace Go.Sg
open Go.Proofs
abbrev qU (l:List aY):DV:=encL 2 bO l
abbrev aCy (l:List aY):DV:=rowL 141 2 bO l
theorem jQ (O:aN) (l:List bJ) (hb:l.length≤1000000):aZ Tryz.prog O 45 [fJ l] (yR l):=by
 refine eV Tryz.func45 ?_;refine aB [0] ?_;refine aA fun _ Z1=>aA fun _ Z2=>bN [0] ?_;intro β hβ;refine Z2 _ (aO (fun c0=>?_) fun c0=>?_)
 ·obtain rfl:l=[]:=by
   cases l with
   |nil=>rfl
   |cons x l=>have:=hβ dH;simp_all
  refine aB [] ?_;refine aL (dN 2 ?_);exact dX.nilrow _ _ sz
 refine aD (Z1 _ (aB [0] ?_));refine aL (dN 2 ?_);exact dX.rowL rfl (by rfl)
theorem jT (O:aN) (l:List aY) (hb:l.length≤1000000):aZ Tryz.prog O 98 [qU l] (aCy l):=by
 refine eV Tryz.func98 ?_;refine aB [0] ?_;refine aA fun _ Z1=>aA fun _ Z2=>bN [0] ?_;intro β hβ;refine Z2 _ (aO (fun c0=>?_) fun c0=>?_)
 ·obtain rfl:l=[]:=by
   cases l with
   |nil=>rfl
   |cons x l=>have:=hβ dH;simp_all
  refine aB [] ?_;refine aL (dN 2 ?_);exact dX.nilrow _ _ sz
 refine aD (Z1 _ (aB [0] ?_));refine aL (dN 2 ?_);exact dX.rowL rfl (by rfl)
theorem l9 (O:aN) (l:List Int) (hb:l.length≤1000000):aZ Tryz.prog O 99 [d5 l] (aUu l):=by
 refine eV Tryz.func99 ?_;refine aB [0] ?_;refine aA fun _ Z1=>aA fun _ Z2=>bN [0] ?_;intro β hβ;refine Z2 _ (aO (fun c0=>?_) fun c0=>?_)
 ·obtain rfl:l=[]:=by
   cases l with
   |nil=>rfl
   |cons x l=>have:=hβ dH;simp_all
  refine aB [] ?_;refine aL (dN 2 ?_);exact dX.nilrow _ _ sz
 refine aD (Z1 _ (aB [0] ?_));refine aL (dN 2 ?_);exact dX.rowL rfl (by rfl)
theorem aDa (O:aN) (l:List fH) (hb:l.length≤1000000):aZ Tryz.prog O 106 [bRd l] (cMp l):=by
 refine eV Tryz.func106 ?_;refine aB [0] ?_;refine aA fun _ Z1=>aA fun _ Z2=>bN [0] ?_;intro β hβ;refine Z2 _ (aO (fun c0=>?_) fun c0=>?_)
 ·obtain rfl:l=[]:=by
   cases l with
   |nil=>rfl
   |cons x l=>have:=hβ dH;simp_all
  refine aB [] ?_;refine aL (dN 2 ?_);exact dX.nilrow _ _ sz
 refine aD (Z1 _ (aB [0] ?_));refine aL (dN 2 ?_);exact dX.rowL rfl (by rfl)
section
attribute [local go_sem] cJ ite_self
set_option maxRecDepth 20000 in
theorem qG (O:aN) (q:List bJ) (s:Nat) (hO:O s=.row 87 3 (q.map cV)) (hb:q.length≤100):aZ Tryz.prog O 45 [.own s q.length] (yR q):=by
 have hsx:bS O (s+100000)=.row 87 3 (q.map cV):=by rw[cI,hO];rfl
 refine eV Tryz.func45 ?_;refine bB [0] ?_;refine aA fun _ Z1=>aA fun _ Z2=>cM (Le.keepC [0] _) ?_;refine fU ?_;refine ezh ?_;show OW _ _ _ _ _ _;refine bBz (e:=87) (z:=3) (xs:=q.map cV) (s:=s+100000) (n:=q.length) rfl rfl rfl bF bF bF xU srh srh (fun β hβ=>?_);refine gE ?_;refine Z2 _ (aO (fun c0=>?_) fun c0=>?_)
 ·obtain rfl:q=[]:=by
   cases q with
   |nil=>rfl
   |cons x l=>have:=hβ dH;simp_all
  refine bB [] ?_;refine aL (mA 2 ?_);exact dX.nilrow _ _ xU
 refine aD (Z1 _ (aA fun _ Z4=>cS [0] bF ?_));simp (disch:=omega) only[go_sem,seval,hsx]
 repeat refine cP (by first|exact ⟨_,_,rfl,by simp⟩|exact bW _|(simp only[iO,cJ,aPq];omega)|exact kN) ?_
 refine Z4 _ (aL (mA 2 ?_));exact dX.rowL rfl (by rfl)
end
theorem cLl {q:List aY} {i:Nat} (h:i<q.length):(q.map bO).getD i []=bO (q.getD i default):=by
 rw[cA (l:=q.map bO),dG,cH h,cA (l:=q),cH h];rfl
def aXh (q:List aY):Prop:= ∀i,0<i→i<q.length→q.getD i default≠q.getD (i-1) default
theorem aXh.off {q:List aY} (h:aXh q) {i:Nat} (h0:0<i) (hi:i<q.length) {P:Prop} (he:(q.getD i default).fEl=(q.getD (i-1) default).fEl∧(q.getD i default).xAo=(q.getD (i-1) default).xAo):P:=
 absurd ((oZ _ _).2 he) (h i h0 hi)
section
attribute [local go_sem] cLl cJ Nat.mul_one iD ite_self
theorem oD (O:aN) (q:List aY) (s:Nat) (hO:O s=.row 141 2 (q.map bO)) (hb:q.length≤1000) (hn:aXh q):aZ Tryz.prog O 82 [.own s q.length] (.own s q.length):=by
 have hsx:bS O (s+100000)=.row 141 2 (q.map bO):=by rw[cI,hO];rfl
 refine eV Tryz.func82 ?_;refine bB [0] ?_;refine aA fun _ Z1=>bB [0] ?_;refine aO (fun c0=>?_) fun c0=>?_
 ·refine bB [0] ?_;refine aL (mA 2 ?_);exact dX.pure _ (by simp (disch:=omega) only[go_sem,seval,seval]<;>rfl) (by simp (disch:=omega) only[go_sem,seval,seval]<;>exact eK.refl _) rfl
 refine aD (Z1 _ (aA fun _ Z4=>bB [0] ?_));refine aI (aX [0,3] (fun n ρ=> ∃k,n=q.length-k∧(k≤q.length)∧(1≤k)∧ρ=dU O [(0,.own (s+100000) q.length),(3,vi (k:Nat))]) _ ⟨1,rfl,?_,?_,?_⟩ ?_)
 ·exact bD
 ·exact bD
 ·exact eX
 rintro n ρ ⟨k,rfl,l0_0,l0_1,rfl⟩ _ Z6;have hcast:((k:Int)-1).toNat=k-1:=by omega
 refine aA fun _ Z7=>bB [0,3] ?_;refine aO (fun c1=>?_) fun c1=>?_
 ·refine aD (Z7 _ (aA fun _ Z9=>aI (aA fun _ Z10=>jF [0,3] [] ?_)));refine Z10 _ (aO (fun c2=>?_) fun c2=>?_)
  ·exact hn.off aV c1 (by simpa using c2)
  refine aD (Z9 _ (cN [0,3] ?_));refine Z6 _ _ bD ⟨k+1,rfl,bD,bD,?_⟩;exact eX
 refine bA (Z4 _ (bB [0] ?_));refine aL (mA 2 ?_);exact dX.pure _ (by simp (disch:=omega) only[go_sem,seval,seval]<;>rfl) (by simp (disch:=omega) only[go_sem,seval,seval]<;>exact eK.refl _) rfl
end
attribute [go_sem] uJ
abbrev aFm (l:List aY):DV:=encL 2 bO l
abbrev pW (l:List bL):DV:=encL 14 bK l
def aCm (l:List Int) (x:Int):Nat→Int
 |0=> -1
 |n+1=>if l.getD (l.length-(n+1)) default=x then ((l.length-(n+1):Nat):Int) else aCm l x n
theorem cDf {l:List Int} {x:Int} {i:Nat} (hi:i<l.length):aCm l x (l.length-i)=if l.getD i default=x then (i:Int) else aCm l x (l.length-(i+1)):=by
 rw[show l.length-i=(l.length-(i+1))+1 by omega,aCm,show l.length-(l.length-(i+1)+1)=i by omega]
def ptN (t:dC) (i:Nat):Int:=t.xAk.getD i default
def hmN (t:dC) (i:Nat):Int:=t.xBs.getD i default
def ptB (t:dC) (i:Nat):Bool:=decide (0≤ptN t i∧(i=0∨ptN t (i-1)<ptN t i)∧0≤hmN t i∧hmN t i<t.xAe)
def aHd (t:dC):Bool:=decide (t.xBs.length=t.xAk.length)&&(List.range t.xAk.length).all (ptB t)
def sN (l:List aY) (i:Nat):aY:=l.getD i default
def plI (t:dC) (x:Int):Int:=aCm t.xAk x t.xAk.length
def sgB (t:dC) (l:List aY) (i:Nat):Bool:=decide (0≤plI t (sN l i).fEl∧(i=0∨(sN l (i-1)).fEl<(sN l i).fEl)∧1≤(sN l i).xAo∧(sN l i).xAo≤2)
def aTm (t:dC) (l:List aY):Bool:=(List.range l.length).all (sgB t l)
def okS (s:aY) (b:List aY):Bool:=b.all fun t=> !(s.fEl==t.fEl&&s.xAo !=t.xAo)
def aOz (a b:List aY):Bool:=a.all fun s=>okS s b
theorem cIa {p q:aY} (h: ¬p.fEl=q.fEl∨p.xAo=q.xAo):(p.fEl==q.fEl&&p.xAo !=q.xAo)=false:=by rcases h with h|h<;>simp[h]
theorem aXw (s:aY) (a b:List aY):aOz (s::a) b=(okS s b&&aOz a b):=rfl
theorem aYn (s t:aY) (b:List aY):okS s (t::b)=(!(s.fEl==t.fEl&&s.xAo !=t.xAo)&&okS s b):=rfl
theorem sG (O:aN) (l:List Int) (x:Int):aZ Tryz.prog O 162 [d5 l,vi x] (vi (aCm l x l.length)):=by
 refine bG 0 rfl (.sl _ _ _) fun hl=>?_;refine eV Tryz.func162 ?_;refine aB [0,1] ?_;refine aA fun _ Z1=>aB [0,1] ?_;refine aI (aX [0,1,7,8] (fun n ρ=> ∃i,n=l.length-i∧(i≤l.length)∧(aCm l x l.length=aCm l x (l.length-i))∧ρ=dU O [(0,d5 l),(1,vi x),(7,vi (l.length:Nat)),(8,vi (i:Nat))]) _ ⟨0,rfl,?_,?_,?_⟩ ?_)
 ·exact bD
 ·rfl
 ·exact dT
 rintro n ρ ⟨i,rfl,l0_0,l0_1,rfl⟩ _ Z3;refine aB [0,1,7,8] ?_;refine aA fun _ Z5=>aO (fun c0=>?_) fun c0=>?_
 ·refine aD (Z5 _ (aA fun _ Z6=>aI (aB [0,1,7,8] ?_)));refine aB [0,1,5,7,8] ?_;refine aO (fun c1=>?_) fun c1=>?_
  ·refine aB [5] ?_;refine aL (dN 4 ?_);exact dX.is (by simp (disch:=omega) only[go_sem,seval]<;>(rw[l0_1,cDf c0,if_pos (Eq.symm c1)])) rfl rfl
  refine aD (Z6 _ (bE [0,1,7,8] ?_));refine Z3 _ _ bD ⟨i+1,rfl,bD,?_,dT⟩
  ·rw[l0_1,cDf c0,if_neg (fun e=>c1 (Eq.symm e))]
 refine bA (Z1 _ (aB [] ?_));refine aL (dN 4 ?_);exact dX.is (by simp (disch:=omega) only[go_sem,seval]<;>(rw[l0_1,show l.length-i=0 by omega];rfl)) rfl rfl
theorem aNl (O:aN) (t:dC) (x:Int):aZ Tryz.prog O 114 [.agg (dQ t),vi x] (vi (plI t x)):=by
 refine eV Tryz.func114 ?_;refine aB [0,1] ?_;refine aA fun _ Z1=>bN [1,2] ?_;refine f9 (sG _ t.xAk x) ?_;refine Z1 _ (aL (dN 4 ?_));exact dX.is (by simp (disch:=omega) only[go_sem,seval]<;>(rfl)) rfl rfl
theorem fS (O:aN) (a n:Int):aZ Tryz.prog O 122 [vi a,vi n] (vb (decide (0≤a∧a<n))):=by
 refine eV Tryz.func122 ?_;refine aB [0,1] ?_;refine aB [0,1] ?_;refine aL (dN 4 (xb ?_))
 (rw[rE];simp)
theorem zI (O:aN) (t:dC):aZ Tryz.prog O 123 [.agg (dQ t)] (vb (aHd t)):=by
 refine bG 0 rfl (.agg (d:=d5 t.xAk) (by simp[dQ]) (.sl _ _ _)) fun hp=>?_;refine bG 0 rfl (.agg (d:=d5 t.xBs) (by simp[dQ]) (.sl _ _ _)) fun hh=>?_;refine eV Tryz.func123 ?_;refine aB [0] ?_;refine aA fun _ Z1=>aB [1] ?_;refine aO (fun c0=>?_) fun c0=>?_
 ·refine aB [] ?_;refine aL (dN 2 (xb ?_))
  (rw[aHd,e9 aV];rfl)
 refine aD (Z1 _ (aA fun _ Z4=>aB [1] ?_));refine aI (aX [1,13,14,15] (fun n ρ=> ∃i,n=t.xAk.length-i∧(i≤t.xAk.length)∧(nX (ptB t) i)∧ρ=dU O [(1,.bx (dQ t)),(13,d5 t.xAk),(14,vi (t.xAk.length:Nat)),(15,vi (i:Nat))]) _ ⟨0,rfl,?_,?_,?_⟩ ?_)
 ·exact bD
 ·exact lP _
 ·exact dT
 rintro n ρ ⟨i,rfl,l0_0,l0_1,rfl⟩ _ Z6;refine aB [1,12,13,14,15] ?_;refine aA fun _ Z8=>aO (fun c1=>?_) fun c1=>?_
 ·refine aD (Z8 _ (aA fun _ Z9=>aI (aB [1,12,13,14,15] ?_)));refine aA fun _ Z11=>gJ [1,3,4,12,13,14,15] [] ?_;refine rO (fun g0=>fS _ (hmN t i) t.xAe) ?_;refine Z11 _ (aO (fun c2=>?_) fun c2=>?_)
  ·refine aB [] ?_;refine aL (dN 2 (xb ?_))
   (rw[aHd,rR (i:=i) aV (e9 (by simp only[ptN,hmN] at*;omega)),aBt])
  refine aD (Z9 _ (bE [1,12,13,14,15] ?_));refine Z6 _ _ bD ⟨i+1,rfl,bD,?_,dT⟩
  ·exact kE l0_1 (dF (by simp only[ptN,hmN] at*;omega))
 refine bA (Z4 _ (aB [] ?_));refine aL (dN 2 (xb ?_))
 (rw[aHd,t6 l0_1 aV,dF aV];rfl)
theorem l5 (O:aN) (t:dC) (l:List aY):aZ Tryz.prog O 125 [.agg (dQ t),aFm l] (vb (aTm t l)):=by
 refine bG 1 rfl (.sl _ _ _) fun hl=>?_;refine eV Tryz.func125 ?_;refine aB [0,1] ?_;refine aA fun _ Z1=>aB [1,2] ?_;refine aI (aX [1,2,7,8,9] (fun n ρ=> ∃i,n=l.length-i∧(i≤l.length)∧(nX (sgB t l) i)∧ρ=dU O [(1,aFm l),(2,.bx (dQ t)),(7,aFm l),(8,vi (l.length:Nat)),(9,vi (i:Nat))]) _ ⟨0,rfl,?_,?_,?_⟩ ?_)
 ·exact bD
 ·exact lP _
 ·exact dT
 rintro n ρ ⟨i,rfl,l0_0,l0_1,rfl⟩ _ Z3;refine aB [1,2,7,8,9] ?_;refine aA fun _ Z5=>aO (fun c0=>?_) fun c0=>?_
 ·refine aD (Z5 _ (aA fun _ Z6=>aI (aB [1,2,7,8,9] ?_)));refine aA fun _ Z8=>aA fun _ Z9=>gJ [1,2,5,6,7,8,9] [] ?_;refine rO (fun g0=>aNl _ t (sN l i).fEl) ?_;refine Z9 _ (aO (fun c1=>?_) fun c1=>?_)
  ·refine aB [] ?_;refine aL (dN 4 (xb ?_))
   (rw[aTm,rR (i:=i) aV (e9 (by simp only[sN] at*;omega))])
  refine aD (Z8 _ (aB [1,2,6,7,8,9] ?_));refine aO (fun c2=>?_) fun c2=>?_
  ·refine aB [] ?_;refine aL (dN 4 (xb ?_))
   (rw[aTm,rR (i:=i) aV (e9 (by simp only[sN] at*;omega))])
  refine aD (Z6 _ (bE [1,2,7,8,9] ?_));refine Z3 _ _ bD ⟨i+1,rfl,bD,?_,dT⟩
  ·exact kE l0_1 (dF (by simp only[sN] at*;omega))
 refine bA (Z1 _ (aB [] ?_));refine aL (dN 4 (xb ?_))
 (rw[aTm,t6 l0_1 aV])
theorem pO (O:aN) (a b:List aY):aZ Tryz.prog O 126 [aFm a,aFm b] (vb (aOz a b)):=by
 refine bG 0 rfl (.sl _ _ _) fun ha=>?_;refine bG 1 rfl (.sl _ _ _) fun hb=>?_;refine eV Tryz.func126 ?_;refine aB [0,1] ?_;refine aA fun _ Z1=>aB [0,1] ?_;refine aI (aX [1,9,10,11] (fun n ρ=> ∃i,n=a.length-i∧(i≤a.length)∧(aOz a b=aOz (a.drop i) b)∧ρ=dU O [(1,aFm b),(9,aFm a),(10,vi (a.length:Nat)),(11,vi (i:Nat))]) _ ⟨0,rfl,?_,?_,?_⟩ ?_)
 ·exact bD
 ·rfl
 ·exact dT
 rintro n ρ ⟨i,rfl,l0_0,l0_1,rfl⟩ _ Z3;refine aB [0,1,9,10,11] ?_;refine aA fun _ Z5=>aO (fun c0=>?_) fun c0=>?_
 ·refine aD (Z5 _ (aA fun _ Z6=>aI (aB [0,1,9,10,11] ?_)));refine aB [0,1,6,9,10,11] ?_;refine aI (aX [1,9,10,11,6,15,16,17] (fun n ρ=> ∃j,n=b.length-j∧(j≤b.length)∧(okS (a.getD i default) b=okS (a.getD i default) (b.drop j))∧ρ=dU O [(1,aFm b),(9,aFm a),(10,vi (a.length:Nat)),(11,vi (i:Nat)),(6,.bx (bO (a.getD i default))),(15,aFm b),(16,vi (b.length:Nat)),(17,vi (j:Nat))]) _ ⟨0,rfl,?_,?_,?_⟩ ?_)
  ·exact bD
  ·rfl
  ·exact dT
  rintro n ρ ⟨j,rfl,l1_0,l1_1,rfl⟩ _ Z9;refine aB [0,1,6,9,10,11,15,16,17] ?_;refine aA fun _ Z11=>aO (fun c1=>?_) fun c1=>?_
  ·refine aD (Z11 _ (aA fun _ Z12=>aI (aB [0,1,6,9,10,11,15,16,17] ?_)));refine aB [0,1,6,8,9,10,11,15,16,17] ?_;refine dY ((a.getD i default).fEl==(b.getD j default).fEl&&(a.getD i default).xAo !=(b.getD j default).xAo) (by rfl) (rfl) (fun c2=>?_) (fun c2=>?_)
   ·try simp only[push_cast] at c2
    refine aB [] ?_;refine aL (dN 4 (xb ?_))
    (rw[l0_1,dL default c0,aXw,l1_1,dL default c1,aYn,show ((a.getD i default).fEl==(b.getD j default).fEl&&(a.getD i default).xAo !=(b.getD j default).xAo)=true by simpa using c2];rfl)
   try simp only[push_cast] at c2
   refine aD (Z12 _ (bE [0,1,6,9,10,11,15,16,17] ?_));refine Z9 _ _ bD ⟨j+1,rfl,bD,?_,dT⟩
   ·rw[l1_1,dL default c1,aYn,cIa c2];rfl
  refine bA (Z6 _ (bE [0,1,9,10,11] ?_));refine Z3 _ _ bD ⟨i+1,rfl,bD,?_,dT⟩
  ·rw[l0_1,dL default c0,aXw,l1_1,iW c1];rfl
 refine bA (Z1 _ (aB [] ?_));refine aL (dN 4 (xb ?_))
 (rw[l0_1,iW c0];rfl)
end Go.Sg
namespace Go.Sg
open Go.RowKit
theorem aNp (z:Array Value) (n:Nat):(Builtin.zeroCells z n).size=n*z.size:=by simp[Builtin.zeroCells]
theorem aCj {P:Program} {ρ:Go.Shelf.Ren} (L:Go.Proofs.Lays8.n4 P ρ) {e z by_:Nat} {t:TypeId} {zs:List Value} (ht:ρ.t 22=t) (he:ρ.t 25=e) (hsl:nE P t=some (e,z,by_)) (hz:eW P e=some zs) (hz0:0<z) (hzl:zs.length=z) {f:FuncId} (hf:ρ.f 4=f) (O:aN) (n:Nat) (hn:0<n) (hb:n*by_≤140737488355328) (hb2:n≤4611686018427387904):
  aZ P O f [.v (.slice none 0 0),.v (.int .i64 n)] (.row e z []):=by
 obtain ⟨hu,i,hi,rfl,rfl⟩:=lC hsl;obtain ⟨i',zv,hi',hzv,rfl,hone⟩:=lQ hz;rw[hi] at hi';cases hi';subst ht;subst he;subst hf;intro w I A vals hO hl hv;obtain ⟨v0,v1,rfl⟩: ∃v0 v1,vals= #[v0,v1]:=by
  obtain ⟨l⟩:=vals
  match l,hl with
  | [a,b],_=>exact ⟨a,b,rfl⟩
 have h0:=hv 0 _ _ rfl rfl;have h1:=hv 1 _ _ rfl rfl;cases h0;cases h1;have hG:=grownCap_ge w (0+n) 0 (ρ.t 25);have hGm:=grownCap_le_maxLen w (0+n) 0 (ρ.t 25) (by unfold maxLen;omega);have:=Go.Proofs.Any8.slices_Grow_grow L i zv hi hzv hz0 none 0 0 n [] w aV aV (by simpa using hb) aV dH (fun _=>rfl) dH;refine this.mono fun e' w' ⟨q1,q2⟩=>?_;subst q2;have hgr:oT w I (w.drew.alloc (.cells ((#[]:Array Value)++Builtin.zeroCells zv.cells (0+n-0)++Builtin.zeroCells zv.cells (grownCap w (0+n) 0 (ρ.t 25)-(0+n))) (ρ.t 25))) I:=
  ⟨rfl,⟨rfl,xJ _⟩,rfl,by simp,fun g hg=>(Below.heap_alloc w.drew _ g hg).trans rfl,fun _ h=>h,fun _ h=>.inl h⟩
 refine ⟨_,I,O,.row (ρ.t 25) i.size [],q1,hgr.osim hO,fun _=>fR.refl _,fun _ h=>h,hgr.ext hO,?_,rfl,rfl⟩;refine ⟨some w.heap.size,grownCap w (0+n) 0 (ρ.t 25),⟨_,sY _,rfl⟩,?_,fun g hg=>?_⟩
 ·refine ⟨_,Array.getElem?_push_size (xs:=w.drew.heap),?_,hGm,nJ _,fun j x hx=>by simp at hx⟩;simp only[Array.size_append,aNp];have hzs:zv.cells.size=i.size:=by simpa using hzl
  rw[hzs];have:(0+n-0)*i.size+(grownCap w (0+n) 0 (ρ.t 25)-(0+n))*i.size=grownCap w (0+n) 0 (ρ.t 25)*i.size:=by
   rw[← Nat.add_mul];congr 1;omega
  simpa using this
 cases hg;exact ⟨bW _,by simp,fun h=>Nat.lt_irrefl _ (hO.imm _ h)⟩
theorem zH {P:Program} {ρ:Go.Shelf.Ren} (L:Go.Proofs.Lays8.n4 P ρ) {t:TypeId} (ht:ρ.t 22=t) {f:FuncId} (hf:ρ.f 4=f) (O:aN) (e z:Nat):
  aZ P O f [.v (.slice none 0 0),.v (.int .i64 (0:Nat))] (.row e z []):=by
 subst ht;subst hf;intro w I A vals hO hl hv;obtain ⟨v0,v1,rfl⟩: ∃v0 v1,vals= #[v0,v1]:=by
  obtain ⟨l⟩:=vals
  match l,hl with
  | [a,b],_=>exact ⟨a,b,rfl⟩
 have h0:=hv 0 _ _ rfl rfl;have h1:=hv 1 _ _ rfl rfl;cases h0;cases h1;refine (Go.Proofs.Any8.slices_Grow_room L none 0 0 0 w aV aV aV aV).mono fun e' w' ⟨q1,q2⟩=>?_;subst q2;exact ⟨_,I,O,.row e z [],q1,hO,fun _=>fR.refl _,fun _ h=>h,f8.refl _ _ _,⟨none,0,⟨none,lY _,rfl⟩,⟨rfl,rfl⟩,fun g hg=>by cases hg⟩,rfl,rfl⟩
end Go.Sg
namespace Go.Proofs
open Go.Shelf
def Tryz.laysM171_ren:Go.Shelf.Ren:=⟨fun|171=>147|243=>190|246=>212|283=>220|284=>221|285=>222|286=>223|129=>175|317=>226|318=>227|319=>228|320=>229|337=>234|338=>235|n=>n,fun|3=>3|9=>9|2=>2|4=>4|171=>340|0=>0|53=>296|37=>342|5=>5|173=>343|212=>347|51=>294|20=>20|213=>348|46=>235|232=>352|233=>353|n=>n,fun|17=>2|18=>3|19=>4|n=>n⟩
theorem Tryz.laysM171:Go.Proofs.LaysM.n171 Tryz.prog Tryz.laysM171_ren:={
 mixed:=by kernel_rfl
 f129:=Tryz.func175.trans (congrArg some bF)
 f171:=Tryz.func147.trans (congrArg some bF)
 f243:=Tryz.func190.trans (congrArg some bF)
 f246:=Tryz.func212.trans (congrArg some bF)
 f283:=Tryz.func220.trans (congrArg some bF)
 f284:=Tryz.func221.trans (congrArg some bF)
 f285:=Tryz.func222.trans (congrArg some bF)
 f286:=Tryz.func223.trans (congrArg some bF)
 f317:=Tryz.func226.trans (congrArg some bF)
 f318:=Tryz.func227.trans (congrArg some bF)
 f319:=Tryz.func228.trans (congrArg some bF)
 f320:=Tryz.func229.trans (congrArg some bF)
 f337:=Tryz.func234.trans (congrArg some bF)
 f338:=Tryz.func235.trans (congrArg some bF)
 t0:=Tryz.underlying0
 a0:=Tryz.isAgg0
 z0:=Tryz.sizeOf0
 v0:=Tryz.zeroValue0
 t2:=Tryz.underlying2
 a2:=Tryz.isAgg2
 z2:=Tryz.sizeOf2
 v2:=Tryz.zeroValue2
 t3:=Tryz.underlying3
 a3:=Tryz.isAgg3
 z3:=Tryz.sizeOf3
 v3:=Tryz.zeroValue3
 t4:=Tryz.underlying4
 a4:=Tryz.isAgg4
 z4:=Tryz.sizeOf4
 v4:=Tryz.zeroValue4
 t5:=Tryz.underlying5
 a5:=Tryz.isAgg5
 z5:=Tryz.sizeOf5
 v5:=Tryz.zeroValue5
 t9:=Tryz.underlying9
 a9:=Tryz.isAgg9
 z9:=Tryz.sizeOf9
 v9:=Tryz.zeroValue9
 t20:=Tryz.underlying20
 a20:=Tryz.isAgg20
 z20:=Tryz.sizeOf20
 v20:=Tryz.zeroValue20
 t37:=Tryz.underlying342
 a37:=Tryz.isAgg342
 z37:=Tryz.sizeOf342
 v37:=Tryz.zeroValue342
 t46:=Tryz.underlying235
 a46:=Tryz.isAgg235
 z46:=Tryz.sizeOf235
 v46:=Tryz.zeroValue235
 t51:=Tryz.underlying294
 a51:=Tryz.isAgg294
 z51:=Tryz.sizeOf294
 v51:=Tryz.zeroValue294
 t53:=Tryz.underlying296
 a53:=Tryz.isAgg296
 z53:=Tryz.sizeOf296
 v53:=Tryz.zeroValue296
 t171:=Tryz.underlying340
 a171:=Tryz.isAgg340
 z171:=Tryz.sizeOf340
 v171:=Tryz.zeroValue340
 t173:=Tryz.underlying343
 a173:=Tryz.isAgg343
 z173:=Tryz.sizeOf343
 v173:=Tryz.zeroValue343
 t212:=Tryz.underlying347
 a212:=Tryz.isAgg347
 z212:=Tryz.sizeOf347
 v212:=Tryz.zeroValue347
 t213:=Tryz.underlying348
 a213:=Tryz.isAgg348
 z213:=Tryz.sizeOf348
 t232:=Tryz.underlying352
 a232:=Tryz.isAgg352
 z232:=Tryz.sizeOf352
 v232:=Tryz.zeroValue352
 t233:=Tryz.underlying353
 a233:=Tryz.isAgg353
 z233:=Tryz.sizeOf353
 v233:=Tryz.zeroValue353
 g17:=by kernel_rfl
 g18:=by kernel_rfl
 g19:=by kernel_rfl
 i0:=by kernel_rfl
 i2:=by kernel_rfl
 i3:=by kernel_rfl
 i4:=by kernel_rfl
 i5:=by kernel_rfl
 i9:=by kernel_rfl
 i20:=by kernel_rfl
 i37:=by kernel_rfl
 i46:=by kernel_rfl
 i51:=by kernel_rfl
 i53:=by kernel_rfl
 i171:=by kernel_rfl
 i173:=by kernel_rfl
 i212:=by kernel_rfl
 i232:=by kernel_rfl
 i233:=by kernel_rfl
 m17:=by kernel_rfl
 m18:=by kernel_rfl
 m19:=by kernel_rfl}
open Go.RowKit Go.Sort Go.Lib in
theorem Tryz.strconv_Itoa (n:Int) (h0: -9223372036854775808≤n) (h1:n≤9223372036854775807) (w:World) (htab:Lib.TabIs Tryz.prog w "internal/strconv.uint64pow10" .u64 Lib.pow10Tab):
  Calls Tryz.prog 147 #[.int .i64 n] w fun e w'=>e=.returned (.string ⟨(Lib.itoa n).toArray⟩)∧ ∃k os,w'=grow (w.drewN k) os:=Any.strconv_Itoa Tryz.laysM171 n h0 h1 w htab
def Tryz.lays189_ren:Go.Shelf.Ren:=⟨fun|189=>73|125=>121|257=>120|128=>174|129=>175|294=>165|295=>166|296=>167|297=>168|298=>169|299=>170|216=>171|300=>172|301=>173|328=>199|329=>200|330=>201|331=>202|332=>203|215=>131|343=>217|n=>n,fun|28=>35|3=>3|46=>235|0=>0|51=>294|53=>296|4=>4|183=>288|182=>287|131=>180|5=>5|9=>9|218=>319|222=>323|228=>336|229=>337|n=>n,fun|n=>n⟩
theorem Tryz.lays189:Go.Proofs.Lays.n189 Tryz.prog Tryz.lays189_ren:={
 mixed:=by kernel_rfl
 f125:=Tryz.func121.trans (congrArg some bF)
 f128:=Tryz.func174.trans (congrArg some bF)
 f129:=Tryz.func175.trans (congrArg some bF)
 f189:=Tryz.func73.trans (congrArg some bF)
 f215:=Tryz.func131.trans (congrArg some bF)
 f216:=Tryz.func171.trans (congrArg some bF)
 f257:=Tryz.func120.trans (congrArg some bF)
 f294:=Tryz.func165.trans (congrArg some bF)
 f295:=Tryz.func166.trans (congrArg some bF)
 f296:=Tryz.func167.trans (congrArg some bF)
 f297:=Tryz.func168.trans (congrArg some bF)
 f298:=Tryz.func169.trans (congrArg some bF)
 f299:=Tryz.func170.trans (congrArg some bF)
 f300:=Tryz.func172.trans (congrArg some bF)
 f301:=Tryz.func173.trans (congrArg some bF)
 f328:=Tryz.func199.trans (congrArg some bF)
 f329:=Tryz.func200.trans (congrArg some bF)
 f330:=Tryz.func201.trans (congrArg some bF)
 f331:=Tryz.func202.trans (congrArg some bF)
 f332:=Tryz.func203.trans (congrArg some bF)
 f343:=Tryz.func217.trans (congrArg some bF)
 t0:=Tryz.underlying0
 a0:=Tryz.isAgg0
 z0:=Tryz.sizeOf0
 v0:=Tryz.zeroValue0
 t3:=Tryz.underlying3
 a3:=Tryz.isAgg3
 z3:=Tryz.sizeOf3
 v3:=Tryz.zeroValue3
 t4:=Tryz.underlying4
 a4:=Tryz.isAgg4
 z4:=Tryz.sizeOf4
 v4:=Tryz.zeroValue4
 t5:=Tryz.underlying5
 a5:=Tryz.isAgg5
 z5:=Tryz.sizeOf5
 v5:=Tryz.zeroValue5
 t9:=Tryz.underlying9
 a9:=Tryz.isAgg9
 z9:=Tryz.sizeOf9
 v9:=Tryz.zeroValue9
 t28:=Tryz.underlying35
 a28:=Tryz.isAgg35
 z28:=Tryz.sizeOf35
 v28:=Tryz.zeroValue35
 t46:=Tryz.underlying235
 a46:=Tryz.isAgg235
 z46:=Tryz.sizeOf235
 v46:=Tryz.zeroValue235
 t51:=Tryz.underlying294
 a51:=Tryz.isAgg294
 z51:=Tryz.sizeOf294
 v51:=Tryz.zeroValue294
 t53:=Tryz.underlying296
 a53:=Tryz.isAgg296
 z53:=Tryz.sizeOf296
 v53:=Tryz.zeroValue296
 t131:=Tryz.underlying180
 a131:=Tryz.isAgg180
 z131:=Tryz.sizeOf180
 v131:=Tryz.zeroValue180
 t182:=Tryz.underlying287
 a182:=Tryz.isAgg287
 z182:=Tryz.sizeOf287
 v182:=Tryz.zeroValue287
 t183:=Tryz.underlying288
 a183:=Tryz.isAgg288
 z183:=Tryz.sizeOf288
 v183:=Tryz.zeroValue288
 t218:=Tryz.underlying319
 a218:=Tryz.isAgg319
 z218:=Tryz.sizeOf319
 v218:=Tryz.zeroValue319
 t222:=Tryz.underlying323
 a222:=Tryz.isAgg323
 z222:=Tryz.sizeOf323
 v222:=Tryz.zeroValue323
 t228:=Tryz.underlying336
 a228:=Tryz.isAgg336
 z228:=Tryz.sizeOf336
 v228:=Tryz.zeroValue336
 t229:=Tryz.underlying337
 a229:=Tryz.isAgg337
 z229:=Tryz.sizeOf337
 v229:=Tryz.zeroValue337}
open Go.Sort Go.RowKit in
theorem Tryz.slices_Sort_int (blk off cap:Nat) (zs:List Int) (w:World) (hH:Holds (Value.int .i64) w blk off zs.toArray) (hblk:blk<w.heap.size) (hsz:zs.length<4611686018427387904):
  Calls Tryz.prog 73 #[.slice (some ⟨blk,off,none⟩) zs.length cap] w fun e w'=>
   e=.returned (.tuple #[])∧ ∃n os,w'=grow (putRow (Value.int .i64) (Sort.ahead w n) blk off (zs.mergeSort fun x y=>decide (x≤y)).toArray) os:=Any.slices_Sort_int Tryz.lays189 blk off cap zs w hH hblk hsz
def Tryz.laysNm220_ren:Go.Shelf.Ren:=⟨fun|20=>104|n=>n,fun|22=>35|3=>3|4=>4|0=>0|n=>n,fun|n=>n⟩
theorem Tryz.laysNm220:Go.Proofs.Lays2.n20 Tryz.prog Tryz.laysNm220_ren:={
 mixed:=by kernel_rfl
 f20:=Tryz.func104.trans (congrArg some bF)
 t0:=Tryz.underlying0
 a0:=Tryz.isAgg0
 z0:=Tryz.sizeOf0
 v0:=Tryz.zeroValue0
 t3:=Tryz.underlying3
 a3:=Tryz.isAgg3
 z3:=Tryz.sizeOf3
 v3:=Tryz.zeroValue3
 t4:=Tryz.underlying4
 a4:=Tryz.isAgg4
 z4:=Tryz.sizeOf4
 v4:=Tryz.zeroValue4
 t22:=Tryz.underlying35
 a22:=Tryz.isAgg35
 z22:=Tryz.sizeOf35
 v22:=Tryz.zeroValue35
 i3:=by kernel_rfl}
open Go.RowKit Go.Lib Go.Sort in
theorem Tryz.slices_Compact_int (blk off cap:Nat) (zs:List Int) (w:World) (hH:Holds (Value.int .i64) w blk off zs.toArray) (hsz:zs.length≤9223372036854775807) (hcap:zs.length≤cap):
  Calls Tryz.prog 104 #[.slice (some ⟨blk,off,none⟩) zs.length cap] w fun e w'=>e=.returned (.slice (some ⟨blk,off,none⟩) (Lib.compact zs).length cap)∧ ∃q,w'=putRow (Value.int .i64) (Sort.ahead w q) blk off (Lib.compact zs++List.replicate (zs.length-(Lib.compact zs).length) 0).toArray:=Any.slices_Compact_int Tryz.laysNm220 blk off cap zs w hH hsz hcap
open Go.RowKit Go.Lib Go.Sort in
theorem Tryz.slices_Compact_int_empty (a:Option Addr) (cap:Nat) (w:World):
  Calls Tryz.prog 104 #[.slice a 0 cap] w fun e w'=>e=.returned (.slice a 0 cap)∧w'=w:=Any.slices_Compact_int_empty Tryz.laysNm220 a cap w
open Go.RowKit Go.Sort in
theorem Tryz.slices_Sort_int_none (p:Option Addr) (cap:Nat) (w:World):
  Calls Tryz.prog 73 #[.slice p 0 cap] w fun e w'=>e=.returned (.tuple #[])∧w'=w:=Any.slices_Sort_int_none Tryz.lays189 p cap w
end Go.Proofs
namespace Go.Sg
open Go.Proofs
abbrev aNm (ls:List (List Int)):DV:=encL 1 (fun l=>[d5 l]) ls
def uM (u:List Bool):List DV:=u.map vb
theorem bKy (u:List Bool):(uM u).length=u.length:=by simp[uM]
theorem bKl {u:List Bool} {k:Nat} (h:k<u.length):(uM u).getD k .any=vb (u.getD k false):=by
 simp[uM,cA,h]
theorem bVq {u:List Bool} {k:Nat} (h:u.length≤k):(uM u).getD k .any=.any:=by
 simp[uM,cA,h]
theorem bKd {u:List Bool} {k:Nat} {b:Bool}:(uM u).set k (.v (.bool b))=uM (u.set k b):=by
 unfold uM;rw[List.map_set]
theorem bIl {u:List Bool} {k:Nat} {b:Bool} (h:k<u.length):spl k [.v (.bool b)] (uM u)=uM (u.set k b):=by
 rw[aCk (by simp[uM];omega)];unfold uM;rw[List.map_set,List.set_eq_take_append_cons_drop,if_pos (by simpa using h)];simp
abbrev iN (l:List Int) (i:Nat):Int:=l.getD i default
def aVc (t:dC) (l:List Int) (i:Nat):Bool:=decide (0≤iN l i∧iN l i<t.xAe)&&(List.range i).all fun k=> !(iN l k==iN l i)
def aIt (t:dC) (l:List Int):Bool:=(List.range l.length).all (aVc t l)
def rtO (t:dC) (r:bL):Bool:=decide (0≤r.xBh∧r.xBh<t.xAa∧ -1≤r.xBd∧r.xBd<t.xAa∧1≤r.xAf.length∧r.xAf.length≤12∧1≤r.xAn∧0<r.xAe.length∧0≤r.xBg∧r.xBg<t.xAe)
def rtB (t:dC) (r:bL):Bool:=rtO t r&&aIt t (r.xAe++r.xAr)
def usd (l:List Int) (u:List Bool) (i:Nat):Prop:=u.length=24∧ ∀j:Nat,j<24→(u.getD j false=true↔ ∃k,k<i∧iN l k=(j:Int))
theorem cQm (l:List Int):usd l (List.replicate 24 false) 0:=⟨rfl,fun j hj=>by
 rw[cA,List.getElem?_replicate,if_pos hj];exact ⟨fun h=>by simp at h,fun ⟨k,hk,_⟩=>absurd hk (aKv _)⟩⟩
theorem cNi {l:List Int} {u:List Bool} {i:Nat} (h:usd l u i) (h1:0≤iN l i) (h2:iN l i<24):usd l (u.set (iN l i).toNat true) (i+1):=⟨by rw[aDh];exact h.1,fun j hj=>by
 have hl:=h.1;by_cases e:(iN l i).toNat=j
 ·subst e;constructor
  ·intro _;exact ⟨i,by omega,by omega⟩
  intro _;rw[cA,List.getElem?_set_self aV];rfl
 rw[cA,List.getElem?_set_ne e,← cA,h.2 j hj];constructor
 ·rintro ⟨k,hk,hj'⟩;exact ⟨k,by omega,hj'⟩
 rintro ⟨k,hk,hj'⟩;refine ⟨k,?_,hj'⟩;rcases uU (aBz hk) with q|q
 ·exact q
 subst q;exact absurd aV e⟩
theorem cMl {t:dC} {l:List Int} {u:List Bool} {i:Nat} (h:usd l u i) (h1:0≤iN l i) (h2:iN l i<24) (hu:u.getD (iN l i).toNat false=true):aVc t l i=false:=by
 obtain ⟨k,hk,e⟩:=(h.2 _ aV).1 hu;unfold aVc;rw[rR hk (by rw[aPy,mV];omega),aBt]
theorem cOs {t:dC} {l:List Int} {u:List Bool} {i:Nat} (h:usd l u i) (h1:0≤iN l i) (h2:iN l i<t.xAe) (h3:iN l i<24) (hu:u.getD (iN l i).toNat false=false):aVc t l i=true:=by
 unfold aVc;rw[dF ⟨h1,h2⟩,zG,dI];intro k hk;have hk:=gU.1 hk;rw[mH,oF];intro e;rw[(h.2 _ aV).2 ⟨k,hk,by omega⟩] at hu;cases hu
def bTg:Go.Shelf.Ren:=⟨fun|4=>204|n=>n,fun|22=>35|25=>3|n=>n,fun|n=>n⟩
theorem aQh:Go.Proofs.Lays8.n4 Tryz.prog bTg:={
 mixed:=by kernel_rfl
 f4:=⟨Tryz.f204.name,by decide,Tryz.func204.trans (congrArg some bF)⟩
 t0:=Tryz.underlying0
 a0:=Tryz.isAgg0
 z0:=Tryz.sizeOf0
 v0:=Tryz.zeroValue0
 t3:=Tryz.underlying3
 a3:=Tryz.isAgg3
 z3:=Tryz.sizeOf3
 v3:=Tryz.zeroValue3
 t4:=Tryz.underlying4
 a4:=Tryz.isAgg4
 z4:=Tryz.sizeOf4
 v4:=Tryz.zeroValue4
 t9:=Tryz.underlying9
 a9:=Tryz.isAgg9
 z9:=Tryz.sizeOf9
 v9:=Tryz.zeroValue9
 t20:=Tryz.underlying20
 a20:=Tryz.isAgg20
 z20:=Tryz.sizeOf20
 v20:=Tryz.zeroValue20
 t22:=Tryz.underlying35
 a22:=Tryz.isAgg35
 z22:=Tryz.sizeOf35
 v22:=Tryz.zeroValue35}
theorem aCi (O:aN) (n:Nat) (hn:0<n) (hb:n≤1000000):aZ Tryz.prog O 204 [.v (.slice none 0 0),vi n] (rowL 3 1 eI []):=
 aCj aQh rfl rfl (show nE Tryz.prog 35=some (3,1,8) by kernel_rfl) (show eW Tryz.prog 3=some [.int .i64 0] by kernel_rfl) eN rfl rfl O n hn aV aV
theorem aDv (O:aN) (n:Nat) (hb:n≤1000000):aZ Tryz.prog O 204 [.v (.slice none 0 0),vi n] (rowL 3 1 eI []):=by
 rcases nL n with h|h
 ·subst h;exact zH aQh rfl rfl O 3 1
 exact aCi O n h hb
section
attribute [local go_sem] uJ
theorem aAp (O:aN) (ls:List (List Int)) (hb:ls.flatten.length≤100000):aZ Tryz.prog O 176 [aNm ls] (rowL 3 1 eI ls.flatten):=by
 refine bG 0 rfl (.sl _ _ _) fun hl=>?_;refine eV Tryz.func176 ?_;refine aB [0] ?_;refine aB [0] ?_;refine aA fun _ Z2=>aB [0,3] ?_;refine aI (aX [0,3,9,10,11] (fun n ρ=> ∃i,∃s,n=ls.length-i∧(i≤ls.length)∧(s+(ls.drop i).flatten.length=ls.flatten.length)∧ρ=dU O [(0,aNm ls),(3,vi (s:Nat)),(9,aNm ls),(10,vi (ls.length:Nat)),(11,vi (i:Nat))]) _ ⟨0,0,rfl,?_,?_,?_⟩ ?_)
 ·exact bD
 ·simp
 ·exact dT
 rintro n ρ ⟨i,s,rfl,l0_0,l0_1,rfl⟩ _ Z4;refine aB [0,3,9,10,11] ?_;refine aA fun _ Z6=>aO (fun c0=>?_) fun c0=>?_
 ·refine aD (Z6 _ (aA fun _ Z7=>aI (aB [0,3,9,10,11] ?_)));refine aA fun _ Z9=>?_;have hs:s+(ls.getD i default).length+(ls.drop (i+1)).flatten.length=ls.flatten.length:=by rw[← l0_1,dL default c0,List.flatten_cons,fP];omega
  refine bE [0,3,5,9,10,11,13] ?_;refine Z9 _ (aB [0,3,9,10,11] ?_);refine aO (fun c1=>?_) fun c1=>?_
  ·omega
  refine aD (Z7 _ (bE [0,3,9,10,11] ?_));refine Z4 _ _ bD ⟨i+1,s+(ls.getD i default).length,rfl,bD,?_,dT⟩
  ·exact hs
 refine bA (Z2 _ (aA fun _ Z11=>bN [0,3] ?_));refine f9 (aDv _ s aV) ?_;refine Z11 _ (aA fun _ Z12=>aB [0,6] ?_);refine aI (aX [6,25,26,27] (fun n ρ=> ∃j,∃out,n=ls.length-j∧(j≤ls.length)∧(out++(ls.drop j).flatten=ls.flatten)∧ρ=dU O [(6,rowL 3 1 eI out),(25,aNm ls),(26,vi (ls.length:Nat)),(27,vi (j:Nat))]) _ ⟨0,[],rfl,?_,?_,?_⟩ ?_)
 ·exact bD
 ·rfl
 ·exact dT
 rintro n ρ ⟨j,out,rfl,l1_0,l1_1,rfl⟩ _ Z14;refine aB [0,6,25,26,27] ?_;refine aA fun _ Z16=>aO (fun c2=>?_) fun c2=>?_
 ·refine aD (Z16 _ (aA fun _ Z17=>aI (aB [0,6,25,26,27] ?_)));have hs:(out++ls.getD j default).length≤ls.flatten.length:=by rw[← l1_1,dL default c2,List.flatten_cons,fP,fP,fP];omega
  rw[fP] at hs;refine bE [0,6,8,25,26,27,29] ?_;refine Z17 _ (bE [0,6,25,26,27] ?_);refine Z14 _ _ bD ⟨j+1,out++ls.getD j default,rfl,bD,?_,dT⟩
  ·rw[← l1_1,dL default c2,List.flatten_cons,tB]
 refine bA (Z12 _ (aB [6] ?_));refine aL (dN 2 ?_);exact dX.ownL rfl aV rfl rfl (by rw[← l1_1,iW c2];simp)
end
theorem yZ (O:aN) (ls:List (List Int)) (hb:ls.flatten.length≤100000):aZ Tryz.prog O 176 [aNm ls] (d5 ls.flatten):=dA (aAp O ls hb)
theorem cOc (O:aN) (a b:List Int) (hb:(a++b).length≤100000):aZ Tryz.prog O 176 [aNm [a,b]] (d5 (a++b)):=by
 have:=yZ O [a,b] (by simpa using hb);simpa using this
theorem bVl (O:aN) {a n:Int} (h:0≤a∧a<n):aZ Tryz.prog O 122 [vi a,vi n] (vb true):=by
 have:=fS O a n
 rwa [dF h] at this
theorem aWw (O:aN) {a n:Int} (h: ¬(0≤a∧a<n)):aZ Tryz.prog O 122 [vi a,vi n] (vb false):=by
 have:=fS O a n
 rwa [e9 h] at this
theorem cEc {t:dC} {r:bL} (h:rtO t r=false):rtB t r=false:=by rw[rtB,h];rfl
theorem bTy {t:dC} {r:bL} (h:aIt t (r.xAe++r.xAr)=false):rtB t r=false:=by rw[rtB,h,aBt]
section
attribute [local go_sem] bKy bKl bVq bIl bKd Nat.mul_one Bool.not_false Bool.not_true
theorem aAr (O:aN) (t:dC) (r:bL) (hs:t.xAe≤24) (hb:(r.xAe++r.xAr).length≤100000):aZ Tryz.prog O 124 [.agg (dQ t),.agg (bK r)] (vb (rtB t r)):=by
 refine bG 1 rfl (.agg (d:=encL 3 cV r.xAf) (by simp[bK]) (.sl _ _ _)) fun hq=>?_;refine bG 1 rfl (.agg (d:=d5 r.xAe) (by simp[bK]) (.sl _ _ _)) fun h5=>?_;refine eV Tryz.func124 ?_;refine aB [0,1] ?_;refine aA fun _ Z1=>aA fun _ Z2=>bN [2,3] ?_;refine f9 (fS _ r.xBh t.xAa) ?_;refine rO (fun g0=>fS _ r.xBd t.xAa) ?_;refine Z2 _ (aO (fun c0=>?_) fun c0=>?_)
 ·refine aB [] ?_;refine aL (dN 4 (xb ?_))
  (exact (cEc (t:=t) (r:=r) (e9 aV)).symm)
 refine aD (Z1 _ (aA fun _ Z4=>aB [2,3] ?_));refine aO (fun c1=>?_) fun c1=>?_
 ·refine aB [] ?_;refine aL (dN 4 (xb ?_))
  (exact (cEc (t:=t) (r:=r) (e9 aV)).symm)
 refine aD (Z4 _ (aB [2,3] ?_));refine aA fun _ Z8=>aA fun _ Z9=>bN [2,3,5] ?_;refine f9 (jB [aNm [r.xAe,r.xAr]] (.cons (eK.litL [r.xAe,r.xAr] rfl rfl) .nil) (cOc _ r.xAe r.xAr hb)) ?_;refine Z9 _ (aI (aX [2,3,5,48,49,50] (fun n ρ=> ∃i,∃u,n=(r.xAe++r.xAr).length-i∧(i≤(r.xAe++r.xAr).length)∧(nX (aVc t (r.xAe++r.xAr)) i)∧(u.length=24)∧(usd (r.xAe++r.xAr) u i)∧ρ=dU O [(2,.bx (dQ t)),(3,.bx (bK r)),(5,.bx (uM u)),(48,d5 (r.xAe++r.xAr)),(49,vi ((r.xAe++r.xAr).length:Nat)),(50,vi (i:Nat))]) _ ⟨0,List.replicate 24 false,rfl,?_,?_,?_,?_,?_⟩ ?_))
 ·exact bD
 ·exact lP _
 ·rfl
 ·exact cQm _
 ·exact dT
 rintro n ρ ⟨i,u,rfl,l0_0,l0_1,l0_2,l0_3,rfl⟩ _ Z10;rcases (show (0≤(r.xAe++r.xAr).getD i default∧(r.xAe++r.xAr).getD i default<t.xAe)∨(¬(0≤(r.xAe++r.xAr).getD i default∧(r.xAe++r.xAr).getD i default<t.xAe)∧((r.xAe++r.xAr).getD i default).toNat<24)∨(¬(0≤(r.xAe++r.xAr).getD i default∧(r.xAe++r.xAr).getD i default<t.xAe)∧24≤((r.xAe++r.xAr).getD i default).toNat) by omega) with hw|⟨hw,hx⟩|⟨hw,hx⟩
 ·skip
  refine aB [2,3,5,48,49,50] ?_;refine aA fun _ Z12=>aO (fun c2=>?_) fun c2=>?_
  ·refine aD (Z12 _ (aA fun _ Z13=>aI (aB [2,3,5,48,49,50] ?_)));refine aA fun _ Z15=>aA fun _ Z16=>bN [2,3,5,7,48,49,50] ?_;refine f9 (bVl _ hw) ?_;refine Z16 _ (aO (fun c3=>?_) fun c3=>?_)
   ·refine aB [] ?_;refine aL (dN 4 (xb ?_))
    (have h24:iN (r.xAe++r.xAr) i<24:=(by show (r.xAe++r.xAr).getD i default<24;omega);exact (bTy (rR c2 (cMl l0_3 hw.1 h24 (by simpa only[Nat.mul_one,aQs,false_or] using c3)))).symm)
   refine aD (Z15 _ (bE [2,3,5,7,48,49,50] ?_));refine Z13 _ (bN [2,3,5,48,49,50] ?_);have h24:iN (r.xAe++r.xAr) i<24:=(by show (r.xAe++r.xAr).getD i default<24;omega);have hu:u.getD (iN (r.xAe++r.xAr) i).toNat false=false:=by simpa only[Nat.mul_one,jE] using c3
   refine Z10 _ _ bD ⟨i+1,u.set (iN (r.xAe++r.xAr) i).toNat true,rfl,bD,?_,?_,?_,dT⟩
   ·exact kE l0_1 (cOs l0_3 hw.1 hw.2 h24 hu)
   ·rw[aDh];exact l0_2
   ·exact cNi l0_3 hw.1 h24
  refine bA (Z8 _ (aA fun _ Z18=>bN [2,3] ?_));refine f9 (fS _ r.xBg t.xAe) ?_;refine Z18 _ (aL (dN 4 (xb ?_)))
  (rw[rtB,show aIt t (r.xAe++r.xAr)=true from t6 l0_1 aV,Bool.and_true,rE];simp[rtO];omega)
 ·skip
  refine aB [2,3,5,48,49,50] ?_;refine aA fun _ Z20=>aO (fun c4=>?_) fun c4=>?_
  ·refine aD (Z20 _ (aA fun _ Z21=>aI (aB [2,3,5,48,49,50] ?_)));refine aA fun _ Z23=>aA fun _ Z24=>bN [2,3,5,7,48,49,50] ?_;refine f9 (aWw _ hw) ?_;refine Z24 _ (dY true (by rfl) (rfl) (fun _=>?_) (fun h=>by cases h));refine aB [] ?_;refine aL (dN 4 (xb ?_))
   (exact (bTy (rR c4 (by rw[aVc,e9 hw];rfl))).symm)
  refine bA (Z8 _ (aA fun _ Z26=>bN [2,3] ?_));refine f9 (fS _ r.xBg t.xAe) ?_;refine Z26 _ (aL (dN 4 (xb ?_)))
  (rw[rtB,show aIt t (r.xAe++r.xAr)=true from t6 l0_1 aV,Bool.and_true,rE];simp[rtO];omega)
 skip
 refine aB [2,3,5,48,49,50] ?_;refine aA fun _ Z28=>aO (fun c6=>?_) fun c6=>?_
 ·refine aD (Z28 _ (aA fun _ Z29=>aI (aB [2,3,5,48,49,50] ?_)));refine aA fun _ Z31=>aA fun _ Z32=>bN [2,3,5,7,48,49,50] ?_;refine f9 (aWw _ hw) ?_;refine Z32 _ (dY true (by rfl) (rfl) (fun _=>?_) (fun h=>by cases h));refine aB [] ?_;refine aL (dN 4 (xb ?_))
  (exact (bTy (rR c6 (by rw[aVc,e9 hw];rfl))).symm)
 refine bA (Z8 _ (aA fun _ Z34=>bN [2,3] ?_));refine f9 (fS _ r.xBg t.xAe) ?_;refine Z34 _ (aL (dN 4 (xb ?_)))
 (rw[rtB,show aIt t (r.xAe++r.xAr)=true from t6 l0_1 aV,Bool.and_true,rE];simp[rtO];omega)
end
end Go.Sg
namespace Go.Sg
open Go.Proofs
def aNa (t:dC):Bool:=decide (t.xAg.length≤48∧t.xAk.length≤32∧0≤t.xAe∧t.xAe≤24∧0≤t.xAa∧t.xAa≤20)
def seB (t:dC) (r:bL):Bool:=aTm t r.xAk&&aTm t r.xAs&&aTm t r.xAy
def agB (r:bL):Bool:=aOz r.xAk r.xAs&&aOz r.xAk r.xAy&&aOz r.xAs r.xAy
abbrev nmN (t:dC) (i:Nat):ByteArray:=(t.xAg.getD i default).xAq
def nuB (t:dC) (i:Nat):Bool:=(List.range i).all fun k=>decide (nmN t k≠nmN t i)
def chk (t:dC):Int:=
 if aNa t=false then 2 else if aHd t=false then 1 else if t.xAg.all (rtB t)=false then 1 else if t.xAg.all (seB t)=false then 1 else if t.xAg.all agB=false then 10 else if (List.range t.xAg.length).all (nuB t)=false then 8 else 0
section
variable {t:dC}
theorem cTe (h:aNa t=false):chk t=2:=by rw[chk,if_pos h]
theorem cUg (h:aNa t=true) (h2:aHd t=false):chk t=1:=by rw[chk,if_neg (by rw[h];simp),if_pos h2]
theorem cUi (h:aNa t=true) (h2:aHd t=true) (h3:t.xAg.all (rtB t)=false):chk t=1:=by rw[chk,if_neg (by rw[h];simp),if_neg (by rw[h2];simp),if_pos h3]
theorem cTk (h:aNa t=true) (h2:aHd t=true) (h4:t.xAg.all (seB t)=false):chk t=1:=by
 rw[chk,if_neg (by rw[h];simp),if_neg (by rw[h2];simp)];split
 ·rfl
 first|rfl|rw[if_pos h4]
theorem cTu (h:aNa t=true) (h2:aHd t=true) (h3:t.xAg.all (rtB t)=true) (h4:t.xAg.all (seB t)=true) (h5:t.xAg.all agB=false):chk t=10:=by rw[chk,if_neg (by rw[h];simp),if_neg (by rw[h2];simp),if_neg (by rw[h3];simp),if_neg (by rw[h4];simp),if_pos h5]
theorem cUs (h:aNa t=true) (h2:aHd t=true) (h3:t.xAg.all (rtB t)=true) (h4:t.xAg.all (seB t)=true) (h5:t.xAg.all agB=true) (h6:(List.range t.xAg.length).all (nuB t)=false):chk t=8:=by rw[chk,if_neg (by rw[h];simp),if_neg (by rw[h2];simp),if_neg (by rw[h3];simp),if_neg (by rw[h4];simp),if_neg (by rw[h5];simp),if_pos h6]
theorem cQb (h:aNa t=true) (h2:aHd t=true) (h3:t.xAg.all (rtB t)=true) (h4:t.xAg.all (seB t)=true) (h5:t.xAg.all agB=true) (h6:(List.range t.xAg.length).all (nuB t)=true):chk t=0:=by rw[chk,if_neg (by rw[h];simp),if_neg (by rw[h2];simp),if_neg (by rw[h3];simp),if_neg (by rw[h4];simp),if_neg (by rw[h5];simp),if_neg (by rw[h6];simp)]
theorem cIh (h:aNa t=true):t.xAe≤24:=by
 have:=dK h;omega
def fwR (r:bL):Bool:=decide (r.xAf.length≤80∧r.xAk.length≤80∧r.xAe.length≤80∧r.xAl.length≤80∧r.xAs.length≤80∧r.xAr.length≤80∧r.xAy.length≤80∧r.xBj.length≤80∧r.xBk.length≤80)
def aHe (t:dC):Bool:=decide (t.xAg.length≤80∧t.xAk.length≤80∧t.xBs.length≤80)&&t.xAg.all fwR
theorem cPa (h:aHe t=true) {i:Nat} (hi:i<t.xAg.length):((t.xAg.getD i default).xAe++(t.xAg.getD i default).xAr).length≤100000:=by
 unfold aHe at h;rw[cD] at h;have h3:fwR (t.xAg.getD i default)=true:=rY h.2 hi;unfold fwR at h3;have:=dK h3;rw[fP];omega
def aNd (t:dC) (i:Nat):List (Value×Value):=(List.range i).map fun k=>(.string (nmN t k),.bool true)
theorem cDc (t:dC) (i:Nat):aNd t i++[(.string (t.xAg.getD i default).xAq,.bool true)]=aNd t (i+1):=by
 unfold aNd;rw[xS,eM];rfl
theorem aFs {i:Nat} {e:Value×Value} (h:e∈aNd t i): ∃k,k<i∧e=(.string (nmN t k),.bool true):=by
 unfold aNd at h;obtain ⟨k,hk,rfl⟩:=dZ.1 h;exact ⟨k,gU.1 hk,rfl⟩
theorem cEw {i k:Nat} (h:nuB t i=true) (hk:k<i):nmN t k≠nmN t i:=dK (aMz h hk)
theorem aXe: ∀{i:Nat},nX (nuB t) i→bSg (aNd t i)
 |0,_=>⟨fun e he=>(by obtain ⟨k,hk,_⟩:=aFs he;omega),List.nodup_nil⟩
 |i+1,h=>by
  obtain ⟨h1,h2⟩:=aXe (i:=i) fun j hj=>h j aV;refine ⟨fun e he=>?_,?_⟩
  ·obtain ⟨k,hk,rfl⟩:=aFs he;rfl
  rw[← cDc,eM,nO];refine ⟨h2,by simp,fun a ha b hb=>?_⟩;obtain ⟨e,he,rfl⟩:=dZ.1 ha;obtain ⟨k,hk,rfl⟩:=aFs he;simp only[kH,sI,lH] at hb;subst hb;intro e;simp only[Value.string.injEq] at e;exact cEw (h i aV) hk e
theorem bGm {i:Nat} (h:nuB t i=true):cKi (aNd t i) (t.xAg.getD i default).xAq:=
 ⟨fun e he=>(by obtain ⟨k,hk,rfl⟩:=aFs he;rfl),fun e he=>by
  obtain ⟨k,hk,rfl⟩:=aFs he;intro e;simp only[Value.string.injEq] at e;exact cEw h hk e⟩
theorem bYm {i:Nat} (h:bSg (aNd t i)):aWi (aNd t i) (t.xAg.getD i default).xAq (.bool false)=.bool (!nuB t i):=by
 cases hq:nuB t i with
 |true=>exact aFr (bGm hq).2
 |false=>
  have: ∃k,k<i∧nmN t k=nmN t i:=by
   apply aIp;intro hno;rw[← rL] at hq;refine hq ?_;unfold nuB;rw[dI];intro k hk;exact dF fun e=>hno ⟨k,gU.1 hk,e⟩
  obtain ⟨k,hk,e⟩:=this;refine aEh h.2 ?_;unfold aNd;exact dZ.2 ⟨k,gU.2 hk,by rw[e];rfl⟩
theorem cFx {a b:ByteArray}:a.toList=b.toList↔a=b:=by
 constructor
 ·intro h;rw[ByteArray.toList_eq,ByteArray.toList_eq] at h;cases a;cases b;congr;exact Array.toList_inj.1 h
 intro h;rw[h]
end
section
attribute [local go_sem] cDc
theorem yP (O:aN) (t:dC) (hf:aHe t=true):aZ Tryz.prog O 74 [.agg (dQ t)] (vi (chk t)):=by
 refine bG 0 rfl (.agg (d:=pW t.xAg) (by simp[dQ]) (.sl _ _ _)) fun hr=>?_;refine bG 0 rfl (.agg (d:=d5 t.xAk) (by simp[dQ]) (.sl _ _ _)) fun hp=>?_;refine eV Tryz.func74 ?_;refine aB [0] ?_;refine aA fun _ Z1=>aA fun _ Z2=>bN [1] ?_;refine rO (fun g0=>fS _ t.xAe 25) ?_;refine rO (fun g1=>fS _ t.xAa 21) ?_;refine Z2 _ (aO (fun c0=>?_) fun c0=>?_)
 ·refine aB [] ?_;refine aL (dN 2 ?_);exact dX.is (by simp (disch:=omega) only[go_sem,seval]<;>(rw[cTe (e9 aV)])) rfl rfl
 have hL:aNa t=true:=dF aV;refine aD (Z1 _ (aA fun _ Z4=>aA fun _ Z5=>bN [1] ?_));refine f9 (zI _ t) ?_;refine Z5 _ (aO (fun c1=>?_) fun c1=>?_)
 ·refine aB [] ?_;refine aL (dN 2 ?_);exact dX.is (by simp (disch:=omega) only[go_sem,seval]<;>(rw[cUg hL (by simpa using c1)])) rfl rfl
 have hP:aHd t=true:=by simpa using c1
 refine aD (Z4 _ (aA fun _ Z7=>aB [1] ?_));refine aI (aX [1,38,39,40] (fun n ρ=> ∃i,n=t.xAg.length-i∧(i≤t.xAg.length)∧(m0 (rtB t) t.xAg i)∧ρ=dU O [(1,.bx (dQ t)),(38,pW t.xAg),(39,vi (t.xAg.length:Nat)),(40,vi (i:Nat))]) _ ⟨0,rfl,?_,?_,?_⟩ ?_)
 ·exact bD
 ·exact i8 _ _
 ·exact dT
 rintro n ρ ⟨i,rfl,l0_0,l0_1,rfl⟩ _ Z9;refine aB [1,37,38,39,40] ?_;refine aA fun _ Z11=>aO (fun c2=>?_) fun c2=>?_
 ·refine aD (Z11 _ (aA fun _ Z12=>aI (aB [1,37,38,39,40] ?_)));refine aA fun _ Z14=>bN [1,4,37,38,39,40] ?_;refine f9 (aAr _ t (t.xAg.getD i default) (cIh hL) (cPa hf c2)) ?_;refine Z14 _ (aO (fun c3=>?_) fun c3=>?_)
  ·refine aB [] ?_;refine aL (dN 2 ?_);exact dX.is (by simp (disch:=omega) only[go_sem,seval]<;>(rw[cUi hL hP (nK c2 (by simpa using c3))])) rfl rfl
  refine aD (Z12 _ (bE [1,37,38,39,40] ?_));refine Z9 _ _ bD ⟨i+1,rfl,bD,?_,dT⟩
  ·exact jA l0_1 (by simpa using c3)
 refine bA (Z7 _ (aA fun _ Z16=>aB [1] ?_));refine aI ?_;have hA:=pF l0_1 aV;refine aX [1,50,51,52] (fun n ρ=> ∃i,n=t.xAg.length-i∧(i≤t.xAg.length)∧(m0 (seB t) t.xAg i)∧ρ=dU O [(1,.bx (dQ t)),(50,pW t.xAg),(51,vi (t.xAg.length:Nat)),(52,vi (i:Nat))]) _ ⟨0,rfl,?_,?_,?_⟩ ?_
 ·exact bD
 ·exact i8 _ _
 ·exact dT
 rintro n ρ ⟨i,rfl,l1_0,l1_1,rfl⟩ _ Z18;refine aB [1,49,50,51,52] ?_;refine aA fun _ Z20=>aO (fun c4=>?_) fun c4=>?_
 ·refine aD (Z20 _ (aA fun _ Z21=>aI (aB [1,49,50,51,52] ?_)));refine aA fun _ Z23=>bN [1,6,49,50,51,52] ?_;refine f9 (l5 _ t (t.xAg.getD i default).xAk) ?_;refine rO (fun g2=>l5 _ t (t.xAg.getD i default).xAs) ?_;refine rO (fun g3=>l5 _ t (t.xAg.getD i default).xAy) ?_;refine Z23 _ (aO (fun c5=>?_) fun c5=>?_)
  ·refine aB [] ?_;refine aL (dN 2 ?_);exact dX.is (by simp (disch:=omega) only[go_sem,seval]<;>(rw[cTk hL hP (nK c4 (by rw[seB,← rL];intro h;simp only[cD] at h;simp only[h.1.1,h.1.2,h.2] at c5;simp at c5))])) rfl rfl
  refine aD (Z21 _ (bE [1,49,50,51,52] ?_));refine Z18 _ _ bD ⟨i+1,rfl,bD,?_,dT⟩
  ·exact jA l1_1 (by rw[seB];simpa[and_assoc] using c5)
 refine bA (Z16 _ (aA fun _ Z25=>aB [1] ?_));refine aI ?_;have hB:=pF l1_1 aV;refine aX [1,77,78,79] (fun n ρ=> ∃i,n=t.xAg.length-i∧(i≤t.xAg.length)∧(m0 agB t.xAg i)∧ρ=dU O [(1,.bx (dQ t)),(77,pW t.xAg),(78,vi (t.xAg.length:Nat)),(79,vi (i:Nat))]) _ ⟨0,rfl,?_,?_,?_⟩ ?_
 ·exact bD
 ·exact i8 _ _
 ·exact dT
 rintro n ρ ⟨i,rfl,l2_0,l2_1,rfl⟩ _ Z27;refine aB [1,76,77,78,79] ?_;refine aA fun _ Z29=>aO (fun c6=>?_) fun c6=>?_
 ·refine aD (Z29 _ (aA fun _ Z30=>aI (aB [1,76,77,78,79] ?_)));refine aA fun _ Z32=>bN [1,8,76,77,78,79] ?_;refine f9 (pO _ (t.xAg.getD i default).xAk (t.xAg.getD i default).xAs) ?_;refine rO (fun g4=>pO _ (t.xAg.getD i default).xAk (t.xAg.getD i default).xAy) ?_;refine rO (fun g5=>pO _ (t.xAg.getD i default).xAs (t.xAg.getD i default).xAy) ?_;refine Z32 _ (aO (fun c7=>?_) fun c7=>?_)
  ·refine aB [] ?_;refine aL (dN 2 ?_);exact dX.is (by simp (disch:=omega) only[go_sem,seval]<;>(rw[cTu hL hP hA hB (nK c6 (by rw[agB,← rL];intro h;simp only[cD] at h;simp only[h.1.1,h.1.2,h.2] at c7;simp at c7))])) rfl rfl
  refine aD (Z30 _ (bE [1,76,77,78,79] ?_));refine Z27 _ _ bD ⟨i+1,rfl,bD,?_,dT⟩
  ·exact jA l2_1 (by rw[agB];simpa[and_assoc] using c7)
 refine bA (Z25 _ (aB [1] ?_));refine aA fun _ Z35=>aB [1,9] ?_;refine aI ?_;have hC:=pF l2_1 aV;refine aX [9,108,109,110] (fun n ρ=> ∃i,n=t.xAg.length-i∧(i≤t.xAg.length)∧(nX (nuB t) i)∧ρ=dU O [(9,.mo (aNd t i)),(108,pW t.xAg),(109,vi (t.xAg.length:Nat)),(110,vi (i:Nat))]) _ ⟨0,rfl,?_,?_,?_⟩ ?_
 ·exact bD
 ·exact lP _
 ·exact dT
 rintro n ρ ⟨i,rfl,l3_0,l3_1,rfl⟩ _ Z37;have hK:=aXe l3_1;have hsx:=bYm hK;refine bB [1,9,107,108,109,110] ?_;refine aA fun _ Z39=>aO (fun c8=>?_) fun c8=>?_
 ·refine aD (Z39 _ (aA fun _ Z40=>aI (bB [1,9,107,108,109,110] ?_)));refine aA fun _ Z42=>bB [1,9,11,107,108,109,110] ?_;refine aO (fun c9=>?_) fun c9=>?_
  ·refine bB [] ?_;refine aL (mA 2 ?_);exact dX.is (by simp (disch:=omega) only[go_sem,seval,hsx]<;>(rw[cUs hL hP hA hB hC (rR c8 (by simpa using c9))])) rfl rfl
  have hN:nuB t i=true:=by simpa using c9
  have hNK:=bGm hN;refine aD (Z42 _ (cN [1,9,11,107,108,109,110] ?_));refine Z40 _ (cN [1,9,107,108,109,110] ?_);refine Z37 _ _ bD ⟨i+1,rfl,bD,?_,?_⟩
  ·exact kE l3_1 hN
  exact eX
 refine bA (Z35 _ (bB [] ?_));refine aL (mA 2 ?_);exact dX.is (by simp (disch:=omega) only[go_sem,seval,hsx]<;>(rw[cQb hL hP hA hB hC (t6 l3_1 aV)])) rfl rfl
end
theorem cGv {α:Type} [Inhabited α] {e:α→List DV} {g:Nat→List DV} {n:Nat} {l:List α} (hn:n=l.length) (h: ∀i,i<n→g i=e (l.getD i default)):(List.range n).map g=l.map e:=by
 subst hn;rw[← mN e l];exact zP fun i hi=>h i (gU.1 hi)
section
variable {t:dC} {i:Nat}
end
abbrev bFf (l:List bJ):DV:=encL 3 cV l
abbrev bEi (l:List fH):DV:=encL 2 fM l
def aTx (a b:bL):Bool:=decide (a=b)
theorem jP (O:aN) (a b:List Int):aZ Tryz.prog O 61 [d5 a,d5 b] (vb (a==b)):=by
 refine bG 0 rfl (.sl _ _ _) fun ha=>?_;refine bG 1 rfl (.sl _ _ _) fun hb=>?_;refine eV Tryz.func61 ?_;refine aB [0,1] ?_;refine aA fun _ Z1=>aB [0,1] ?_;refine aO (fun c0=>?_) fun c0=>?_
 ·refine aB [] ?_;refine aL (dN 4 (xb ?_))
  (symm;rw[oF];intro h;exact c0 (by rw[h]))
 refine aD (Z1 _ (aA fun _ Z4=>aB [0,1] ?_));refine aI (aX [0,1,12,13] (fun n ρ=> ∃i,n=a.length-i∧(i≤a.length)∧((a==b)=(a.drop i==b.drop i))∧ρ=dU O [(0,d5 a),(1,d5 b),(12,vi (a.length:Nat)),(13,vi (i:Nat))]) _ ⟨0,rfl,?_,?_,?_⟩ ?_)
 ·exact bD
 ·rfl
 ·exact dT
 rintro n ρ ⟨i,rfl,l0_0,l0_1,rfl⟩ _ Z6;refine aB [0,1,12,13] ?_;refine aA fun _ Z8=>aO (fun c1=>?_) fun c1=>?_
 ·refine aD (Z8 _ (aA fun _ Z9=>aI (aB [0,1,12,13] ?_)));refine aA fun _ Z11=>gJ [0,1,5,12,13] [] ?_;refine Z11 _ (aO (fun c2=>?_) fun c2=>?_)
  ·refine aB [] ?_;refine aL (dN 4 (xb ?_))
   (rw[l0_1,dL default c1,dL default (show i<b.length by omega)];symm;rw[oF];intro h;exact c2 (by injection h))
  refine aD (Z9 _ (bE [0,1,12,13] ?_));refine Z6 _ _ bD ⟨i+1,rfl,bD,?_,dT⟩
  ·rw[l0_1,dL default c1,dL default (show i<b.length by omega),c2];simp
 refine bA (Z4 _ (aB [] ?_));refine aL (dN 4 (xb ?_))
 (rw[l0_1,iW c1,iW aV];rfl)
theorem rM (O:aN) (a b:List bJ):aZ Tryz.prog O 107 [bFf a,bFf b] (vb (a==b)):=by
 refine bG 0 rfl (.sl _ _ _) fun ha=>?_;refine bG 1 rfl (.sl _ _ _) fun hb=>?_;refine eV Tryz.func107 ?_;refine aB [0,1] ?_;refine aA fun _ Z1=>aB [0,1] ?_;refine aO (fun c0=>?_) fun c0=>?_
 ·refine aB [] ?_;refine aL (dN 4 (xb ?_))
  (symm;rw[oF];intro h;exact c0 (by rw[h]))
 refine aD (Z1 _ (aA fun _ Z4=>aB [0,1] ?_));refine aI (aX [0,1,12,13] (fun n ρ=> ∃i,n=a.length-i∧(i≤a.length)∧((a==b)=(a.drop i==b.drop i))∧ρ=dU O [(0,bFf a),(1,bFf b),(12,vi (a.length:Nat)),(13,vi (i:Nat))]) _ ⟨0,rfl,?_,?_,?_⟩ ?_)
 ·exact bD
 ·rfl
 ·exact dT
 rintro n ρ ⟨i,rfl,l0_0,l0_1,rfl⟩ _ Z6;refine aB [0,1,12,13] ?_;refine aA fun _ Z8=>aO (fun c1=>?_) fun c1=>?_
 ·refine aD (Z8 _ (aA fun _ Z9=>aI (aB [0,1,12,13] ?_)));refine aA fun _ Z11=>gJ [0,1,5,12,13] [] ?_;refine Z11 _ (aO (fun c2=>?_) fun c2=>?_)
  ·have c2:a.getD i default≠b.getD i default:=(by intro h;rw[h] at c2;simp at c2);refine aB [] ?_;refine aL (dN 4 (xb ?_))
   (rw[l0_1,dL default c1,dL default (show i<b.length by omega)];symm;rw[oF];intro h;exact c2 (by injection h))
  have c2:a.getD i default=b.getD i default:=(by rw[bYc];simpa using c2);refine aD (Z9 _ (bE [0,1,12,13] ?_));refine Z6 _ _ bD ⟨i+1,rfl,bD,?_,dT⟩
  ·rw[l0_1,dL default c1,dL default (show i<b.length by omega),c2];simp
 refine bA (Z4 _ (aB [] ?_));refine aL (dN 4 (xb ?_))
 (rw[l0_1,iW c1,iW aV];rfl)
theorem lM (O:aN) (a b:List aY):aZ Tryz.prog O 108 [aFm a,aFm b] (vb (a==b)):=by
 refine bG 0 rfl (.sl _ _ _) fun ha=>?_;refine bG 1 rfl (.sl _ _ _) fun hb=>?_;refine eV Tryz.func108 ?_;refine aB [0,1] ?_;refine aA fun _ Z1=>aB [0,1] ?_;refine aO (fun c0=>?_) fun c0=>?_
 ·refine aB [] ?_;refine aL (dN 4 (xb ?_))
  (symm;rw[oF];intro h;exact c0 (by rw[h]))
 refine aD (Z1 _ (aA fun _ Z4=>aB [0,1] ?_));refine aI (aX [0,1,12,13] (fun n ρ=> ∃i,n=a.length-i∧(i≤a.length)∧((a==b)=(a.drop i==b.drop i))∧ρ=dU O [(0,aFm a),(1,aFm b),(12,vi (a.length:Nat)),(13,vi (i:Nat))]) _ ⟨0,rfl,?_,?_,?_⟩ ?_)
 ·exact bD
 ·rfl
 ·exact dT
 rintro n ρ ⟨i,rfl,l0_0,l0_1,rfl⟩ _ Z6;refine aB [0,1,12,13] ?_;refine aA fun _ Z8=>aO (fun c1=>?_) fun c1=>?_
 ·refine aD (Z8 _ (aA fun _ Z9=>aI (aB [0,1,12,13] ?_)));refine aA fun _ Z11=>gJ [0,1,5,12,13] [] ?_;refine Z11 _ (aO (fun c2=>?_) fun c2=>?_)
  ·have c2:a.getD i default≠b.getD i default:=(by intro h;rw[h] at c2;simp at c2);refine aB [] ?_;refine aL (dN 4 (xb ?_))
   (rw[l0_1,dL default c1,dL default (show i<b.length by omega)];symm;rw[oF];intro h;exact c2 (by injection h))
  have c2:a.getD i default=b.getD i default:=(by rw[oZ];simpa using c2);refine aD (Z9 _ (bE [0,1,12,13] ?_));refine Z6 _ _ bD ⟨i+1,rfl,bD,?_,dT⟩
  ·rw[l0_1,dL default c1,dL default (show i<b.length by omega),c2];simp
 refine bA (Z4 _ (aB [] ?_));refine aL (dN 4 (xb ?_))
 (rw[l0_1,iW c1,iW aV];rfl)
theorem aAx (O:aN) (a b:List fH):aZ Tryz.prog O 109 [bEi a,bEi b] (vb (a==b)):=by
 refine bG 0 rfl (.sl _ _ _) fun ha=>?_;refine bG 1 rfl (.sl _ _ _) fun hb=>?_;refine eV Tryz.func109 ?_;refine aB [0,1] ?_;refine aA fun _ Z1=>aB [0,1] ?_;refine aO (fun c0=>?_) fun c0=>?_
 ·refine aB [] ?_;refine aL (dN 4 (xb ?_))
  (symm;rw[oF];intro h;exact c0 (by rw[h]))
 refine aD (Z1 _ (aA fun _ Z4=>aB [0,1] ?_));refine aI (aX [0,1,12,13] (fun n ρ=> ∃i,n=a.length-i∧(i≤a.length)∧((a==b)=(a.drop i==b.drop i))∧ρ=dU O [(0,bEi a),(1,bEi b),(12,vi (a.length:Nat)),(13,vi (i:Nat))]) _ ⟨0,rfl,?_,?_,?_⟩ ?_)
 ·exact bD
 ·rfl
 ·exact dT
 rintro n ρ ⟨i,rfl,l0_0,l0_1,rfl⟩ _ Z6;refine aB [0,1,12,13] ?_;refine aA fun _ Z8=>aO (fun c1=>?_) fun c1=>?_
 ·refine aD (Z8 _ (aA fun _ Z9=>aI (aB [0,1,12,13] ?_)));refine aA fun _ Z11=>gJ [0,1,5,12,13] [] ?_;refine Z11 _ (aO (fun c2=>?_) fun c2=>?_)
  ·have c2:a.getD i default≠b.getD i default:=(by intro h;rw[h] at c2;simp at c2);refine aB [] ?_;refine aL (dN 4 (xb ?_))
   (rw[l0_1,dL default c1,dL default (show i<b.length by omega)];symm;rw[oF];intro h;exact c2 (by injection h))
  have c2:a.getD i default=b.getD i default:=(by rw[mB];simpa using c2);refine aD (Z9 _ (bE [0,1,12,13] ?_));refine Z6 _ _ bD ⟨i+1,rfl,bD,?_,dT⟩
  ·rw[l0_1,dL default c1,dL default (show i<b.length by omega),c2];simp
 refine bA (Z4 _ (aB [] ?_));refine aL (dN 4 (xb ?_))
 (rw[l0_1,iW c1,iW aV];rfl)
theorem aPh (O:aN) (a b:bL):aZ Tryz.prog O 63 [.agg (bK a),.agg (bK b)] (vb (aTx a b)):=by
 refine eV Tryz.func63 ?_;refine aB [0,1] ?_;refine aA fun _ Z1=>?_;refine cFo (by simp only[List.append_eq,wA,yS];exact rfl) ?_;refine bN [2,3] ?_;refine rO (fun g0=>rM _ a.xAf b.xAf) ?_;refine rO (fun g1=>lM _ a.xAk b.xAk) ?_;refine rO (fun g2=>jP _ a.xAe b.xAe) ?_;refine rO (fun g3=>rM _ a.xAl b.xAl) ?_;refine rO (fun g4=>lM _ a.xAs b.xAs) ?_;refine rO (fun g5=>jP _ a.xAr b.xAr) ?_;refine rO (fun g6=>lM _ a.xAy b.xAy) ?_;refine rO (fun g7=>jP _ a.xBj b.xBj) ?_;refine rO (fun g8=>aAx _ a.xBk b.xBk) ?_;refine Z1 _ (aL (dN 4 (xb ?_)))
 (rw[aTx,rE];simp[bVg,cFx,and_assoc];grind)
theorem t1 (O:aN) (a b:List bL):aZ Tryz.prog O 62 [pW a,pW b,.fn 63 [] []] (vb (a==b)):=by
 refine bG 0 rfl (.sl _ _ _) fun ha=>?_;refine bG 1 rfl (.sl _ _ _) fun hb=>?_;refine eV Tryz.func62 ?_;refine aA fun _ Z0=>cS [0,1,2] bF ?_;simp (disch:=omega) only[go_sem,seval,show aM Tryz.prog 63=true from rfl]
 repeat refine cP kN ?_
 refine Z0 _ (aA fun _ Z1=>aA fun _ Z2=>cS [0,1,2] bF ?_);simp (disch:=omega) only[go_sem,seval,show aM Tryz.prog 63=true from rfl]
 repeat refine cP kN ?_
 refine Z2 _ (aO (fun c0=>?_) fun c0=>?_)
 ·refine aA fun _ Z3=>cS [] bF ?_;simp (disch:=omega) only[go_sem,seval,show aM Tryz.prog 63=true from rfl]
  repeat refine cP kN ?_
  refine Z3 _ (aL (sX 6 rfl (by simp (disch:=omega) only[go_sem,seval,show aM Tryz.prog 63=true from rfl]) ?_));exact dX.is (by simp (disch:=omega) only[go_sem,seval,show aM Tryz.prog 63=true from rfl]<;>refine congrArg vb ?_<;>(symm;rw[oF];intro h;exact c0 (by rw[h]))) rfl rfl
 refine aD (Z1 _ (aA fun _ Z4=>aA fun _ Z5=>cS [0,1,2] bF ?_));simp (disch:=omega) only[go_sem,seval,show aM Tryz.prog 63=true from rfl]
 repeat refine cP kN ?_
 refine Z5 _ (aI (aX [1,2,15,16,17] (fun n ρ=> ∃i,n=a.length-i∧(i≤a.length)∧((a==b)=(a.drop i==b.drop i))∧ρ=dU O [(1,pW b),(2,.fn 63 [] []),(15,pW a),(16,vi (a.length:Nat)),(17,vi (i:Nat))]) _ ⟨0,rfl,?_,?_,?_⟩ ?_))
 ·exact bD
 ·rfl
 ·simp (disch:=omega) only[go_sem,seval,show aM Tryz.prog 63=true from rfl]<;>first|rfl|omega|simp|simp_all
 rintro n ρ ⟨i,rfl,l0_0,l0_1,rfl⟩ _ Z6;refine aA fun _ Z7=>cS [0,1,2,15,16,17] bF ?_;simp (disch:=omega) only[go_sem,seval,show aM Tryz.prog 63=true from rfl]
 repeat refine cP kN ?_
 refine Z7 _ (aA fun _ Z8=>aO (fun c1=>?_) fun c1=>?_)
 ·refine aD (Z8 _ (aA fun _ Z9=>aI (aA fun _ Z10=>cS [0,1,2,15,16,17] bF ?_)));simp (disch:=omega) only[go_sem,seval,show aM Tryz.prog 63=true from rfl]
  repeat refine cP kN ?_
  refine Z10 _ (aA fun _ Z11=>cS [0,1,2,7,8,15,16,17] bF ?_);simp (disch:=omega) only[go_sem,seval,show aM Tryz.prog 63=true from rfl]
  repeat refine cP kN ?_
  refine Z11 _ (aA fun _ Z12=>cS [0,1,2,8,9,15,16,17] bF ?_);simp (disch:=omega) only[go_sem,seval,show aM Tryz.prog 63=true from rfl]
  repeat refine cP kN ?_
  refine jJ _ (aPh _ (a.getD i default) (b.getD i default)) ?_
  try simp (disch:=omega) only[go_sem,seval,show aM Tryz.prog 63=true from rfl]
  repeat refine cP kN ?_
  refine Z12 _ (aO (fun c2=>?_) fun c2=>?_)
  ·have c2:a.getD i default≠b.getD i default:=aLh (by simpa[aTx] using c2);refine aA fun _ Z13=>cS [] bF ?_;simp (disch:=omega) only[go_sem,seval,show aM Tryz.prog 63=true from rfl]
   repeat refine cP kN ?_
   refine Z13 _ (aL (sX 6 rfl (by simp (disch:=omega) only[go_sem,seval,show aM Tryz.prog 63=true from rfl]) ?_));exact dX.is (by simp (disch:=omega) only[go_sem,seval,show aM Tryz.prog 63=true from rfl]<;>refine congrArg vb ?_<;>(rw[l0_1,dL default c1,dL default (show i<b.length by omega)];symm;rw[oF];intro h;exact c2 (by injection h))) rfl rfl
  have c2:a.getD i default=b.getD i default:=dK (by simpa[aTx] using c2);refine aD (Z9 _ (cS [0,1,2,15,16,17] bF ?_));simp (disch:=omega) only[go_sem,seval,show aM Tryz.prog 63=true from rfl]
  repeat refine cP kN ?_
  refine Z6 _ _ bD ⟨i+1,rfl,bD,?_,?_⟩
  ·rw[l0_1,dL default c1,dL default (show i<b.length by omega),c2];simp
  simp (disch:=omega) only[go_sem,seval,show aM Tryz.prog 63=true from rfl]<;>first|rfl|omega|simp|simp_all
 refine bA (Z4 _ (aA fun _ Z14=>cS [] bF ?_));simp (disch:=omega) only[go_sem,seval,show aM Tryz.prog 63=true from rfl]
 repeat refine cP kN ?_
 refine Z14 _ (aL (sX 6 rfl (by simp (disch:=omega) only[go_sem,seval,show aM Tryz.prog 63=true from rfl]) ?_));exact dX.is (by simp (disch:=omega) only[go_sem,seval,show aM Tryz.prog 63=true from rfl]<;>refine congrArg vb ?_<;>(rw[l0_1,iW c1,iW aV];rfl)) rfl rfl
def bAy (t u:dC):Bool:=decide (t=u)
theorem aPe (O:aN) (t u:dC):aZ Tryz.prog O 24 [.agg (dQ t),.agg (dQ u)] (vb (bAy t u)):=by
 refine eV Tryz.func24 ?_;refine aB [0,1] ?_;refine aA fun _ Z1=>bN [2,3] ?_;refine rO (fun g0=>jP _ t.xAk u.xAk) ?_;refine rO (fun g1=>jP _ t.xBs u.xBs) ?_;refine rO (fun g2=>t1 _ t.xAg u.xAg) ?_;refine Z1 _ (aL (dN 4 (xb ?_)))
 (rw[bAy,rE];simp[bLq,and_assoc];grind)
def sLt (a b:aY):Bool:=decide (a.fEl<b.fEl∨a.fEl=b.fEl∧a.xAo<b.xAo)
theorem mX {a b:aY}:sLt a b=true↔a.fEl<b.fEl∨a.fEl=b.fEl∧a.xAo<b.xAo:=decide_eq_true_iff
theorem aKg (a:aY):sLt a a=false:=by rw[← rL,mX];omega
theorem aZp {a b c:aY} (h:sLt a b=true) (k:sLt b c=true):sLt a c=true:=by rw[mX] at*;omega
theorem aSe {a b:aY} (h:sLt a b=false) (k:sLt b a=false):a=b:=by
 rw[← rL,mX] at h k;rw[oZ];omega
theorem cHy {a b c:aY} (h:sLt b a=false) (k:sLt b c=true):sLt a c=true:=by
 rw[← rL,mX] at h;rw[mX] at*;omega
theorem cLp {a b c:aY} (h:sLt a b=true) (k:sLt c b=false):sLt a c=true:=by
 rw[← rL,mX] at k;rw[mX] at*;omega
def Asc (l:List aY):Prop:=l.Pairwise fun a b=>sLt a b=true
theorem aOa: ∀{l m:List aY},Asc l→Asc m→(∀x,x∈l↔x∈m)→l=m
 | [],[],_,_,_=>rfl
 | [],b::m,_,_,h=>absurd ((h b).2 dH) dH
 |a::l,[],_,_,h=>absurd ((h a).1 dH) dH
 |a::l,b::m,hl,hm,h=>by
  unfold Asc at hl hm;rw[lZ] at hl hm;have key:a=b:=by
   rcases gN.1 ((h a).1 dH) with e|e
   ·exact e
   rcases gN.1 ((h b).2 dH) with e'|e'
   ·exact e'.symm
   have:=aZp (hl.1 b e') (hm.1 a e);rw[aKg] at this;cases this
  subst key;rw[aOa hl.2 hm.2 fun x=>?_];constructor
  ·intro hx;rcases gN.1 ((h x).1 (by simp[hx])) with e|e
   ·subst e;have:=hl.1 x hx;rw[aKg] at this;cases this
   exact e
  intro hx;rcases gN.1 ((h x).2 (by simp[hx])) with e|e
  ·subst e;have:=hm.1 x hx;rw[aKg] at this;cases this
  exact e
theorem bNv {l:List aY} {x:aY} (h:Asc l) (hx: ∀y∈l,sLt y x=true):Asc (l++[x]):=by
 unfold Asc at*;rw[oI];exact ⟨h,List.pairwise_singleton _ _,fun a ha b hb=>by rw[lH.1 hb];exact hx a ha⟩
abbrev stN (l:List aY) (i:Nat):aY:=l.getD i default
def ddS (s:List aY):Nat→List aY
 |0=>[]
 |n+1=>ddS s n++if n=0∨stN s n≠stN s (n-1) then [stN s n] else []
theorem bGk (s:List aY): ∀n,(ddS s n).length≤n
 |0=>bW _
 |n+1=>by
  unfold ddS;have:=bGk s n;rw[fP];split<;>simp<;>omega
theorem aVh {s:List aY}: ∀n x,x∈ddS s n↔ ∃k,k<n∧stN s k=x
 |0,x=>by simp[ddS]
 |n+1,x=>by
  unfold ddS;rw[iV,aVh n x];constructor
  ·rintro (⟨k,hk,rfl⟩|h)
   ·exact ⟨k,by omega,rfl⟩
   split at h
   ·exact ⟨n,by omega,(lH.1 h).symm⟩
   cases h
  rintro ⟨k,hk,rfl⟩;rcases uU (aBz hk) with q|q
  ·exact .inl ⟨k,q,rfl⟩
  subst q;by_cases hc:k=0∨stN s k≠stN s (k-1)
  ·rw[if_pos hc];exact .inr dH
  simp only[not_or,zY] at hc;exact .inl ⟨k-1,by omega,hc.2.symm⟩
theorem aUc {s:List aY} (hs: ∀i j,i<j→j<s.length→sLt (stN s j) (stN s i)=false): ∀n,n≤s.length→Asc (ddS s n)
 |0,_=>List.Pairwise.nil
 |n+1,h=>by
  unfold ddS;split
  ·rename_i hc;refine bNv (aUc hs n aV) fun y hy=>?_;obtain ⟨k,hk,rfl⟩:=(aVh n y).1 hy;have hne:stN s n≠stN s (n-1):=by rcases hc with h|h;omega;exact h
   have h1:sLt (stN s (n-1)) (stN s n)=true:=by
    cases hq:sLt (stN s (n-1)) (stN s n) with
    |true=>rfl
    |false=>exact absurd (aSe (hs (n-1) n aV aV) hq) hne
   rcases uU (show k≤n-1 by omega) with q|q
   ·exact cHy (hs k (n-1) q aV) h1
   rw[q];exact h1
  rw[kZ];exact aUc hs n aV
def msS (l:List aY):List aY:=l.mergeSort fun x y=> !sLt y x
theorem sP (l:List aY):(msS l).length=l.length:=List.length_mergeSort l
theorem bWv (l:List aY): ∀i j,i<j→j<(msS l).length→sLt (stN (msS l) j) (stN (msS l) i)=false:=by
 have h:=List.pairwise_mergeSort (le:=fun x y=> !sLt y x) (fun a b c h k=>by
  simp only[mH] at*;cases hq:sLt c a with
  |false=>rfl
  |true=>rw[cLp hq h] at k;cases k) (fun a b=>by
  simp only[pQ,mH];cases hq:sLt b a with
  |false=>exact .inl rfl
  |true=>
   right;rw[← rL,mX];rw[mX] at hq;omega) l
 intro i j hij hj;have:=aFj.1 h i j (by show i<(msS l).length;omega) hj hij;simp only[mH] at this;simp only[stN,cA,cH hj,cH (show i<(msS l).length by omega),iE];exact this
def kM (l:List aY):List aY:=ddS (msS l) (msS l).length
theorem aNx (l:List aY):Asc (kM l):=aUc (bWv l) _ (bW _)
theorem rF (l:List aY) (x:aY):x∈kM l↔x∈l:=by
 unfold kM;rw[aVh,show x∈l↔x∈msS l from List.mem_mergeSort.symm];rw[aOl];constructor
 ·rintro ⟨k,hk,rfl⟩;exact ⟨k,hk,by simp[stN,cA,hk]⟩
 rintro ⟨k,hk,rfl⟩;exact ⟨k,hk,by simp[stN,cA,hk]⟩
end Go.Sg
namespace Go.Sg
open Go.RowKit Go.Proofs Go.Sort
theorem bCl {w w':World} (h1:w'.os=w.os) (h2:w'.tape=w.tape) (h3:w'.output=w.output) (h4:w.heap.size≤w'.heap.size) (h5:w.drawn≤w'.drawn) (h6: ∀g,g<w.heap.size→w'.heap[g]?=w.heap[g]?):
  ∃q os,w'=Sort.grow (w.drewN q) os:=by
 refine ⟨w'.drawn-w.drawn,w'.heap.extract w.heap.size w'.heap.size,?_⟩;have hh:w'.heap=w.heap++w'.heap.extract w.heap.size w'.heap.size:=by
  apply Array.ext_getElem?;intro i;rw[bCm];split
  ·rename_i h;exact h6 i h
  rename_i h;rw[Array.getElem?_extract];split
  ·congr 1;omega
  rw[aJt aV]
 have hd:w.drawn+(w'.drawn-w.drawn)=w'.drawn:=by omega
 cases w';cases w;simp only[World.drewN,Sort.grow] at*;subst h1;subst h2;subst h3;rw[hd,← hh]
theorem bOf {P:Program} {α:Type} [Inhabited α] {enc:α→List Value} {k g blk size:Nat} {cf:α→α→Int} {w:World} {I:Nat→Prop} (hi:Imm w I) (hb: ¬I blk)
  (h1: ∀x,∀v∈enc x,v.oneCell'=true)
  (hC: ∀x y:α,aZ P (fun _=>.any) g [.agg ((enc x).map .v),.agg ((enc y).map .v)] (.v (.int .i64 (cf x y)))):CmpLays P g #[] enc k cf blk 0 size w:=by
 intro m os dk hs x y;have hsz:w.heap.size≤(sortWorldK enc k w blk 0 m dk os).heap.size:=by
  show w.heap.size≤(w.heap.modify blk _++os).size;simp
 have hheap: ∀g',g'<w.heap.size→g'≠blk→(sortWorldK enc k w blk 0 m dk os).heap[g']?=w.heap[g']?:=fun g' hg hne=>by
  show (w.heap.modify blk _++os)[g']?=_;rw[Array.getElem?_append_left (by simpa using hg),Array.getElem?_modify,if_neg (fC hne)]
 have hO:jI (sortWorldK enc k w blk 0 m dk os) I fO (fun _=>.any):=by
  refine ⟨fun _=>trivial,fun s t g c c' h=>absurd h dH,fun s g c h=>absurd h dH,⟨fun g' hg=>eE (hi g' hg) hsz,fun g' us e hg=>?_⟩⟩;obtain ⟨k1,k2⟩:=hi.glob g' us e hg;exact ⟨k1,(hheap g' (hi g' k1) fun e=>hb (e▸k1)).trans k2⟩
 have hrel: ∀z:α,bP (sortWorldK enc k w blk 0 m dk os) I fO (.agg ((enc z).map .v)) (.agg (enc z).toArray):=fun z=>by
  refine .agg _ _ _ dH (fun u hu=>h1 z u (by simpa using hu)) fun j d u hd hu=>?_;rw[dG,gC] at hd;obtain ⟨v,hv,rfl⟩:=hd;have:u=v:=by simpa[hv] using hu.symm
  subst this;exact .v _ _
 refine (hC x y _ I fO #[.agg (enc x).toArray,.agg (enc y).toArray] hO rfl (fun j d u hd hu=>?_)).mono fun e w' ⟨v,I',O',r,q1,q2,q3,q4,q5,q6,q7,q8⟩=>?_
 ·match j with
  |0=>simp at hd hu;subst hd;subst hu;exact hrel x
  |1=>simp at hd hu;subst hd;subst hu;exact hrel y
  |j+2=>simp at hd
 subst q8;have q6:bP w' I' fO (.v (.int .i64 (cf x y))) v:=q6;cases q6;exact ⟨q1,bCl q5.os q5.tape.1 q5.output q5.size q5.tape.2 fun g' hg=>(q5.old g' hg fun s c h=>by cases h).1⟩
theorem aVr {F c:Array Value} {t:Nat} (hi:t<F.size) (hc:t<c.size):(Sort.putCells id 0 F c)[t]?=some F[t]!:=by
 unfold Sort.putCells;rw[Array.getElem?_mapIdx,iY hc,gG,if_pos ⟨nJ _,by simpa using hi⟩];simp
theorem aYj {α:Type} [Inhabited α] {enc:α→List Value} {k:Nat} {w:World} {g:Nat} {us:Array Value} {e:TypeId} (h:w.heap[g]?=some (.cells us e (0,0))) (n:Nat) (d:Array α) (os:Array Obj):
  aUt w (sortWorldK enc k w g 0 n d os) g e (Sort.putCells id 0 (flatK enc k d) us):=by
 have hg:g<w.heap.size:=(aZy.1 h).1;have hsz:(w.heap.modify g (Sort.onCells (Sort.putCells id 0 (flatK enc k d)))).size=w.heap.size:=by simp
 have hh: ∀q,q<w.heap.size→(sortWorldK enc k w g 0 n d os).heap[q]?=(w.heap.modify g (Sort.onCells (Sort.putCells id 0 (flatK enc k d))))[q]?:=fun q hq=>by
  show (w.heap.modify g (Sort.onCells (Sort.putCells id 0 (flatK enc k d)))++os)[q]?=_;rw[Array.getElem?_append_left (by rw[hsz];exact hq)]
 refine ⟨rfl,⟨rfl,Nat.le_add_right _ _⟩,rfl,?_,?_,fun q hq hne=>?_⟩
 ·show w.heap.size≤(w.heap.modify g _++os).size;simp
 ·rw[hh g hg,Array.getElem?_modify,if_pos rfl,h];rfl
 rw[hh q hq,Array.getElem?_modify,if_neg (fC hne)]
theorem aHr {P:Program} {f g:FuncId} {O:aN} {s:Nat} {e:TypeId} {z:Nat} {α:Type} [Inhabited α] {en:α→List DV} {enc:α→List Value} {l l':List α} {cf:α→α→Int}
  (hen: ∀x,en x=(enc x).map .v) (hk: ∀x,(enc x).length=z) (hz:0<z) (h1: ∀x,∀v∈enc x,v.oneCell'=true) (hs:O s=rowL e z en l) (hlen:l'.length=l.length)
  (H0:l=[]→ ∀b c w,Calls P f #[.slice b 0 c,.func (.func g) #[] #[]] w fun x w'=>x=.returned (.tuple #[])∧w'=w)
  (H: ∀w blk c,HoldsK enc z w blk 0 l.toArray→blk<w.heap.size→CmpLays P g #[] enc z cf blk 0 l.length w→Calls P f #[.slice (some ⟨blk,0,none⟩) l.length c,.func (.func g) #[] #[]] w fun x w'=>
   x=.returned (.tuple #[])∧ ∃n os,w'=sortWorldK enc z w blk 0 n l'.toArray os)
  (hC: ∀x y:α,aZ P (fun _=>.any) g [.agg ((enc x).map .v),.agg ((enc y).map .v)] (.v (.int .i64 (cf x y)))):
  iC P O f [.own s l.length,.fn g [] []] fun O' x=>O'=set O s (rowL e z en l')∧x=.tup []:=by
 intro w I A vals hO hl hv;obtain ⟨x,y,rfl⟩: ∃x y,vals= #[x,y]:=by
  rcases vals with ⟨_|⟨x,_|⟨y,_|⟨q,ys⟩⟩⟩⟩
  ·simp at hl
  ·simp at hl
  ·exact ⟨x,y,rfl⟩
  simp at hl
 have hx:=hv 0 _ x rfl rfl;have hy:=hv 1 _ y rfl rfl;obtain rfl:y=.func (.func g) #[] #[]:=by
  cases hy with
  |fn _ _ _ _ us vs hf hc _ _=>
   obtain rfl:us= #[]:=by apply aZw;simpa using hf.symm
   obtain rfl:vs= #[]:=by apply aZw;simpa using hc.symm
   rfl
 have hfr: ∀t,fR (O t) (set O s (rowL e z en l') t):=fun t=>by
  rw[aK];split
  ·rename_i h;subst h;rw[hs];exact ⟨rfl,rfl,by simp[hlen]⟩
  exact fR.refl _
 have hout: ∀t,cX (O t)→cX (set O s (rowL e z en l') t):=fun t ht=>by
  rw[aK];split
  ·rfl
  exact ht
 have hres: ∀w' I',qA w w' I' A (.tup []) (.tuple #[]):=fun w' I'=>bP.tup A [] #[] rfl dH;cases hx with
 |own _ _ _ B c b hA hb=>
  have ho:=hO.own s;rw[hs] at ho;obtain ⟨B',c',q1,q2⟩:=ho;rw[hA] at q1;simp only[bX,cF] at q1;obtain ⟨rfl,rfl⟩:=q1;rcases nL l.length with h0|h0
  ·obtain rfl:l=[]:=nN h0;obtain rfl:l'=[]:=nN (by simpa using hlen);refine (H0 rfl _ _ w).mono fun _ w' ⟨k1,k2⟩=>?_;subst k2;refine ⟨_,I,set O s (rowL e z en []),_,k1,⟨fun t=>?_,hO.inj,hO.sep,hO.imm⟩,hfr,hout,f8.refl _ _ _,hres _ _,rfl,rfl⟩;rw[aK];split
   ·rename_i h;subst h;have:=hO.own t;rw[hs] at this;exact this
   exact hO.own t
  cases B with
  |none=>
   have:=q2.1;have:(l.map en).length=0:=by rw[this];rfl
   simp at this;subst this;simp at h0
  |some gb=>
   obtain rfl:=iX hb;obtain ⟨us,p1,p2,p3,p4,p5⟩:=q2;have p4:l.length≤c:=by simpa using p4
   have hgl: ∀(m:List α) (i:Nat),i<m.length→m.toArray[i]! =m.getD i default:=fun m i hi=>by
    rw[rU m.toArray i (by simpa using hi)];simp[cA,cH hi]
   have hdm: ∀t,t<l.length*z→t/z<l.length∧t%z<z:=fun t ht=>⟨Nat.div_lt_of_lt_mul (by rwa [oE] at ht),Nat.mod_lt _ hz⟩;have hcz:l.length*z≤c*z:=gF _ p4;have hcont: ∀t,t<l.length*z→us[t]?=some (enc (l.getD (t/z) default))[t%z]!:=fun t ht=>by
    obtain ⟨d1,d2⟩:=hdm t ht;have e1:(l.map en)[t/z]?=some (en (l.getD (t/z) default)):=by simp[cH d1]
    have e2:(en (l.getD (t/z) default))[t%z]?=some (.v (enc (l.getD (t/z) default))[t%z]!):=by
     rw[hen,dG,cH (by rw[hk];exact d2),gG,rU _ _ (by rw[hk];exact d2)]
    have hb':t/z*z+t%z<us.size:=by rw[oE,Nat.div_add_mod];omega
    have:=((p5 _ _ e1).2 _ _ _ e2 (iY hb')).2;have e3:us[t]?=some (us[t/z*z+t%z]'hb'):=by rw[← iY hb'];congr 1;rw[oE,Nat.div_add_mod]
    rw[e3];generalize us[t/z*z+t%z]'hb'=u at this;cases this;rfl
   have hholds:HoldsK enc z w gb 0 l.toArray:=fun t ht=>by
    have ht:t<l.length*z:=by simpa using ht
    obtain ⟨k1,k2⟩:=aQe p1 (0+t);refine ⟨?_,k2⟩;rw[k1,gH,hcont t ht];show _=some ((flatK enc z l.toArray)[t]!);rw[get_flatK _ _ _ _ (by simpa using ht),hgl l _ (hdm t ht).1]
   obtain ⟨hgs,hgI⟩:=hO.sep s gb c hA;refine (H w gb c hholds hgs (bOf hO.imm hgI h1 hC)).mono fun _ w' ⟨k1,n,os,k2⟩=>?_;have kt:aUt w w' gb e _:=k2▸aYj p1 n l'.toArray os;have hrel: ∀(B:dD) d v,bP w I B d v→bP w' I B d v:=fun B d v hr=>hr.mono fun k hkI=>⟨hkI,fun o=>eD (kt.other k (hO.imm k hkI) fun e=>hgI (e▸hkI)) o⟩;refine ⟨_,I,set O s (rowL e z en l'),_,k1,⟨fun t=>?_,hO.inj,fun t k c' h=>⟨eE (hO.sep t k c' h).1 kt.size,(hO.sep t k c' h).2⟩,hO.imm.step (fun k hkI=>eE (hO.imm k hkI) kt.size) fun k hkI=>⟨hkI,kt.other k (hO.imm k hkI) fun e=>hgI (e▸hkI)⟩⟩,hfr,hout,
    ⟨kt.os,kt.tape,kt.output,kt.size,fun _ h=>h,fun k hk h=>⟨kt.other k hk fun e=>h s c (e▸hA),fun h=>h,h⟩,fun t k c' h _ ht=>⟨t,c',ht,h⟩,fun _ _=>rfl⟩,hres _ _,rfl,rfl⟩
   rw[aK];split
   ·rename_i h;subst h;refine ⟨some gb,c,hA,_,kt.here,by simpa[Sort.putCells] using p2,p3,by simpa[hlen] using p4,fun i x hx=>?_⟩;rw[dG,gC] at hx;obtain ⟨a,ha,rfl⟩:=hx;have hlt:i<l'.length:=(oJ.1 ha).1;refine ⟨by rw[hen,cJ,hk],fun j d u hd hu=>?_⟩;rw[hen,dG,gC] at hd;obtain ⟨v,hv',rfl⟩:=hd;have hj:j<z:=by
     rw[← hk a];exact (oJ.1 hv').1
    have hb2:i*z+j<l'.length*z:=by
     have:=gF z (show i+1≤l'.length by omega);rw[jV] at this;omega
    have hdv:(i*z+j)/z=i:=by rw[oE,Nat.mul_add_div hz,Nat.div_eq_of_lt hj,iD]
    have hmd:(i*z+j)%z=j:=by rw[oE,Nat.mul_add_mod,aGy hj]
    rw[aVr (by simpa using hb2) (by rw[p2];rw[hlen] at hb2;omega),get_flatK _ _ _ _ (by simpa using hb2),hdv,hmd,hgl l' i hlt] at hu;have ea:l'.getD i default=a:=by rw[cA,ha];rfl
    rw[ea] at hu;have hjl:j<(enc a).length:=(oJ.1 hv').1;rw[rU (enc a) j hjl] at hu;have:u=v:=by
     have h2:=(oJ.1 hv').2;simp only[bX] at hu;rw[← hu,← h2]
    subst this;exact ⟨h1 a u (pP hv'),.v _ _⟩
   rename_i hne;refine (hO.own t).keep (fun k c' h=>kt.other k (hO.sep t k c' h).1 fun e=>hne (hO.inj t s gb c' c (e▸h) hA)) hrel
end Go.Sg
namespace Go.Proofs
open Go.Shelf
def Tryz.sort78_ren:Go.Shelf.Ren:=⟨fun|6=>78|15=>121|14=>130|28=>174|29=>175|20=>177|21=>178|22=>179|23=>180|24=>181|25=>182|26=>183|27=>184|46=>205|47=>200|48=>201|49=>206|50=>207|57=>218|n=>n,fun|22=>138|24=>141|25=>185|3=>3|39=>235|0=>0|53=>294|55=>296|4=>4|46=>288|45=>287|50=>180|5=>5|9=>9|66=>319|70=>323|76=>336|77=>337|n=>n,fun|n=>n⟩
theorem Tryz.sort78:Go.Proofs.SlLaysF0.n6 Tryz.prog Tryz.sort78_ren:={
 mixed:=by kernel_rfl
 f6:=⟨Tryz.f78.name,by decide,Tryz.func78.trans (congrArg some bF)⟩
 f14:=⟨Tryz.f130.name,by decide,Tryz.func130.trans (congrArg some bF)⟩
 f15:=Tryz.func121.trans (congrArg some bF)
 f20:=⟨Tryz.f177.name,by decide,Tryz.func177.trans (congrArg some bF)⟩
 f21:=⟨Tryz.f178.name,by decide,Tryz.func178.trans (congrArg some bF)⟩
 f22:=⟨Tryz.f179.name,by decide,Tryz.func179.trans (congrArg some bF)⟩
 f23:=⟨Tryz.f180.name,by decide,Tryz.func180.trans (congrArg some bF)⟩
 f24:=⟨Tryz.f181.name,by decide,Tryz.func181.trans (congrArg some bF)⟩
 f25:=⟨Tryz.f182.name,by decide,Tryz.func182.trans (congrArg some bF)⟩
 f26:=⟨Tryz.f183.name,by decide,Tryz.func183.trans (congrArg some bF)⟩
 f27:=⟨Tryz.f184.name,by decide,Tryz.func184.trans (congrArg some bF)⟩
 f28:=Tryz.func174.trans (congrArg some bF)
 f29:=Tryz.func175.trans (congrArg some bF)
 f46:=⟨Tryz.f205.name,by decide,Tryz.func205.trans (congrArg some bF)⟩
 f47:=Tryz.func200.trans (congrArg some bF)
 f48:=Tryz.func201.trans (congrArg some bF)
 f49:=⟨Tryz.f206.name,by decide,Tryz.func206.trans (congrArg some bF)⟩
 f50:=⟨Tryz.f207.name,by decide,Tryz.func207.trans (congrArg some bF)⟩
 f57:=⟨Tryz.f218.name,by decide,Tryz.func218.trans (congrArg some bF)⟩
 t0:=Tryz.underlying0
 a0:=Tryz.isAgg0
 z0:=Tryz.sizeOf0
 v0:=Tryz.zeroValue0
 t3:=Tryz.underlying3
 a3:=Tryz.isAgg3
 z3:=Tryz.sizeOf3
 v3:=Tryz.zeroValue3
 t4:=Tryz.underlying4
 a4:=Tryz.isAgg4
 z4:=Tryz.sizeOf4
 v4:=Tryz.zeroValue4
 t5:=Tryz.underlying5
 a5:=Tryz.isAgg5
 z5:=Tryz.sizeOf5
 v5:=Tryz.zeroValue5
 t9:=Tryz.underlying9
 a9:=Tryz.isAgg9
 z9:=Tryz.sizeOf9
 v9:=Tryz.zeroValue9
 t22:=Tryz.underlying138
 a22:=Tryz.isAgg138
 z22:=Tryz.sizeOf138
 v22:=Tryz.zeroValue138
 t25:=Tryz.underlying185
 a25:=Tryz.isAgg185
 z25:=Tryz.sizeOf185
 v25:=Tryz.zeroValue185
 t39:=Tryz.underlying235
 a39:=Tryz.isAgg235
 z39:=Tryz.sizeOf235
 v39:=Tryz.zeroValue235
 t45:=Tryz.underlying287
 a45:=Tryz.isAgg287
 z45:=Tryz.sizeOf287
 v45:=Tryz.zeroValue287
 t46:=Tryz.underlying288
 a46:=Tryz.isAgg288
 z46:=Tryz.sizeOf288
 v46:=Tryz.zeroValue288
 t50:=Tryz.underlying180
 a50:=Tryz.isAgg180
 z50:=Tryz.sizeOf180
 v50:=Tryz.zeroValue180
 t53:=Tryz.underlying294
 a53:=Tryz.isAgg294
 z53:=Tryz.sizeOf294
 v53:=Tryz.zeroValue294
 t55:=Tryz.underlying296
 a55:=Tryz.isAgg296
 z55:=Tryz.sizeOf296
 v55:=Tryz.zeroValue296
 t66:=Tryz.underlying319
 a66:=Tryz.isAgg319
 z66:=Tryz.sizeOf319
 v66:=Tryz.zeroValue319
 t70:=Tryz.underlying323
 a70:=Tryz.isAgg323
 z70:=Tryz.sizeOf323
 v70:=Tryz.zeroValue323
 t76:=Tryz.underlying336
 a76:=Tryz.isAgg336
 z76:=Tryz.sizeOf336
 v76:=Tryz.zeroValue336
 t77:=Tryz.underlying337
 a77:=Tryz.isAgg337
 z77:=Tryz.sizeOf337
 v77:=Tryz.zeroValue337}
end Go.Proofs
namespace Go.Sg
open Go.Proofs
def tW (a b:Int):Int:=if a<b then -1 else if b<a then 1 else 0
def orI:List Int→Int
 | []=>0
 |x::l=>if x=0 then orI l else x
def stC (x y:aY):Int:=orI [tW x.fEl y.fEl,tW x.xAo y.xAo]
section
attribute [local go_sem] uJ
end
theorem vG (O:aN) (a:Int):aZ Tryz.prog O 131 [vi a] (vb false):=by
 refine eV Tryz.func131 ?_;refine aB [0] ?_;refine aB [0] ?_;refine aL (dN 2 ?_);exact xd
theorem mE (O:aN) (a b:Int):aZ Tryz.prog O 81 [vi a,vi b] (vi (tW a b)):=by
 refine eV Tryz.func81 ?_;refine aB [0,1] ?_;refine aA fun _ Z1=>bN [0,1] ?_;refine f9 (vG _ _) ?_;refine Z1 _ (aA fun _ Z2=>bN [0,1,5] ?_);refine f9 (vG _ _) ?_;refine Z2 _ (aA fun _ Z3=>aB [0,1,5,6] ?_);refine dY false (by rfl) (rfl) (fun h=>by cases h) (fun _=>?_);refine aD (Z3 _ (aA fun _ Z5=>aB [0,1,6] ?_));refine dY false (by rfl) (rfl) (fun h=>by cases h) (fun _=>?_);refine aD (Z5 _ (aA fun _ Z7=>aB [0,1] ?_));refine aO (fun c2=>?_) fun c2=>?_
 ·refine aB [] ?_;refine aL (dN 4 ?_);exact dX.is (by simp (disch:=omega) only[go_sem,seval]<;>(simp only[tW];split<;>first|rfl|(split<;>first|rfl|omega)|omega)) rfl rfl
 refine aD (Z7 _ (aA fun _ Z10=>aB [0,1] ?_));refine aO (fun c3=>?_) fun c3=>?_
 ·refine aB [] ?_;refine aL (dN 4 ?_);exact dX.is (by simp (disch:=omega) only[go_sem,seval]<;>(simp only[tW];split<;>first|rfl|(split<;>first|rfl|omega)|omega)) rfl rfl
 refine aD (Z10 _ (aB [] ?_));refine aL (dN 4 ?_);exact dX.is (by simp (disch:=omega) only[go_sem,seval]<;>(simp only[tW];split<;>first|rfl|(split<;>first|rfl|omega)|omega)) rfl rfl
theorem aBc (O:aN) (l:List Int):aZ Tryz.prog O 80 [d5 l] (vi (orI l)):=by
 refine bG 0 rfl (.sl _ _ _) fun hl=>?_;refine eV Tryz.func80 ?_;refine aB [0] ?_;refine aB [0] ?_;refine aA fun _ Z2=>aB [0,3] ?_;refine aI (aX [3,6,7,8] (fun n ρ=> ∃i,n=l.length-i∧(i≤l.length)∧(orI l=orI (l.drop i))∧ρ=dU O [(3,vi 0),(6,d5 l),(7,vi (l.length:Nat)),(8,vi (i:Nat))]) _ ⟨0,rfl,?_,?_,?_⟩ ?_)
 ·exact bD
 ·rfl
 ·exact dT
 rintro n ρ ⟨i,rfl,l0_0,l0_1,rfl⟩ _ Z4;refine aB [0,3,6,7,8] ?_;refine aA fun _ Z6=>aO (fun c0=>?_) fun c0=>?_
 ·refine aD (Z6 _ (aA fun _ Z7=>aI (aB [0,3,6,7,8] ?_)));refine aB [0,3,5,6,7,8] ?_;refine aO (fun c1=>?_) fun c1=>?_
  ·refine aB [5] ?_;refine aL (dN 2 ?_);exact dX.is (by simp (disch:=omega) only[go_sem,seval]<;>(rw[l0_1,dL default c0,orI,if_neg c1])) rfl rfl
  refine aD (Z7 _ (bE [0,3,6,7,8] ?_));refine Z4 _ _ bD ⟨i+1,rfl,bD,?_,dT⟩
  ·rw[l0_1,dL default c0,orI,if_pos c1]
 refine bA (Z2 _ (aB [3] ?_));refine aL (dN 2 ?_);exact dX.is (by simp (disch:=omega) only[go_sem,seval]<;>(rw[l0_1,iW c0];rfl)) rfl rfl
theorem bNe (a b:Int):tW a b=0↔a=b:=by unfold tW;split;omega;split<;>omega
theorem bSh (a b:Int):tW a b<0↔a<b:=by unfold tW;split;omega;split<;>omega
theorem aNu:ltOf stC=sLt:=by
 funext x y;rw[rE,mX];unfold ltOf stC;rw[dR,orI,orI,orI];have h1:=bNe x.fEl y.fEl;have h2:=bSh x.fEl y.fEl;have h3:=bNe x.xAo y.xAo;have h4:=bSh x.xAo y.xAo;split
 ·split<;>omega
 omega
theorem cSz:Go.Sort.SWO (ltOf stC):=by
 rw[aNu];refine ⟨aKg,fun x y z h k=>aZp h k,fun x y z h k=>?_⟩;rw[← rL,mX] at*;omega
end Go.Sg
namespace Go.Sg
open Go.Proofs
theorem aDe (O:aN) (x y:aY):aZ Tryz.prog O 79 [.agg (bO x),.agg (bO y)] (vi (stC x y)):=by
 refine eV Tryz.func79 ?_;refine aB [0,1] ?_;refine aA fun _ Z1=>gJ [2,3] [] ?_;refine cdz (mE _ x.fEl y.fEl) ?_;refine cdz (mE _ x.xAo y.xAo) ?_;refine cdz (jB [d5 [tW x.fEl y.fEl,tW x.xAo y.xAo]] (.cons (eK.litL [tW x.fEl y.fEl,tW x.xAo y.xAo] rfl rfl) .nil) (aBc _ [tW x.fEl y.fEl,tW x.xAo y.xAo])) ?_;refine Z1 _ (aL (dN 4 ?_));exact dX.is (by simp (disch:=omega) only[go_sem,seval]<;>(rfl)) rfl rfl
theorem cMd (O:aN) (s:Nat) (l:List aY) (hs:O s=aCy l) (hb:l.length≤100000):iC Tryz.prog O 78 [.own s l.length,.fn 79 [] []] fun O' x=>O'=set O s (aCy (msS l))∧x=.tup []:=
 aHr (enc:=fun x=>[.int .i64 x.fEl,.int .i64 x.xAo]) (cf:=stC) (fun _=>rfl) (fun _=>rfl) eN (fun x v hv=>by simp at hv;rcases hv with rfl|rfl<;>rfl) hs (sP l)
  (fun _ b c w=>AnyF.slices_SortFunc_none Tryz.sort78 b c _ w)
  (fun w blk c hH hblk hc=>by
   have:=AnyQ.slices_SortFunc_total Tryz.sort78 2 Tryz.isAgg141 Tryz.sizeOf141 (fun x:aY=>[.int .i64 x.fEl,.int .i64 x.xAo]) (fun _=>rfl) (fun x v hv=>by simp at hv;rcases hv with rfl|rfl<;>rfl) stC cSz 79 #[] blk 0 c l.toArray w
    (enters_of Tryz.func79 bF rfl) (by simpa using hc) hH hblk (by simp;omega) (fun x y h k=>by rw[aNu] at h k;exact aSe h k)
   rw[aNu] at this
   change Calls Tryz.prog 78 _ _ _ at this
   simpa[msS] using this)
  (fun x y=>aDe _ x y)
def aVn (l:aC) (s:bJ):List aY:=if (tN l s).2=true∧(lI l s.fEl.toNat).xAp=2 then [⟨s.fEl,(tN l s).1⟩] else []
def aAt (l:aC) (q:List bJ):List aY:=q.flatMap (aVn l)
def rW (l:aC) (q:List bJ):List aY:=kM (aAt l q)
theorem bUb (l:aC) {q:List bJ} {i:Nat} (h:i<q.length):aAt l (q.take (i+1))=aAt l (q.take i)++aVn l (q.getD i default):=by
 rw[kX default h];unfold aAt;rw[aBl];simp
theorem bMk (l:aC) (s:bJ):(aVn l s).length≤1:=by unfold aVn;split<;>simp
theorem zK (l:aC) (q:List bJ):(aAt l q).length≤q.length:=by
 unfold aAt
 induction q with
 |nil=>simp
 |cons a q ih=>rw[aIh,fP,qH];have:=bMk l a;omega
theorem aRv {l:aC} {s:bJ} (h:(tN l s).2=true):0≤s.fEl∧s.fEl<(l.xAh.length:Int):=by
 cases he:vD l s.fEl with
 |true=>exact mG.1 he
 |false=>rw[aSd he] at h;cases h
theorem bFi (l:aC) (q:List bJ):((aAt l q).map (·.fEl)).Sublist (q.map (·.fEl)):=by
 unfold aAt
 induction q with
 |nil=>exact .slnil
 |cons a q ih=>
  rw[aIh,eM,kH];unfold aVn;split
  ·exact ih.cons_cons _
  exact ih.cons _
theorem bMc {a:List aY} (h:(a.map (·.fEl)).Nodup):aXh (msS a):=fun i h0 hi e=>by
 have hp:((msS a).map (·.fEl)).Nodup:=((List.mergeSort_perm a _).map _).nodup_iff.2 h;have:=aFj.1 hp (i-1) i (by rw[cJ];omega) (by rw[cJ];exact hi) aV;rw[List.getElem_map,List.getElem_map] at this;rw[cA,cA,cH hi,cH (show i-1<(msS a).length by omega)] at e;simp only[iE] at e;exact this (by rw[e])
theorem bSq {s:List aY} (h:aXh s): ∀n,n≤s.length→ddS s n=s.take n
 |0,_=>by simp[ddS]
 |n+1,hn=>by
  have hc:n=0∨stN s n≠stN s (n-1):=by
   rcases nL n with h0|h0
   ·exact .inl h0
   exact .inr (h n h0 aV)
  unfold ddS;rw[if_pos hc,bSq h n aV,kX default (show n<s.length by omega)]
theorem bSo {a:List aY} (h:aXh (msS a)):msS a=kM a:=by
 unfold kM;rw[bSq h _ (bW _),iL]
theorem aFo (a:List aY):(kM a).length≤a.length:=by
 unfold kM;have:=bGk (msS a) (msS a).length;rw[sP] at this ⊢;exact this
theorem aJl (O:aN) (l:aC) (q:List bJ) (hl:gO l) (hq:q.length≤100) (hnd:(q.map (·.fEl)).Nodup):aZ Tryz.prog O 44 [.agg (aQ l),fJ q] (aCy (rW l q)):=by
 have hl1:=hl.sec;have hl2:=hl.el;have hl3:=hl.jo;have hl4:=hl.sg;have hl5:=hl.bl;have hN:aXh (msS (aAt l q)):=bMc (hnd.sublist (bFi l q));have hml:=sP (aAt l q);have hrl3:=zK l q;refine bG 0 rfl (.agg (d:=sL l.xAh) (by simp[aQ]) (.sl _ _ _)) fun he=>?_;refine bG 1 rfl (.sl _ _ _) fun hql=>?_;refine eV Tryz.func44 ?_;refine aB [0,1] ?_;refine aB [1,2] ?_;refine aA fun _ Z2=>aB [1,2,5] ?_;refine aI (l4 5 141 2 bO rfl rfl ?_);refine aX [2,5,10,11,12] (fun n ρ=> ∃i,n=q.length-i∧(i≤q.length)∧ρ=dU O [(2,.bx (aQ l)),(5,aCy (aAt l (q.take i))),(10,fJ q),(11,vi (q.length:Nat)),(12,vi (i:Nat))]) _ ⟨0,rfl,?_,?_⟩ ?_
 ·exact bD
 ·exact dT
 rintro n ρ ⟨i,rfl,l0_0,rfl⟩ _ Z4;have hrl:=zK l (q.take i);have hrl2:=aBu i q;have hrl3:=zK l q;refine aB [1,2,5,10,11,12] ?_;refine aA fun _ Z6=>aO (fun c0=>?_) fun c0=>?_
 ·refine aD (Z6 _ (aA fun _ Z7=>aI (aB [1,2,5,10,11,12] ?_)));refine aA fun _ Z9=>bN [1,2,5,7,10,11,12] ?_;refine f9 (vX _ l (q.getD i default) hl) ?_;refine Z9 _ (aA fun _ Z10=>cS [1,2,5,7,8,9,10,11,12] bF ?_);simp (disch:=omega) only[go_sem,seval]
  repeat refine cP (by first|(intro h;exact ⟨h,aRv h⟩)|exact kN) ?_
  refine Z10 _ (aO (fun c1=>?_) fun c1=>?_)
  ·have hcc:(tN l (q.getD i default)).2=true∧(lI l (q.getD i default).fEl.toNat).xAp=2:=(by simpa using c1);refine bE [1,2,5,7,8,10,11,12] ?_;refine Z7 _ (bE [1,2,5,10,11,12] ?_);refine Z4 _ _ bD ⟨i+1,rfl,bD,?_⟩;simp (disch:=omega) only[go_sem,seval]<;>(rw[bUb l c0,aVn,if_pos hcc,eM];rfl)
  have hcc: ¬((tN l (q.getD i default)).2=true∧(lI l (q.getD i default).fEl.toNat).xAp=2):=(by have c9:(tN l (q.getD i default)).2=false∨ ¬(lI l (q.getD i default).fEl.toNat).xAp=2:=(by simpa using c1);rintro ⟨h1,h2⟩;rcases c9 with h|h;rw[h1] at h;cases h;exact h h2);refine aD (Z7 _ (bE [1,2,5,10,11,12] ?_));refine Z4 _ _ bD ⟨i+1,rfl,bD,?_⟩;simp (disch:=omega) only[go_sem,seval]<;>(rw[bUb l c0,aVn,if_neg hcc,kZ];rfl)
 refine bA (Z2 _ (aA fun _ Z11=>?_));rw[jD c0];refine bN [5] ?_;refine ⟨_,cMd _ 5 (aAt l q) rfl aV,?_⟩;rintro O1 r1 ⟨rfl,rfl⟩;refine lL ?_;refine Z11 _ (aA fun _ Z12=>bN [5] ?_);refine f9 (oD _ (msS (aAt l q)) 5 (by rfl) aV hN) ?_;refine Z12 _ (aL (dN 4 ?_));exact dX.ownL rfl aV rfl rfl (by exact bSo hN)
theorem qW (O:aN) (l:aC) (q:List bJ) (hl:gO l) (hq:q.length≤100) (hnd:(q.map (·.fEl)).Nodup):aZ Tryz.prog O 44 [.agg (aQ l),fJ q] (qU (rW l q)):=dA (aJl O l q hl hq hnd)
def jG (q:List bJ) (e:Int):Bool:=q.any fun s=>decide (s.fEl=e)
def oV (q:List aY) (s:aY):Bool:=q.any fun x=>decide (x=s)
theorem qX {q:List bJ} {e:Int}:jG q e=true↔ ∃s∈q,s.fEl=e:=by unfold jG;simp
theorem vM {q:List aY} {s:aY}:oV q s=true↔s∈q:=by unfold oV;simp
theorem bYa: ∀(l:List Int) (x:Int),decide (0≤aCm l x l.length)=l.contains x:=by
 intro l x;have key: ∀n,n≤l.length→(0≤aCm l x n↔x∈l.drop (l.length-n)):=by
  intro n
  induction n with
  |zero=>intro _;simp[aCm]
  |succ n ih=>
   intro h;rw[dL default (show l.length-(n+1)<l.length by omega),show l.length-(n+1)+1=l.length-n by omega];unfold aCm;split
   ·rename_i hx;exact ⟨fun _=>by rw[hx];exact List.mem_cons_self,fun _=>Int.natCast_nonneg _⟩
   rename_i hx;rw[ih aV,gN];exact ⟨.inr,fun h=>h.resolve_left (fun e=>hx e.symm)⟩
 have:=key l.length (bW _);rw[Nat.sub_self,iP] at this;rw[rE,dR,this];simp
def aNb (l:List aY) (x:aY):Nat→Int
 |0=> -1
 |n+1=>if l.getD (l.length-(n+1)) default=x then ((l.length-(n+1):Nat):Int) else aNb l x n
theorem bLz {l:List aY} {x:aY} {i:Nat} (hi:i<l.length):aNb l x (l.length-i)=if l.getD i default=x then (i:Int) else aNb l x (l.length-(i+1)):=by
 rw[show l.length-i=(l.length-(i+1))+1 by omega,aNb,show l.length-(l.length-(i+1)+1)=i by omega]
theorem bTq: ∀(l:List aY) (x:aY),decide (0≤aNb l x l.length)=oV l x:=by
 intro l x;have key: ∀n,n≤l.length→(0≤aNb l x n↔x∈l.drop (l.length-n)):=by
  intro n
  induction n with
  |zero=>intro _;simp[aNb]
  |succ n ih=>
   intro h;rw[dL default (show l.length-(n+1)<l.length by omega),show l.length-(n+1)+1=l.length-n by omega];unfold aNb;split
   ·rename_i hx;exact ⟨fun _=>by rw[hx];exact List.mem_cons_self,fun _=>Int.natCast_nonneg _⟩
   rename_i hx;rw[ih aV,gN];exact ⟨.inr,fun h=>h.resolve_left (fun e=>hx e.symm)⟩
 have:=key l.length (bW _);rw[Nat.sub_self,iP] at this;rw[rE,dR,this,vM]
theorem xI (O:aN) (l:List Int) (x:Int):aZ Tryz.prog O 135 [d5 l,vi x] (vb (l.contains x)):=by
 refine eV Tryz.func135 ?_;refine aB [0,1] ?_;refine aA fun _ Z1=>bN [0,1] ?_;refine f9 (sG _ l x) ?_;refine Z1 _ (aL (dN 4 (xb ?_)))
 ((exact bYa l x))
theorem vK (O:aN) (l:List aY) (x:aY):aZ Tryz.prog O 230 [qU l,.agg (bO x)] (vi (aNb l x l.length)):=by
 refine bG 0 rfl (.sl _ _ _) fun hl=>?_;refine eV Tryz.func230 ?_;refine aB [0,1] ?_;refine aA fun _ Z1=>aB [0,3] ?_;refine aI (aX [0,3,7,8] (fun n ρ=> ∃i,n=l.length-i∧(i≤l.length)∧(aNb l x l.length=aNb l x (l.length-i))∧ρ=dU O [(0,qU l),(3,.bx (bO x)),(7,vi (l.length:Nat)),(8,vi (i:Nat))]) _ ⟨0,rfl,?_,?_,?_⟩ ?_)
 ·exact bD
 ·rfl
 ·exact dT
 rintro n ρ ⟨i,rfl,l0_0,l0_1,rfl⟩ _ Z3;refine aB [0,3,7,8] ?_;refine aA fun _ Z5=>aO (fun c0=>?_) fun c0=>?_
 ·refine aD (Z5 _ (aA fun _ Z6=>aI (aB [0,3,7,8] ?_)));refine aA fun _ Z8=>gJ [0,3,5,7,8] [] ?_;refine Z8 _ (aO (fun c1=>?_) fun c1=>?_)
  ·refine aB [5] ?_;refine aL (dN 4 ?_);exact dX.is (by simp (disch:=omega) only[go_sem,seval]<;>((rw[l0_1,bLz c0,if_pos (Eq.symm ((oZ _ _).2 (by simpa using c1)))]))) rfl rfl
  refine aD (Z6 _ (bE [0,3,7,8] ?_));refine Z3 _ _ bD ⟨i+1,rfl,bD,?_,dT⟩
  ·rw[l0_1,bLz c0,if_neg (fun h=>by rw[oZ] at h;simp_all)]
 refine bA (Z1 _ (aB [] ?_));refine aL (dN 4 ?_);exact dX.is (by simp (disch:=omega) only[go_sem,seval]<;>((rw[l0_1,show l.length-i=0 by omega];rfl))) rfl rfl
theorem kG (O:aN) (l:List aY) (x:aY):aZ Tryz.prog O 224 [qU l,.agg (bO x)] (vb (oV l x)):=by
 refine eV Tryz.func224 ?_;refine aB [0,1] ?_;refine aA fun _ Z1=>bN [0,3] ?_;refine f9 (vK _ l x) ?_;refine Z1 _ (aL (dN 4 (xb ?_)))
 ((exact bTq l x))
theorem u7 (O:aN) (l:List bJ) (g s:Nat) (cs:List DV) (p:bJ→Bool) (hO:O s=.bx cs) (hcs:kT (· +100000) cs=cs) (hsx:aM Tryz.prog g=true) (hk: ∀(ρ:aN) (k:Nat) (x:bJ),ρ k=.bx cs→aZ Tryz.prog ρ g [.agg (cV x),.bp k 0] (vb (p x))):aZ Tryz.prog O 215 [fJ l,.fn g [] [.bp s 0]] (vi (if l.any p then (l.findIdx p:Nat) else -1)):=by
 refine bG 0 rfl (.sl _ _ _) fun hl=>?_;refine eV Tryz.func215 ?_;refine bB [0,1] ?_;refine aA fun _ Z1=>bB [0,1] ?_;refine aI (aX [0,1,7,8] (fun n ρ=> ∃i,n=l.length-i∧(i≤l.length)∧((if l.any p then (l.findIdx p:Int) else -1)=(if (l.drop i).any p then (((l.drop i).findIdx p+i:Nat):Int) else -1))∧ρ=dU O [(0,fJ l),(1,.fn g [] [.bp (s+100000) 0]),(7,vi (l.length:Nat)),(8,vi (i:Nat))]) _ ⟨0,rfl,?_,?_,?_⟩ ?_)
 ·exact bD
 ·simp
 ·exact eX
 rintro n ρ ⟨i,rfl,l0_0,l0_1,rfl⟩ _ Z3;refine bB [0,1,7,8] ?_;refine aA fun _ Z5=>aO (fun c0=>?_) fun c0=>?_
 ·refine aD (Z5 _ (aA fun _ Z6=>aI (bB [0,1,7,8] ?_)));refine aA fun _ Z8=>eZ [0,1,5,7,8] ?_;refine jJ _ (hk _ (s+100000) (l.getD i default) ?_) ?_
  ·repeat rw[aK,if_neg aV]
   rw[cI,hO];exact congrArg DV.bx hcs
  refine gE ?_;refine Z8 _ (aO (fun c1=>?_) fun c1=>?_)
  ·refine bB [5] ?_;refine aL (mA 4 ?_);exact dX.is (by simp (disch:=omega) only[go_sem,seval,hsx]<;>(refine congrArg vi ?_;rw[l0_1,dL default c0,aQr,aQc,c1];simp)) rfl rfl
  refine aD (Z6 _ (cN [0,1,7,8] ?_));refine Z3 _ _ bD ⟨i+1,rfl,bD,?_,?_⟩
  ·rw[l0_1,dL default c0,aQr,aQc,c1];simp only[vE,fI];rw[show List.findIdx p (List.drop (i+1) l)+1+i=List.findIdx p (List.drop (i+1) l)+(i+1) by omega]
  exact eX
 refine bA (Z1 _ (bB [] ?_));refine aL (mA 4 ?_);exact dX.is (by simp (disch:=omega) only[go_sem,seval,hsx]<;>(refine congrArg vi ?_;rw[l0_1,iW c0];rfl)) rfl rfl
theorem mY (O:aN) (l:List bJ) (g s:Nat) (cs:List DV) (p:bJ→Bool) (hO:O s=.bx cs) (hcs:kT (· +100000) cs=cs) (hsx:aM Tryz.prog g=true) (hk: ∀(ρ:aN) (k:Nat) (x:bJ),ρ k=.bx cs→aZ Tryz.prog ρ g [.agg (cV x),.bp k 0] (vb (p x))):aZ Tryz.prog O 194 [fJ l,.fn g [] [.bp s 0]] (vb (l.any p)):=by
 refine eV Tryz.func194 ?_;refine bB [0,1] ?_;refine aA fun _ Z1=>eZ [0,1] ?_;refine jJ _ (u7 _ l g (s+100000) cs p ?_ hcs hsx hk) ?_
 ·repeat rw[aK,if_neg aV]
  rw[cI,hO];exact congrArg DV.bx hcs
 refine gE ?_;refine Z1 _ (aL (mA 4 ?_));refine xbh ?_
 (cases h:l.any p<;>simp)
section
attribute [local go_sem] cI
theorem aAw (O:aN) (x:bJ) (e:Int) (k:Nat) (hsx:O k=.bx [vi e]):aZ Tryz.prog O 195 [.agg (cV x),.bp k 0] (vb (decide (x.fEl=e))):=by
 refine eV Tryz.func195 ?_;refine bB [0,1] ?_;refine bB [1,2] ?_;refine aL (mA 3 ?_);exact xdh
end
section
attribute [local go_sem] cI
theorem uD (O:aN) (x:bJ) (e:Int) (k:Nat) (hsx:O k=.bx [vi e]):aZ Tryz.prog O 213 [.agg (cV x),.bp k 0] (vb (decide (x.fEl=e))):=by
 refine eV Tryz.func213 ?_;refine bB [0,1] ?_;refine bB [1,2] ?_;refine aL (mA 3 ?_);exact xdh
end
theorem x9 (O:aN) (x:Int) (l:List Int):aZ Tryz.prog O 153 [vi x,d5 l] (vb (l.contains x)):=by
 refine eV Tryz.func153 ?_;refine aB [0,1] ?_;refine aA fun _ Z1=>bN [0,1] ?_;refine f9 (xI _ l x) ?_;refine Z1 _ (aL (dN 4 ?_));exact xd
theorem aJo (O:aN) (r:bL) (e:Int):aZ Tryz.prog O 191 [.agg (bK r),vi e] (vb (jG r.xAf e||jG r.xAl e)):=by
 refine eV Tryz.func191 ?_;refine aB [0,1] ?_;refine aB [2,3] ?_;refine aA fun _ Z2=>bN [2,3,5] ?_;refine f9 (mY _ r.xAf 213 3 [vi e] (fun s=>decide (s.fEl=e)) (by rfl) rfl rfl (fun ρ k r h=>uD ρ r e k h)) ?_;refine rO (fun g0=>mY _ r.xAl 213 3 [vi e] (fun s=>decide (s.fEl=e)) (by rfl) rfl rfl (fun ρ k r h=>uD ρ r e k h)) ?_;refine Z2 _ (aL (dN 4 ?_));exact xd
def ndR (r:bL) (s:aY):Bool:=oV r.xAk s||oV r.xAs s||oV r.xAy s
theorem aMt (O:aN) (r:bL) (s:aY):aZ Tryz.prog O 214 [.agg (bK r),.agg (bO s)] (vb (ndR r s)):=by
 refine eV Tryz.func214 ?_;refine aB [0,1] ?_;refine aA fun _ Z1=>bN [2,3] ?_;refine f9 (kG _ r.xAk s) ?_;refine rO (fun g0=>kG _ r.xAs s) ?_;refine rO (fun g1=>kG _ r.xAy s) ?_;refine Z1 _ (aL (dN 4 ?_));exact xd
def aEq (x:Int):List Int→List Int
 | []=>[x]
 |y::s=>if x<y then x::y::s else y::aEq x s
def uX (s:List Int) (x:Int):List Int:=if s.contains x then s else aEq x s
theorem aZl (x:Int) (l:List Int):(aEq x l).length=l.length+1:=by
 induction l with
 |nil=>rfl
 |cons y s ih=>unfold aEq;split<;>simp[ih]
theorem bJf (l:List Int): ∀acc,(l.foldl uX acc).length≤acc.length+l.length:=by
 induction l with
 |nil=>intro acc;simp
 |cons x l ih=>
  intro acc;have h1:=ih (uX acc x);have h2:(uX acc x).length≤acc.length+1:=by
   unfold uX;split
   ·omega
   rw[aZl];omega
  simp only[aNh,qH];omega
def mkR (l:List Int):List Int:=l.foldl uX []
theorem bGb (l:List Int):(mkR l).length≤l.length:=by have:=bJf l [];simp at this;exact this
theorem aUm (O:aN) (l:List Int) (x:Int):aZ Tryz.prog O 70 [d5 l,vi x] (vb (l.contains x)):=by
 refine bG 0 rfl (.sl _ _ _) fun hl=>?_;refine eV Tryz.func70 ?_;refine aB [0,1] ?_;refine aA fun _ Z1=>aB [0,1] ?_;refine aI (aX [0,1,5] (fun n ρ=> ∃i,n=l.length-i∧(i≤l.length)∧(l.contains x=(l.drop i).contains x)∧ρ=dU O [(0,d5 l),(1,vi x),(5,vi (i:Nat))]) _ ⟨0,rfl,?_,?_,?_⟩ ?_)
 ·exact bD
 ·exact bD
 ·exact dT
 rintro n ρ ⟨i,rfl,l0_0,l0_1,rfl⟩ _ Z3;refine aA fun _ Z4=>aB [0,1,5] ?_;refine aO (fun c0=>?_) fun c0=>?_
 ·refine aD (Z4 _ (aA fun _ Z6=>aI (aB [0,1,5] ?_)));refine aO (fun c1=>?_) fun c1=>?_
  ·refine aB [] ?_;refine aL (dN 4 (xb ?_))
   (rw[l0_1,dL default c0];simp[← c1])
  refine aD (Z6 _ (bE [0,1,5] ?_));refine Z3 _ _ bD ⟨i+1,rfl,bD,?_,dT⟩
  ·rw[l0_1,dL default c0,List.contains_cons,oF.2 (fC c1)];rfl
 refine bA (Z1 _ (aB [] ?_));refine aL (dN 4 (xb ?_))
 (rw[l0_1,iW c0];rfl)
theorem aJi (O:aN) (l:List Int) (x:Int) (hb:l.length≤1000000):aZ Tryz.prog O 71 [d5 l,vi x] (d5 (uX l x)):=by
 refine eV Tryz.func71 ?_;refine aB [0,1] ?_;refine aA fun _ Z1=>aA fun _ Z2=>bN [0,1] ?_;refine f9 (aUm _ _ _) ?_;refine Z2 _ (aO (fun c0=>?_) fun c0=>?_)
 ·refine aB [0] ?_;refine aL (dN 4 ?_);exact dX.encL rfl (by rw[uX,if_pos c0])
 refine aD (Z1 _ (aB [0,1] ?_));refine aB [0,1,5] ?_;refine aA fun _ Z6=>aB [0,1,5,6] ?_;refine aI (l4 5 3 1 eI rfl rfl ?_);refine aX [0,1,5,6,7] (fun n ρ=> ∃i,∃out,∃dn,n=l.length-i∧(i≤l.length)∧((if dn then out++l.drop i else out++aEq x (l.drop i))=aEq x l)∧(dn=false→out.length≤i)∧(out.length≤i+1)∧ρ=dU O [(0,d5 l),(1,vi x),(5,aUu out),(6,vb dn),(7,vi (i:Nat))]) _ ⟨0,[],false,rfl,?_,?_,?_,?_,?_⟩ ?_
 ·exact bD
 ·exact bD
 ·exact bD
 ·exact bD
 ·exact dT
 rintro n ρ ⟨i,out,dn,rfl,l0_0,l0_1,l0_2,l0_3,rfl⟩ _ Z8;refine aA fun _ Z9=>aB [0,1,5,6,7] ?_;refine aO (fun c1=>?_) fun c1=>?_
 ·refine aD (Z9 _ (aA fun _ Z11=>aI (aA fun _ Z12=>aB [0,1,5,6,7] ?_)));refine aO (fun c2=>?_) fun c2=>?_
  ·refine aB [0,1,5,7] ?_;refine bE [0,1,5,7] ?_;refine Z12 _ (bE [0,1,5,6,7] ?_);refine Z11 _ (bE [0,1,5,6,7] ?_);refine Z8 _ _ bD ⟨i+1,out++[x,l.getD i default],true,rfl,bD,?_,?_,?_,dT⟩
   ·rw[if_pos rfl,← l0_1,if_neg (by simp[c2.1]),dL default c1,aEq,if_pos c2.2];simp
   ·intro h;cases h
   ·have:=l0_2 c2.1;simp<;>omega
  refine aD (Z12 _ (bE [0,1,5,6,7] ?_));refine Z11 _ (bE [0,1,5,6,7] ?_);refine Z8 _ _ bD ⟨i+1,out++[l.getD i default],dn,rfl,bD,?_,?_,?_,dT⟩
  ·rw[← l0_1];rcases dn with _|_
   ·have: ¬x<l.getD i default:=by simpa using c2
    rw[dL default c1,aEq,if_neg this];simp
   rw[dL default c1];simp
  ·intro h;have:=l0_2 h;simp;omega
  ·simp;omega
 refine bA (Z6 _ (aA fun _ Z15=>aB [1,5,6] ?_));refine aO (fun c3=>?_) fun c3=>?_
 ·refine bE [1,5] ?_;refine Z15 _ (aA fun _ Z17=>iS 5 _ rfl rfl ?_);refine bE [5] ?_;refine Z17 _ (aL (dN 4 ?_));exact dX.encL rfl (by rw[uX,if_neg (by rw[c0];decide),← l0_1,if_neg (by simp[c3]),iW c1];rfl)
 refine aD (Z15 _ (aA fun _ Z18=>iS 5 _ rfl rfl ?_));refine bE [5] ?_;refine Z18 _ (aL (dN 4 ?_));exact dX.encL rfl (by rw[uX,if_neg (by rw[c0];decide),← l0_1,if_pos c3,iW c1,kZ])
theorem bUh (s:List Int) (x:Int):(uX s x).length≤s.length+1:=by
 unfold uX;split
 ·omega
 rw[aZl];omega
theorem aOp (O:aN) (l:List Int) (hb:l.length≤1000000):aZ Tryz.prog O 32 [d5 l] (d5 (mkR l)):=by
 refine bG 0 rfl (.sl _ _ _) fun hl=>?_;refine eV Tryz.func32 ?_;refine aB [0] ?_;refine aB [0] ?_;refine aA fun _ Z2=>aB [0,3] ?_;refine aI (xL 3 1 eI rfl rfl ?_);refine aX [0,3,4] (fun n ρ=> ∃i,∃acc,n=l.length-i∧(i≤l.length)∧((l.drop i).foldl uX acc=mkR l)∧(acc.length≤i)∧ρ=dU O [(0,d5 l),(3,d5 acc),(4,vi (i:Nat))]) _ ⟨0,[],rfl,?_,?_,?_,?_⟩ ?_
 ·exact bD
 ·rfl
 ·exact bD
 ·exact dT
 rintro n ρ ⟨i,acc,rfl,l0_0,l0_1,l0_2,rfl⟩ _ Z4;refine aA fun _ Z5=>aB [0,3,4] ?_;refine aO (fun c0=>?_) fun c0=>?_
 ·refine aD (Z5 _ (aA fun _ Z7=>aI (bN [0,3,4] ?_)));refine f9 (aJi _ _ _ (by first|assumption|omega|decide)) ?_;refine Z7 _ (bE [0,3,4] ?_);refine Z4 _ _ bD ⟨i+1,uX acc (l.getD i default),rfl,bD,?_,?_,dT⟩
  ·rw[← l0_1,dL default c0];rfl
  ·have:=bUh acc (l.getD i default);omega
 refine bA (Z2 _ (aB [3] ?_));refine aL (dN 2 ?_);exact dX.encL rfl (by rw[← l0_1,iW c0];rfl)
abbrev z7 (q:List bJ) (i:Nat):bJ:=q.getD i default
def bKh (l:aC) (q:List bJ) (i:Nat):Bool:=(tN l (z7 q i)).2&&(decide (i=0)||((eT l (z7 q (i-1))).2&&decide ((eT l (z7 q (i-1))).1=⟨(z7 q i).fEl,(z7 q i).fIn⟩)))
def neN (q:List bJ) (i k:Nat):Bool:=decide ((z7 q k).fEl≠(z7 q i).fEl)
def aHi (l:aC) (q:List bJ) (i:Nat):Bool:=bKh l q i&&(List.range i).all (neN q i)
def x4 (l:aC) (q:List bJ):Bool:=decide (0<q.length∧q.length≤64)&&(List.range q.length).all (aHi l q)
theorem cNv {l:aC} {q:List bJ} (h:q.length=0∨64<q.length):x4 l q=false:=by unfold x4;rw[e9 aV];rfl
theorem bSk {l:aC} {q:List bJ} {i:Nat} (h:i<q.length) (hf:aHi l q i=false):x4 l q=false:=by unfold x4;rw[rR h hf,aBt]
theorem cRo {l:aC} {q:List bJ} {i:Nat} (hi:q.length≤i) (hi2:i≤q.length) (h0: ¬(q.length=0∨64<q.length)) (h:nX (aHi l q) i):x4 l q=true:=by
 unfold x4;rw[dF aV,t6 (i:=i) h aV];rfl
theorem cJj {l:aC} {q:List bJ} {i:Nat} (h:(tN l (z7 q i)).2=false):aHi l q i=false:=by unfold aHi bKh;rw[h];rfl
theorem cFv {l:aC} {q:List bJ} {i:Nat} (h0:0<i) (h:((eT l (z7 q (i-1))).2=false∨ ¬(eT l (z7 q (i-1))).1.fEl=(z7 q i).fEl)∨ ¬(eT l (z7 q (i-1))).1.xAj=(z7 q i).fIn):aHi l q i=false:=by
 unfold aHi bKh;rw[e9 (show ¬i=0 by omega),vE];rcases h with (h|h)|h
 ·rw[h];simp
 ·rw[e9 (show ¬((eT l (z7 q (i-1))).1=⟨(z7 q i).fEl,(z7 q i).fIn⟩) from fun e=>h (by rw[e]))];simp
 rw[e9 (show ¬((eT l (z7 q (i-1))).1=⟨(z7 q i).fEl,(z7 q i).fIn⟩) from fun e=>h (by rw[e]))];simp
theorem bMb {l:aC} {q:List bJ} {i:Nat} (hp:(tN l (z7 q i)).2=true) (h:0<i→((eT l (z7 q (i-1))).2=true∧(eT l (z7 q (i-1))).1.fEl=(z7 q i).fEl)∧(eT l (z7 q (i-1))).1.xAj=(z7 q i).fIn):bKh l q i=true:=by
 unfold bKh;rw[hp,zG];by_cases h0:i=0
 ·rw[dF h0];rfl
 obtain ⟨⟨h1,h2⟩,h3⟩:=h aV;rw[h1,dF ((mB _ _).2 ⟨h2,h3⟩)];simp
theorem aUj (l:aC) (q:List bJ):(jK l q).length≤q.length:=by have:=zJ l q q.length;rwa [iL] at this
def clp (n a b:Int):Int:=max a (min n b)
def bLe (t:cT):cT:=⟨clp t.fId 1 99,t.xAq,clp t.xAn 1 50000,clp t.xBa 1 10000,clp t.xBt 1 200,clp t.xBl 1 200,clp t.xBu t.xBl 200,clp t.xBq 0 5,clp t.xBv 0 500,clp t.xBw 0 100⟩
def bCt (t:cT):Int:=if pE t.xAq=false then 3 else if t≠bLe t then 1 else 0
def bIh (p:Int):rC:=⟨p,0,0,0⟩
def bWu (t:cT):Cab:={(default:Cab) with xAt:=t,xCs:=1,xCt:=2}
def stI (t:dC):aIf:=⟨List.replicate t.xAg.length ⟨0,0,0⟩,List.replicate t.xAk.length 1⟩
def bAg (t:dC):List lO:=List.replicate t.xAk.length ⟨1,1,0⟩
abbrev aPv (l:List w9):DV:=encL 3 iB l
abbrev cFa (l:List lO):DV:=encL 3 kL l
theorem baB {a b:ByteArray}:(a==b)=true↔a=b:=by
 cases a with|mk x=>cases b with|mk y=>
 rw[ByteArray.mk.injEq];show (x==y)=true↔x=y;exact mV
theorem mxC (a x:Int):(if a<x then x else a)=max a x:=by rw[Int.max_def];split<;>split<;>omega
theorem mnC (x b:Int):(if b<x then b else x)=min x b:=by rw[Int.min_def];split<;>split<;>omega
theorem x2 (O:aN) (l:List ByteArray) (hb:l.length≤1000000):aZ Tryz.prog O 36 [encL 1 eS l] (rowL 9 1 eS l):=by
 refine eV Tryz.func36 ?_;refine aB [0] ?_;refine aA fun _ Z1=>aA fun _ Z2=>bN [0] ?_;intro β hβ;refine Z2 _ (aO (fun c0=>?_) fun c0=>?_)
 ·obtain rfl:l=[]:=by
   cases l with
   |nil=>rfl
   |cons x l=>have:=hβ dH;simp_all
  refine aB [] ?_;refine aL (dN 2 ?_);exact dX.nilrow _ _ sz
 refine aD (Z1 _ (aB [0] ?_));refine aL (dN 2 ?_);exact dX.rowL rfl (by rfl)
theorem xC (O:aN) (l:List ByteArray) (hb:l.length≤1000000):aZ Tryz.prog O 36 [encL 1 eS l] (encL 1 eS l):=dA (x2 O l hb)
theorem wF (O:aN) (l:List mZ) (hb:l.length≤1000000):aZ Tryz.prog O 37 [encL 7 gB l] (rowL 93 7 gB l):=by
 refine eV Tryz.func37 ?_;refine aB [0] ?_;refine aA fun _ Z1=>aA fun _ Z2=>bN [0] ?_;intro β hβ;refine Z2 _ (aO (fun c0=>?_) fun c0=>?_)
 ·obtain rfl:l=[]:=by
   cases l with
   |nil=>rfl
   |cons x l=>have:=hβ dH;simp_all
  refine aB [] ?_;refine aL (dN 2 ?_);exact dX.nilrow _ _ sz
 refine aD (Z1 _ (aB [0] ?_));refine aL (dN 2 ?_);exact dX.rowL rfl (by rfl)
theorem vS (O:aN) (l:List mZ) (hb:l.length≤1000000):aZ Tryz.prog O 37 [encL 7 gB l] (encL 7 gB l):=dA (wF O l hb)
theorem zQ (O:aN) (l:List l0) (hb:l.length≤1000000):aZ Tryz.prog O 38 [encL 4 pU l] (rowL 123 4 pU l):=by
 refine eV Tryz.func38 ?_;refine aB [0] ?_;refine aA fun _ Z1=>aA fun _ Z2=>bN [0] ?_;intro β hβ;refine Z2 _ (aO (fun c0=>?_) fun c0=>?_)
 ·obtain rfl:l=[]:=by
   cases l with
   |nil=>rfl
   |cons x l=>have:=hβ dH;simp_all
  refine aB [] ?_;refine aL (dN 2 ?_);exact dX.nilrow _ _ sz
 refine aD (Z1 _ (aB [0] ?_));refine aL (dN 2 ?_);exact dX.rowL rfl (by rfl)
theorem yD (O:aN) (l:List l0) (hb:l.length≤1000000):aZ Tryz.prog O 38 [encL 4 pU l] (encL 4 pU l):=dA (zQ O l hb)
theorem yB (O:aN) (l:List mS) (hb:l.length≤1000000):aZ Tryz.prog O 39 [encL 4 jW l] (rowL 91 4 jW l):=by
 refine eV Tryz.func39 ?_;refine aB [0] ?_;refine aA fun _ Z1=>aA fun _ Z2=>bN [0] ?_;intro β hβ;refine Z2 _ (aO (fun c0=>?_) fun c0=>?_)
 ·obtain rfl:l=[]:=by
   cases l with
   |nil=>rfl
   |cons x l=>have:=hβ dH;simp_all
  refine aB [] ?_;refine aL (dN 2 ?_);exact dX.nilrow _ _ sz
 refine aD (Z1 _ (aB [0] ?_));refine aL (dN 2 ?_);exact dX.rowL rfl (by rfl)
theorem xO (O:aN) (l:List mS) (hb:l.length≤1000000):aZ Tryz.prog O 39 [encL 4 jW l] (encL 4 jW l):=dA (yB O l hb)
theorem yC (O:aN) (l:List tL) (hb:l.length≤1000000):aZ Tryz.prog O 40 [encL 3 nY l] (rowL 133 3 nY l):=by
 refine eV Tryz.func40 ?_;refine aB [0] ?_;refine aA fun _ Z1=>aA fun _ Z2=>bN [0] ?_;intro β hβ;refine Z2 _ (aO (fun c0=>?_) fun c0=>?_)
 ·obtain rfl:l=[]:=by
   cases l with
   |nil=>rfl
   |cons x l=>have:=hβ dH;simp_all
  refine aB [] ?_;refine aL (dN 2 ?_);exact dX.nilrow _ _ sz
 refine aD (Z1 _ (aB [0] ?_));refine aL (dN 2 ?_);exact dX.rowL rfl (by rfl)
theorem wI (O:aN) (l:List tL) (hb:l.length≤1000000):aZ Tryz.prog O 40 [encL 3 nY l] (encL 3 nY l):=dA (yC O l hb)
theorem aAq (O:aN) (l:List Stop) (hb:l.length≤1000000):aZ Tryz.prog O 48 [encL 4 pT l] (rowL 148 4 pT l):=by
 refine eV Tryz.func48 ?_;refine aB [0] ?_;refine aA fun _ Z1=>aA fun _ Z2=>bN [0] ?_;intro β hβ;refine Z2 _ (aO (fun c0=>?_) fun c0=>?_)
 ·obtain rfl:l=[]:=by
   cases l with
   |nil=>rfl
   |cons x l=>have:=hβ dH;simp_all
  refine aB [] ?_;refine aL (dN 2 ?_);exact dX.nilrow _ _ sz
 refine aD (Z1 _ (aB [0] ?_));refine aL (dN 2 ?_);exact dX.rowL rfl (by rfl)
section
attribute [local go_sem] mxC mnC
theorem jU (O:aN) (n a b:Int):aZ Tryz.prog O 163 [vi n,vi a,vi b] (vi (clp n a b)):=by
 refine eV Tryz.func163 ?_;refine aB [0,1,2] ?_;refine aB [0,1,2] ?_;refine aL (dN 6 ?_);exact dX.is (by simp (config := { maxSteps := 2000000 }) (disch:=omega) only[go_sem,seval]<;>(rfl)) rfl rfl
end
set_option maxRecDepth 20000 in
theorem aJg (O:aN) (t:cT):aZ Tryz.prog O 115 [.agg (gX t)] (.agg (gX (bLe t))):=by
 refine eV Tryz.func115 ?_;refine aB [0] ?_;refine aA fun _ Z1=>aBi 33 [1,2] [1,3,4,5,6,7,8,9,10,11,12,13,14,15,16,17,18,19,20,21,22,23,24,25,26,27,28,29,30,31,32,33,34,2] [] [] [[],[0],[0,1],[],[3],[],[5],[0,1,2,5,6],[],[8],[0,1,2,5,6,7,8,9],[],[11],[0,1,2,5,6,7,8,9,10,11,12],[],[14],[0,1,2,5,6,7,8,9,10,11,12,13,14,15],[],[17],[],[19],[0,1,2,5,6,7,8,9,10,11,12,13,14,15,16,17,18,19,20],[],[22],[0,1,2,5,6,7,8,9,10,11,12,13,14,15,16,17,18,19,20,21,22,23],[],[25],[0,1,2,5,6,7,8,9,10,11,12,13,14,15,16,17,18,19,20,21,22,23,24,25,26],[],[28],[0,1,2,5,6,7,8,9,10,11,12,13,14,15,16,17,18,19,20,21,22,23,24,25,26,27,28,29],[0,1,2,3,4,5,6,7,8,9,10,11,12,13,14,15,16,17,18,19,20,21,22,23,24,25,26,27,28,29,30],[0,1,2,3,4,5,6,7,8,9,10,11,12,13,14,15,16,17,18,19,20,21,22,23,24,25,26,27,28,29,30,31]] [[32],[32],[32],[32],[32],[32],[32],[32],[32],[32],[32],[32],[32],[32],[32],[32],[32],[32],[32],[32],[32],[32],[32],[32],[32],[32],[32],[32],[32],[32],[32],[32],[]] (fun bQ=>dU O [(1,.bx (gX t)),(3,bC (bQ 0) (.bp 1 0)),(4,bC (bQ 1) (vi t.fId)),(5,bC (bQ 2) (vi (clp t.fId 1 99))),(6,bC (bQ 3) (.bp 1 1)),(7,bC (bQ 4) (vs t.xAq)),(8,bC (bQ 5) (.bp 1 2)),(9,bC (bQ 6) (vi t.xAn)),(10,bC (bQ 7) (vi (clp t.xAn 1 50000))),(11,bC (bQ 8) (.bp 1 3)),(12,bC (bQ 9) (vi t.xBa)),(13,bC (bQ 10) (vi (clp t.xBa 1 10000))),(14,bC (bQ 11) (.bp 1 4)),(15,bC (bQ 12) (vi t.xBt)),(16,bC (bQ 13) (vi (clp t.xBt 1 200))),(17,bC (bQ 14) (.bp 1 5)),(18,bC (bQ 15) (vi t.xBl)),(19,bC (bQ 16) (vi (clp t.xBl 1 200))),(20,bC (bQ 17) (.bp 1 6)),(21,bC (bQ 18) (vi t.xBu)),(22,bC (bQ 19) (.bp 1 5)),(23,bC (bQ 20) (vi t.xBl)),(24,bC (bQ 21) (vi (clp t.xBu t.xBl 200))),(25,bC (bQ 22) (.bp 1 7)),(26,bC (bQ 23) (vi t.xBq)),(27,bC (bQ 24) (vi (clp t.xBq 0 5))),(28,bC (bQ 25) (.bp 1 8)),(29,bC (bQ 26) (vi t.xBv)),(30,bC (bQ 27) (vi (clp t.xBv 0 500))),(31,bC (bQ 28) (.bp 1 9)),(32,bC (bQ 29) (vi t.xBw)),(33,bC (bQ 30) (vi (clp t.xBw 0 100))),(34,bC (bQ 31) (.agg (gX (bLe t)))),(2,rP (bQ 32) true (.bx (gX (bLe t))) (.bx [vi 0,vs ⟨#[]⟩,vi 0,vi 0,vi 0,vi 0,vi 0,vi 0,vi 0,vi 0]))]) (fun iQ hiQ oQ hoQ bQ hbQ KQ hKQ=>?_) ?_
 ·match iQ,hiQ with
  |0,_|1,_|3,_|4,_|5,_|6,_|8,_|9,_|11,_|12,_|14,_|15,_|17,_|18,_|19,_|20,_|22,_|23,_|25,_|26,_|28,_|29,_|31,_|32,_=>
   exact mkp hoQ hbQ hKQ
  |2,_=>
   exact mkc hoQ hbQ hKQ (jU _ t.fId 1 99)
  |7,_=>
   exact mkc hoQ hbQ hKQ (jU _ t.xAn 1 50000)
  |10,_=>
   exact mkc hoQ hbQ hKQ (jU _ t.xBa 1 10000)
  |13,_=>
   exact mkc hoQ hbQ hKQ (jU _ t.xBt 1 200)
  |16,_=>
   exact mkc hoQ hbQ hKQ (jU _ t.xBl 1 200)
  |21,_=>
   exact mkc hoQ hbQ hKQ (jU _ t.xBu t.xBl 200)
  |24,_=>
   exact mkc hoQ hbQ hKQ (jU _ t.xBq 0 5)
  |27,_=>
   exact mkc hoQ hbQ hKQ (jU _ t.xBv 0 500)
  |30,_=>
   exact mkc hoQ hbQ hKQ (jU _ t.xBw 0 100)
 refine lL ?_;refine Z1 _ (aL ?_);refine nM 2 71 rfl sz (by simp (config := { maxSteps := 2000000 }) (disch:=omega) only[go_sem,seval]<;>(rfl)) sz sz
theorem zT (O:aN) (t:cT):aZ Tryz.prog O 65 [.agg (gX t)] (vi (bCt t)):=by
 refine eV Tryz.func65 ?_;refine aB [0] ?_;refine aA fun _ Z1=>aA fun _ Z2=>bN [1] ?_;refine f9 (aBw _ t.xAq) ?_;refine Z2 _ (aO (fun c0=>?_) fun c0=>?_)
 ·refine aB [] ?_;refine aL (dN 2 ?_);exact dX.is (by simp (config := { maxSteps := 2000000 }) (disch:=omega) only[go_sem,seval]<;>(rw[bCt,if_pos (by simpa using c0)])) rfl rfl
 refine aD (Z1 _ (aA fun _ Z4=>aA fun _ Z5=>gJ [1] [] ?_));refine cdz (aJg _ t) ?_;refine Z5 _ (aO (fun c1=>?_) fun c1=>?_)
 ·refine aB [] ?_;refine aL (dN 2 ?_);exact dX.is (by simp (config := { maxSteps := 2000000 }) (disch:=omega) only[go_sem,seval]<;>(rw[bCt,if_neg (by simpa using c0),if_pos (by generalize bLe t=u at c1 ⊢;intro h;subst h;simp at c1;rw[baB.2 rfl] at c1;cases c1)])) rfl rfl
 refine aD (Z4 _ (aB [] ?_));refine aL (dN 2 ?_);exact dX.is (by simp (config := { maxSteps := 2000000 }) (disch:=omega) only[go_sem,seval]<;>(rw[bCt,if_neg (by simpa using c0),if_neg (by rw[ne_eq,zY,bRp];generalize bLe t=u at c1 ⊢;simpa[baB] using c1)])) rfl rfl
theorem zE (O:aN) (p:Int):aZ Tryz.prog O 76 [vi p,vi 0] (.agg (lT (bIh p))):=by
 refine eV Tryz.func76 ?_;refine aB [0,1] ?_;refine aB [0,1,4] ?_;refine aL ?_;refine nM 4 79 rfl sz (by simp (config := { maxSteps := 2000000 }) (disch:=omega) only[go_sem,seval]<;>(rfl)) sz sz
theorem bCj (O:aN) (t:cT):aZ Tryz.prog O 46 [.agg (gX t),vi 0] (.agg (bWx (bWu t))):=by
 refine eV Tryz.func46 ?_;refine aB [0,1] ?_;refine aA fun _ Z1=>gJ [1,2,4] [] ?_;refine cdz (zE _ 0) ?_;refine Z1 _ ?_;refine pN 4 (ds:=bWx (bWu t)) rfl (by simp (config := { maxSteps := 2000000 }) (disch:=omega) only[go_sem,seval];rfl) (jS (jS (jS (jS (jS (jS (jS (jS (jS (jS (jS (jS (jS (jS (jS (jS (jS (jS (gA (gA (jS (jS (jS (jS (jS (jS .nil)))))))))))))))))))))))))) ?_;refine aL ?_;refine nM 4 83 rfl sz (by simp (config := { maxSteps := 2000000 }) (disch:=omega) only[go_sem,seval]<;>(rfl)) sz sz
end Go.Sg
namespace Go.Sg
open Go.RowKit
open Go.Rv (FR)
section
variable {P:Program} {nt:Nat} {w0:World} {I0:Nat→Prop} {A0:dD} {G0:Nat→Prop} {ρ:aN}
theorem dB.giveH {w:World} {I:Nat→Prop} {A:dD} {a:Act} {s1 s2:List Rg} {h0:Hd} {d:Nat} {e:TypeId} {z:Nat} {l:List (List DV)} (hs:dB nt w I A ρ a) (hf:pB w0 I0 A0 G0 (s1++s2) w I A) (hd:d<nt)
  (hρ:ρ d=.row e z l) (hnew: ∀g c,A d=some (some g,c)→G0 g∨w0.heap.size≤g) (hA:A d=some (h0.B,h0.c)) (hx:a.tmps.getD d undef=.slice h0.b l.length h0.c) (hb:mU h0.B h0.b):
  dB nt w I (kC A d none) (set (d4 d ρ) d (h0.sl l.length)) a∧pB w0 I0 A0 G0 (s1++ .row h0 e z l::s2) w I (kC A d none):=by
 have ho:=hs.osim.own d;have hd2:d<100000:=eE hd hs.bound;rw[hρ] at ho;obtain ⟨B',c',hA',hrow⟩:=ho;rw[hA] at hA';simp only[bX,cF] at hA';obtain ⟨rfl,rfl⟩:=hA';obtain ⟨B,b,c⟩:=h0;simp only at hA hx hb hrow hnew;have hup: ∀t,t≠d→kC A d none t=A t:=fun t h=>fF A _ h;have hno: ∀t g c',kC A d none t=some (some g,c')→t≠d∧A t=some (some g,c'):=fun t g c' h=>by
  unfold kC at h;split at h
  ·cases h
  rename_i h';exact ⟨h',h⟩
 have hsep: ∀g,B=some g→g<w.heap.size∧ ¬I g∧ ∀s c',kC A d none s≠some (some g,c'):=fun g hg=>by
  have h1:=hs.osim.sep d g c (by rw[hA,hg]);refine ⟨h1.1,h1.2,fun s c' h=>?_⟩;obtain ⟨h2,h3⟩:=hno s g c' h;exact h2 (hs.osim.inj s d g c' c h3 (by rw[hA,hg]))
 obtain ⟨f1,f2,f3,f4⟩:=hf;have hm: ∀x∈s1++(.row ⟨B,b,c⟩ e z l)::s2,x=(.row ⟨B,b,c⟩ e z l)∨x∈s1++s2:=fun x hx=>by
  simp at hx ⊢;rcases hx with h|h|h
  ·exact .inr (.inl h)
  ·exact .inl h
  exact .inr (.inr h)
 have hne: ∀x∈s1++s2,∀g,B=some g→x.B≠some g:=fun x hx g hg hxg=>((f1 x hx).free g hxg).2.2 d c (by rw[hA];exact congrArg (fun q=>some (q,c)) hg);refine ⟨⟨⟨fun s=>?_,fun s t g c1 c2 h1 h2=>?_,fun s g c1 h=>?_,hs.osim.imm⟩,hs.size,hs.bound,fun i hi=>?_,fun s h=>?_⟩,fun r hr=>?_,?_,fun r hr g hg=>?_,⟨f4.os,f4.tape,f4.output,f4.size,f4.imm,fun g hg hAg hG=>?_,fun s hs'=>?_,fun s g c' h hg hs'=>f4.loc s g c' (hno s g c' h).2 hg hs'⟩⟩
 ·unfold set;split
  ·trivial
  rename_i h;rw[fT hd2 (hs.out s)];exact (hs.osim.own s).reown h hup
 ·exact hs.osim.inj s t g c1 c2 (hno s g c1 h1).2 (hno t g c2 h2).2
 ·exact hs.osim.sep s g c1 (hno s g c1 h).2
 ·unfold set;split
  ·rename_i h;subst h;rw[hx];exact .ofRel (.v _ _)
  rename_i h;rw[fT hd2 (hs.out i)];exact (hs.slot i hi).reown h hup
 ·unfold set;rw[if_neg aV,fT hd2 (hs.out s)];exact l3 (hs.out s h)
 ·rcases hm r hr with rfl|h
  ·exact ⟨⟨hb,hrow⟩,hsep⟩
  obtain ⟨q1,q3⟩:=f1 r h;exact ⟨q1,fun g hg=>⟨(q3 g hg).1,(q3 g hg).2.1,fun s c' h=>(q3 g hg).2.2 s c' (hno s g c' h).2⟩⟩
 ·unfold sB at f2 ⊢;rw[oI] at f2 ⊢;refine ⟨f2.1,lZ.2 ⟨fun y hy g hg=>hne y (by simp[hy]) g hg,f2.2.1⟩,fun x hx y hy g hg hy'=>?_⟩;rcases gN.1 hy with rfl|hy
  ·exact hne x (by simp[hx]) g hy' hg
  exact f2.2.2 x hx y hy g hg hy'
 ·rcases hm r hr with rfl|h
  ·exact hnew g c (by rw[hA];exact congrArg (fun q=>some (q,c)) hg)
  exact f3 r h g hg
 ·obtain ⟨k1,k2,k3⟩:=f4.old g hg hAg hG;exact ⟨k1,k2,fun s c' h=>k3 s c' (hno s g c' h).2⟩
 rw[hup s aV];exact f4.outA s hs'
theorem aRa {ops:Array Oper} {o:Oper} {K:List Rg→aN→Prop} {rs s1 s2:List Rg} {h0:Hd} {e:TypeId} {z:Nat} {l:List (List DV)} {fv:Operand} {args:Array Operand} {ts:Array TypeId} (d dd:Nat) (hd:d<nt) (hρ:ρ d=h0.sl l.length) (hr:rs=s1++ .row h0 e z l::s2)
  (hop:o.op=.call ⟨.value fv,args,ts⟩) (hg:o.guard=none) (hdst:o.dst=some dd) (hdd:dd<nt) (hne:dd≠d) (ho:eJ nt o=true) (hgf:gd (ev (set (d4 d ρ) d (.row e z l)) fv)) (hga: ∀x∈args.toList,gd (ev (set (d4 d ρ) d (.row e z l)) x))
  {f:FuncId} {al:List DV} (hc:callee (un (ev (set (d4 d ρ) d (.row e z l)) fv)) (args.toList.map fun x=>un (ev (set (d4 d ρ) d (.row e z l)) x))=some (f,al)) (hb:aM P f=true)
  {R:aN→DV→Prop} (hR:iC P (set (d4 d ρ) d (.row e z l)) f al R)
  (hK: ∀O' r,R O' r→cK r=false∧ ∃l',l'.length=l.length∧O' d=.row e z l'∧K (s1++ .row h0 e z l'::s2) (set (d4 d (set O' dd r)) d (h0.sl l.length))):
  lW P nt (pB w0 I0 (cG A0) G0) ops o K rs ρ:=by
 subst hr;intro ro ds I A a w hs hdf hf next Q' hn
 have hbase:mU h0.B h0.b:=(hf.1 (.row h0 e z l) dH).holds.1;have hx0:a.tmps.getD d undef=.slice h0.b l.length h0.c:=by
  have:=hs.slot d hd;rw[hρ] at this;generalize a.tmps.getD d undef=x at this ⊢;have this:bP w I A (.v (.slice h0.b l.length h0.c)) x:=this;cases this;rfl
 obtain ⟨h1,h2⟩:=hs.takeG hf hd hρ;obtain ⟨vals,v1,v2,v3⟩:=nI h1 hop ho hgf hga hc hb;rw[if_pos (by simp[Region.wanted,hg])];refine tG v1 ?_;refine (hR w I (kC A d (some (h0.B,h0.c))) vals h1.osim v2 v3).mono ?_;rintro e' w' ⟨v,I',O',r,rfl,k1,k2,k3,k4,k5,k6⟩;obtain ⟨hro,l',hl',hO'd,hK'⟩:=hK O' r k6;have hcal:=h1.called k1 k2 k3 k4;have hrel:bP w' I' (kC A d (some (h0.B,h0.c))) r v:=by
  cases r<;>first|exact k5|(cases hro)
 have hput:=hcal.put (d:=dd) (v:=r) (x:=v) hdd (.ofRel hrel) (.ofPure hro);have hf2:pB w0 I0 (cG A0) G0 (s1++s2) w' I' (kC A d (some (h0.B,h0.c))):=h2.ext h1.osim k4;have hd2:d<100000:=eE hd hs.bound;rw[hdst];have htm:(a.put (some dd) v).tmps.getD d undef=.slice h0.b l'.length h0.c:=by
  rw[hl',← hx0];show (a.tmps.setIfInBounds dd v).getD d undef=_;simp[oB,aBx,hne]
 obtain ⟨g1,g2⟩:=hput.giveH (h0:=h0) (d:=d) (e:=e) (z:=z) (l:=l') hf2 hd (by rw[aK,if_neg (fC hne)];exact hO'd) (fun g c hA=>hf2.mine hput.osim hd2 g c hA) (dJ _ _ _) htm hbase;rw[hl'] at g1;exact hn I' _ _ w' _ _ g1 (by rw[gT];exact hdf) g2 hK'
end
end Go.Sg
namespace Go.Sg
open Go.RowKit
open Go.Rv (FR)
def Lnd (rs:List Rg) (d d':DV):Prop:= ∀w I A x,(∀r∈rs,r.holds w I)→bP w I A d x→bP w (fun g=>I g∨GOf rs g) fO d' x
theorem Lnd.pure {rs:List Rg} (d:DV) (h:fL (fun _=>false) d=true):Lnd rs d d:=fun _ _ _ _ _ hr=>(hr.pure h).mono fun _ hg=>⟨.inl hg,fun _=>rfl⟩
theorem Lnd.row {rs:List Rg} {h0:Hd} {e:TypeId} {z:Nat} {l:List (List DV)} (hm:Rg.row h0 e z l∈rs) {n:Nat} (hn:n=l.length) {d':DV} (hw:eK (Sg.frz z l) d'):Lnd rs (h0.sl n) d':=by
 subst hn;intro w I A x hr hx;have hx:bP w I A (.v (.slice h0.b l.length h0.c)) x:=hx;cases hx;have:=hr _ hm;exact hw _ _ _ _ (this.2.frz (fun g hg=>.inr ⟨_,hm,hg⟩) (fun g hg=>.inl hg) this.1)
theorem Lnd.agg {rs:List Rg} {cs ds:List DV} (hl:cs.length=ds.length) (h: ∀(j:Nat) (c d:DV),cs[j]?=some c→ds[j]?=some d→Lnd rs c d):Lnd rs (.agg cs) (.agg ds):=by
 intro w I A x hr hx;cases hx with
 |agg _ _ vs hl' hone hrel=>
  refine .agg _ ds vs (hl▸hl') hone fun j d u hd hu=>?_;have hj:j<cs.length:=by
   rcases b9 j ds.length with h1|h1
   ·omega
   rw[fN h1] at hd;cases hd
  exact h j _ _ (cH hj) hd w I A u hr (hrel j _ u (cH hj) hu)
inductive aJx (rs:List Rg):List DV→List DV→Prop
 |nil:aJx rs [] []
 |cons {c d:DV} {cs ds:List DV} (h:Lnd rs c d) (t:aJx rs cs ds):aJx rs (c::cs) (d::ds)
theorem aJx.len {rs:List Rg} {cs ds:List DV} (h:aJx rs cs ds):cs.length=ds.length:=by
 induction h with
 |nil=>rfl
 |cons _ _ ih=>simp[ih]
theorem aJx.get {rs:List Rg} {cs ds:List DV} (h:aJx rs cs ds): ∀(j:Nat) (c d:DV),cs[j]?=some c→ds[j]?=some d→Lnd rs c d:=by
 induction h with
 |nil=>intro j c d h;cases h
 |cons h _ ih=>
  intro j c d hc hd;cases j with
  |zero=>simp at hc hd;subst hc;subst hd;exact h
  |succ j=>exact ih j c d (by simpa using hc) (by simpa using hd)
theorem aJx.toAgg {rs:List Rg} {cs ds:List DV} (h:aJx rs cs ds):Lnd rs (.agg cs) (.agg ds):=.agg h.len h.get
def PlV (r:DV):Prop:= ∀w I I' A A' x,bP w I A r x→bP w I' A' r x
theorem PlV.v (x:Value):PlV (.v x):=fun _ _ _ _ _ _ h=>by cases h;exact .v _ _
theorem PlV.agg {cs:List DV} (h: ∀d∈cs,PlV d):PlV (.agg cs):=fun _ _ _ _ _ _ hx=>by
 cases hx with
 |agg _ _ vs hl hone hrel=>exact .agg _ cs vs hl hone fun j d u hd hu=>h d (pP hd) _ _ _ _ _ _ (hrel j d u hd hu)
theorem PlV.tup {cs:List DV} (h: ∀d∈cs,PlV d):PlV (.tup cs):=fun _ _ _ _ _ _ hx=>by
 cases hx with
 |tup _ _ vs hl hrel=>exact .tup _ cs vs hl fun j d u hd hu=>h d (pP hd) _ _ _ _ _ _ (hrel j d u hd hu)
section
variable {P:Program} {nt:Nat} {w0:World} {I0:Nat→Prop} {A0:dD} {G0:Nat→Prop} {ρ:aN}
theorem bZx {w:World} {I:Nat→Prop} {A:dD} {a:Act} (hs:dB nt w I A ρ a) {rs:List Rg} (hf:pB w0 I0 A0 G0 rs w I A) {f:FuncId} {l al:List DV} {vals:Array Value} (v2:vals.size=l.length)
  (v3: ∀(j:Nat) (d:DV) (u:Value),l[j]?=some d→vals[j]?=some u→bP w I A d u) (hal:aJx rs l al) {r:DV} (hR:aZ P (fun _=>.any) f al r) (hro:cK r=false) (hpl:PlV r):
  Calls P f vals w fun e w'=> ∃v,e=.returned v∧oT w I w' I∧bP w' I A r v:=by
 have hO:jI w (fun g=>I g∨GOf rs g) fO (fun _=>.any):=by
  refine ⟨fun s=>trivial,fun s t g c c' h=>(by cases h),fun s g c h=>(by cases h),⟨fun g hg=>?_,fun g us e hg=>?_⟩⟩
  ·rcases hg with h|⟨r,hr,hB⟩
   ·exact hs.osim.imm.lt g h
   exact ((hf.1 r hr).free g hB).1
  exact ⟨.inl (hs.osim.imm.glob g us e hg).1,(hs.osim.imm.glob g us e hg).2⟩
 refine (hR w _ fO vals hO (v2.trans hal.len) fun j d u hd hu=>?_).mono ?_
 ·have hj:j<l.length:=by
   rw[hal.len];rcases b9 j al.length with h1|h1
   ·exact h1
   rw[fN h1] at hd;cases hd
  exact hal.get j _ d (cH hj) hd w I A u (fun r hr=>(hf.1 r hr).holds) (v3 j _ u (cH hj) hu)
 rintro e' w' ⟨v,I',O',r',rfl,k1,k2,k3,k4,k5,rfl,rfl⟩;have hgr:oT w I w' I:=⟨k4.os,k4.tape,k4.output,k4.size,fun g hg=>(k4.old g hg (fun s c h=>by cases h)).1,fun _ h=>h,fun _ h=>.inl h⟩;refine ⟨v,rfl,hgr,?_⟩;have:bP w' I' fO r' v:=by cases r'<;>first|exact k5|(cases hro)
 exact hpl _ _ _ _ _ _ this
theorem bKf {ops:Array Oper} {o:Oper} {K:List Rg→aN→Prop} {rs:List Rg} {fv:Operand} {args:Array Operand} {ts:Array TypeId} {dd:Nat} (hop:o.op=.call ⟨.value fv,args,ts⟩) (hg:o.guard=none) (hdst:o.dst=some dd) (hdd:dd<nt)
  (ho:eJ nt o=true) (hgf:gd (ev ρ fv)) (hga: ∀x∈args.toList,gd (ev ρ x)) {f:FuncId} {l al:List DV} (hc:callee (un (ev ρ fv)) (args.toList.map fun x=>un (ev ρ x))=some (f,l)) (hb:aM P f=true)
  (hal:aJx rs l al) {r:DV} (hR:aZ P (fun _=>.any) f al r) (hro:cK r=false) (hpl:PlV r) (hK:K rs (set ρ dd r)):lW P nt (pB w0 I0 A0 G0) ops o K rs ρ:=by
 intro ro ds I A a w hs hdf hf next Q' hn
 obtain ⟨vals,v1,v2,v3⟩:=nI hs hop ho hgf hga hc hb;rw[if_pos (by simp[Region.wanted,hg])];refine tG v1 ?_;refine (bZx hs hf v2 v3 hal hR hro hpl).mono ?_;rintro e' w' ⟨v,rfl,hgr,hrel⟩;rw[hdst];exact hn I A _ w' _ _ ((hs.grow hgr).put (d:=dd) (v:=r) (x:=v) hdd (.ofRel hrel) (.ofPure hro)) (by rw[gT];exact hdf) (hf.ext hs.osim (hgr.ext hs.osim)) hK
theorem vJ {σ:Type} {F:σ→World→(Nat→Prop)→dD→Prop} {Q:Exit→σ→aN→Prop} {st:σ} {c:Code} (s:Nat) {cs ds:List DV} (hlt:(decide (s<100000))=true) (h:ρ s=.bx cs) (hw:rQ cs ds) (k:pL P nt F c Q st (set ρ s (.bx ds))):pL P nt F c Q st ρ:=
 fun ro ds' I A a w hs hd hf=>k ro ds' I A a w ⟨⟨fun t=>by
   rw[aK];split
   ·rename_i e;subst e;have ho:=hs.osim.own t;rw[h] at ho;obtain ⟨g,c',us,et,h1,h2,h3,h4,h5⟩:=ho;refine ⟨g,c',us,et,h1,h2,by rw[← hw.len];exact h3,h4,fun j d u hdj hu=>?_⟩;obtain ⟨d',q1,q2⟩:=hw.get j d hdj;exact q2 _ _ _ _ (h5 j d' u q1 hu)
   ·exact hs.osim.own t,hs.osim.inj,hs.osim.sep,hs.osim.imm⟩,hs.size,hs.bound,fun i hi=>by
   rw[aK];split
   ·rename_i e;subst e;have:=hs.slot i hi;rw[h] at this;exact this
   ·exact hs.slot i hi,fun t ht=>by
   have:=dK hlt;rw[aK,if_neg aV];exact hs.out t ht⟩ hd hf
theorem jX.cut {w:World} {I:Nat→Prop} {e:TypeId} {z:Nat} {xs:List (List DV)} {B:Option Nat} {c:Nat} (h:jX w I e z xs B c) (m:Nat):jX w I e z (xs.take m) B c:=by
 cases B with
 |none=>obtain ⟨rfl,h2⟩:=h;exact ⟨by simp,h2⟩
 |some g=>
  obtain ⟨us,q1,q2,q3,q4,q5⟩:=h;refine ⟨us,q1,q2,q3,eL (by rw[iO];omega) q4,fun i x hx=>?_⟩;rw[oR] at hx;split at hx
  ·exact q5 i x hx
  cases hx
theorem pB.cut {w:World} {I:Nat→Prop} {A:dD} {s1 s2:List Rg} {h h':Hd} {e:TypeId} {z:Nat} {l:List (List DV)} (hf:pB w0 I0 A0 G0 (s1++ .row h e z l::s2) w I A) (m:Nat) (hB:h'.B=h.B) (hc:h'.c=h.c) (hb:mU h'.B h'.b):pB w0 I0 A0 G0 (s1++ .row h' e z (l.take m)::s2) w I A:=by
 obtain ⟨f1,f2,f3,f4⟩:=hf;have hm: ∀x∈s1++(.row h' e z (l.take m))::s2,x=(.row h' e z (l.take m))∨x∈s1++s2:=fun x hx=>by
  simp at hx ⊢;rcases hx with h|h|h
  ·exact .inr (.inl h)
  ·exact .inl h
  exact .inr (.inr h)
 have hi: ∀x∈s1++s2,x∈s1++(.row h e z l)::s2:=fun x hx=>by
  simp at hx ⊢;rcases hx with h|h
  ·exact .inl h
  exact .inr (.inr h)
 have h0:=f1 (.row h e z l) dH;have hBB:(Rg.row h' e z (l.take m)).B=(Rg.row h e z l).B:=hB;refine ⟨fun r hr=>?_,?_,fun r hr g hg=>?_,f4⟩
 ·rcases hm r hr with rfl|hx
  ·exact ⟨⟨hb,by rw[hB,hc];exact h0.holds.2.cut m⟩,fun g hg=>h0.free g (hBB▸hg)⟩
  exact f1 r (hi r hx)
 ·unfold sB at f2 ⊢;rw[oI] at f2 ⊢;refine ⟨f2.1,lZ.2 ⟨fun y hy g hg=>(lZ.1 f2.2.1).1 y hy g (hBB▸hg),(lZ.1 f2.2.1).2⟩,fun x hx y hy g hg hy'=>?_⟩;rcases gN.1 hy with rfl|hy
  ·exact f2.2.2 x hx (.row h e z l) dH g hg (hBB▸hy')
  exact f2.2.2 x hx y (by simp[hy]) g hg hy'
 rcases hm r hr with rfl|hx
 ·exact f3 (.row h e z l) dH g (hBB▸hg)
 exact f3 r (hi r hx) g hg
theorem aRo {ops:Array Oper} {o:Oper} {K:List Rg→aN→Prop} {rs s1 s2:List Rg} {h0:Hd} {e:TypeId} {z:Nat} {l:List (List DV)} {fv:Operand} {args:Array Operand} {ts:Array TypeId} (d dd:Nat) (hd:d<nt) (hρ:ρ d=h0.sl l.length) (hr:rs=s1++ .row h0 e z l::s2)
  (hop:o.op=.call ⟨.value fv,args,ts⟩) (hg:o.guard=none) (hdst:o.dst=some dd) (hdd:dd<nt) (hne:dd≠d) (ho:eJ nt o=true) (hgf:gd (ev (set (d4 d ρ) d (.row e z l)) fv)) (hga: ∀x∈args.toList,gd (ev (set (d4 d ρ) d (.row e z l)) x))
  {f:FuncId} {al:List DV} (hc:callee (un (ev (set (d4 d ρ) d (.row e z l)) fv)) (args.toList.map fun x=>un (ev (set (d4 d ρ) d (.row e z l)) x))=some (f,al)) (hb:aM P f=true)
  {R:aN→DV→Prop} (hR:iC P (set (d4 d ρ) d (.row e z l)) f al R)
  (hK: ∀O' r,R O' r→ ∃m l',r=.own d m∧l'.length=l.length∧O' d=.row e z l'∧ ∀h':Hd,K (s1++ .row h' e z (l'.take m)::s2) (set (set (d4 d (set O' dd .any)) d (h0.sl l.length)) dd (h'.sl m))):
  lW P nt (pB w0 I0 (cG A0) G0) ops o K rs ρ:=by
 subst hr;intro ro ds I A a w hs hdf hf next Q' hn
 have hbase:mU h0.B h0.b:=(hf.1 (.row h0 e z l) dH).holds.1;have hx0:a.tmps.getD d undef=.slice h0.b l.length h0.c:=by
  have:=hs.slot d hd;rw[hρ] at this;generalize a.tmps.getD d undef=x at this ⊢;have this:bP w I A (.v (.slice h0.b l.length h0.c)) x:=this;cases this;rfl
 obtain ⟨h1,h2⟩:=hs.takeG hf hd hρ;obtain ⟨vals,v1,v2,v3⟩:=nI h1 hop ho hgf hga hc hb;rw[if_pos (by simp[Region.wanted,hg])];refine tG v1 ?_;refine (hR w I (kC A d (some (h0.B,h0.c))) vals h1.osim v2 v3).mono ?_;rintro e' w' ⟨v,I',O',r,rfl,k1,k2,k3,k4,k5,k6⟩;obtain ⟨m,l',rfl,hl',hO'd,hK'⟩:=hK O' r k6;have hcal:=h1.called k1 k2 k3 k4;have hrel:bP w' I' (kC A d (some (h0.B,h0.c))) (.own d m) v:=k5;obtain ⟨b',hb',rfl⟩: ∃b',mU h0.B b'∧v=.slice b' m h0.c:=by
  cases hrel with
  |own _ _ _ B c b hA hb=>
   rw[dJ] at hA;simp only[bX,cF] at hA;obtain ⟨rfl,rfl⟩:=hA;exact ⟨b,hb,rfl⟩
 have hput:=hcal.put (d:=dd) (v:=.any) (x:=.slice b' m h0.c) hdd (.any _ _) trivial;have hf2:pB w0 I0 (cG A0) G0 (s1++s2) w' I' (kC A d (some (h0.B,h0.c))):=h2.ext h1.osim k4;have hd2:d<100000:=eE hd hs.bound;rw[hdst];have htm:(a.put (some dd) (.slice b' m h0.c)).tmps.getD d undef=.slice h0.b l'.length h0.c:=by
  rw[hl',← hx0];show (a.tmps.setIfInBounds dd (.slice b' m h0.c)).getD d undef=_;simp[oB,aBx,hne]
 obtain ⟨g1,g2⟩:=hput.giveH (h0:=h0) (d:=d) (e:=e) (z:=z) (l:=l') hf2 hd (by rw[aK,if_neg (fC hne)];exact hO'd) (fun g c hA=>hf2.mine hput.osim hd2 g c hA) (dJ _ _ _) htm hbase;rw[hl'] at g1;have hdt:(a.put (some dd) (.slice b' m h0.c)).tmps.getD dd undef=.slice b' m h0.c:=by
  show (a.tmps.setIfInBounds dd (.slice b' m h0.c)).getD dd undef=_;have:dd<a.tmps.size:=by rw[hs.size];exact hdd
  simp[oB,aBx,this]
 have g3:dB nt w' I' (kC (kC A d (some (h0.B,h0.c))) d none) (set (set (d4 d (set O' dd .any)) d (h0.sl l.length)) dd ((⟨h0.B,b',h0.c⟩:Hd).sl m)) (a.put (some dd) (.slice b' m h0.c)):=by
  refine ⟨⟨fun s=>?_,g1.osim.inj,g1.osim.sep,g1.osim.imm⟩,g1.size,g1.bound,fun i hi=>?_,fun s hs'=>?_⟩
  ·rw[aK];split
   ·trivial
   exact g1.osim.own s
  ·rw[aK];split
   ·rename_i h;subst h;rw[hdt];exact .ofRel (.v _ _)
   exact g1.slot i hi
  rw[aK,if_neg (by have:=hs.bound;omega)];exact g1.out s hs'
 exact hn I' _ _ w' _ _ g3 (by rw[gT];exact hdf) (g2.cut (h':=⟨h0.B,b',h0.c⟩) m rfl rfl hb') (hK' ⟨h0.B,b',h0.c⟩)
end
end Go.Sg
