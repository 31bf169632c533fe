/- Several texts as one. -/
import Derived.Test.YtdgbckchckaagaaGreatDoorP9
import Derived.Lib.AppendZeros
import Derived.LoopNIn
import Derived.Orders
import Derived.RangeFuncRecord
set_option linter.unusedSectionVars false
set_option linter.unusedVariables false
set_option linter.unusedSimpArgs false
namespace Go.Rv
open Go.RowKit Go.Sg
noncomputable section
def aHm:RV→Option (List RV)
 | .und=>none
 | .nov=>none
 | .tup _=>none
 | .agg cs=>some cs
 |v=>some [v]
def CR (E:dX) (cs:List RV) (us:Array Value):Prop:=
 cs.length=us.size∧(∀u∈us.toList,u.oneCell'=true)∧ ∀(j:Nat) (d:RV) (u:Value),cs[j]?=some d→us[j]?=some u→Rr E d u
theorem CR.mono {E E':dX} (hE: ∀b p,E b=some p→E' b=some p) {cs:List RV} {us:Array Value} (h:CR E cs us):CR E' cs us:=⟨h.1,h.2.1,fun j d u hd hu=>(h.2.2 j d u hd hu).mono hE⟩
theorem CR.one {E:dX} {v:RV} {x:Value} (hr:Rr E v x) (h1:x.cells= #[x]) (h2:x.oneCell'=true):CR E [v] x.cells:=by
 rw[h1];refine ⟨rfl,fun u hu=>?_,fun j d u hd hu=>?_⟩
 ·simp at hu;subst hu;exact h2
 cases j with
 |succ j=>simp at hd
 |zero=>simp at hd hu;subst hd;subst hu;exact hr
theorem xD {E:dX} {v:RV} {x:Value} {cs:List RV} (h:aHm v=some cs) (hr:Rr E v x):CR E cs x.cells:=by
 have hr0:=hr;cases hr with
 |agg cs' vs hl hone hrel=>
  cases h;exact ⟨hl,hone,hrel⟩
 |und x=>cases h
 |nov=>cases h
 |tup cs' vs hl hrel=>cases h
 |_=>cases h;exact CR.one hr0 rfl rfl
theorem aMf (E:dX) {zs:List Value} {us:Array Value} (h:us.toList=zs) (h1: ∀u∈zs,u.oneCell'=true):CR E (zs.map cv1) us:=by
 refine ⟨by simp[← h],by rw[h];exact h1,fun j d u hd hu=>?_⟩;rw[cDj,cBa] at hd;obtain ⟨y,hy,rfl⟩:=hd;rw[← h,cAg,hu] at hy;cases hy;exact wF E _
def aBu (off:Nat) (cs old:List RV):List RV:=
 match cs with
 | [c]=>old.set off c
 |cs=>old.take off++cs++old.drop (off+cs.length)
theorem aTb {off:Nat} {cs old:List RV} (h:off+cs.length≤old.length):aBu off cs old=old.take off++cs++old.drop (off+cs.length):=by
 unfold aBu;split
 ·rw[List.set_eq_take_append_cons_drop,if_pos (by simp at h;omega)];simp
 rfl
theorem aDm {off:Nat} {cs old:List RV} (h:off+cs.length≤old.length):(aBu off cs old).length=old.length:=by
 rw[aTb h];simp;omega
theorem aKc {off:Nat} {cs old:List RV} (h:off+cs.length≤old.length) (j:Nat):(aBu off cs old)[j]?=if off≤j∧j<off+cs.length then cs[j-off]? else old[j]?:=by
 rw[aTb h,cFe,bZq,bZq];simp only[cCw,cBx (show off≤old.length by omega)];by_cases h1:j<off
 ·rw[if_pos h1,if_neg aN,cEl,if_pos h1]
 rw[if_neg h1];by_cases h2:j<off+cs.length
 ·rw[if_pos aN,if_pos aN]
 rw[if_neg aN,if_neg aN,cCg];congr 1;omega
def xL (off:Nat) (vs us:Array Value):Array Value:=(us.toList.take off++vs.toList++us.toList.drop (off+vs.size)).toArray
theorem bDh {off:Nat} {vs us:Array Value} (h:off+vs.size≤us.size) (j:Nat):(xL off vs us)[j]?=if off≤j∧j<off+vs.size then vs[j-off]? else us[j]?:=by
 unfold xL;rw[cEu,cFe,bZq,bZq];simp only[cCw,cCy,cBx (show off≤us.size by omega)];by_cases h1:j<off
 ·rw[if_pos h1,if_neg aN,cEl,if_pos h1,cAg]
 rw[if_neg h1];by_cases h2:j<off+vs.size
 ·rw[if_pos aN,if_pos aN,cAg]
 rw[if_neg aN,if_neg aN,cCg,cAg];congr 1;omega
theorem xM {off:Nat} {vs us:Array Value} (h:off+vs.size≤us.size):(xL off vs us).size=us.size:=by
 unfold xL;simp;omega
def CR' (E:dX) (cs:List RV) (us:Array Value):Prop:=
 cs.length≤us.size∧ ∀(j:Nat) (d:RV) (u:Value),cs[j]?=some d→us[j]?=some u→u.oneCell'=true∧Rr E d u
theorem CR.spl {E:dX} {off:Nat} {cs old:List RV} {vs us:Array Value} (hc:CR E cs vs) (ho:CR' E old us) (h:off+cs.length≤old.length):CR' E (aBu off cs old) (xL off vs us):=by
 obtain ⟨c1,c2,c3⟩:=hc;obtain ⟨o1,o3⟩:=ho;have hle:off+vs.size≤us.size:=by omega
 refine ⟨by rw[aDm h,xM hle];exact o1,fun j d u hd hu=>?_⟩;rw[aKc h,c1] at hd;rw[bDh hle] at hu;split at hd
 ·rename_i hj;rw[if_pos hj] at hu;exact ⟨c2 u (by simpa using cBu hu),c3 _ d u hd hu⟩
 rename_i hj;rw[if_neg hj] at hu;exact o3 _ d u hd hu
theorem CR'.mono {E E':dX} (hE: ∀b p,E b=some p→E' b=some p) {cs:List RV} {us:Array Value} (h:CR' E cs us):CR' E' cs us:=⟨h.1,fun j d u hd hu=>⟨(h.2 j d u hd hu).1,(h.2 j d u hd hu).2.mono hE⟩⟩
def yQ (place:Nat→Option (Nat×Nat)) (cs:List RV):List (Nat×RV)→Option (List RV)
 | []=>some cs
 |p::l=>match place p.1,aHm p.2 with
  |some (off,s),some vs=>bif decide (vs.length=s)&&decide (off+s≤cs.length) then yQ place (aBu off vs cs) l else none
  |_,_=>none
theorem qZ {E:dX} (place place':Nat→Option (Nat×Nat)) (hp: ∀i p,place i=some p→place' i=some p): ∀(l:List (Nat×RV)) (lv:List (Nat×Value)) (cs:List RV) (us:Array Value) (out:List RV),yQ place cs l=some out→l.length=lv.length→
  (∀(j:Nat) (p:Nat×RV) (q:Nat×Value),l[j]?=some p→lv[j]?=some q→p.1=q.1∧Rr E p.2 q.2)→CR E cs us→ ∃o,Instr.fill place' us lv=some o∧CR E out o
 | [],[],cs,us,out,h,_,_,hc=>⟨us,rfl,by cases h;exact hc⟩
 |p::l,q::lv,cs,us,out,h,hl,hr,hc=>by
  unfold yQ at h;split at h<;>try cases h
  rename_i off s vs e1 e2;obtain ⟨h1,h2⟩:=bY h;simp only[bZi,cFp] at h1;obtain ⟨h3,h4⟩:=hr 0 p q b7 b7;have hv:=xD e2 h4;obtain ⟨f1,f2⟩:=wQ off q.2.cells.toList us 0 (by have:=hv.1;have:=hc.1;simp;omega);simp only[cAh,cCy] at f1 f2;have hzip:(q.2.cells.zipIdx.foldl (fun cs (p:Value×Nat)=>cs.setIfInBounds (off+p.2) p.1) us)=(q.2.cells.toList.zipIdx 0).foldl (fun cs (p:Value×Nat)=>cs.setIfInBounds (off+p.2) p.1) us:=by
   rw[← cFn,Array.toList_zipIdx]
  generalize hnew:(q.2.cells.toList.zipIdx 0).foldl (fun cs (p:Value×Nat)=>cs.setIfInBounds (off+p.2) p.1) us=us' at*;have hle:off+vs.length≤cs.length:=by omega
  have hc':CR E (aBu off vs cs) us':=by
   refine ⟨by rw[aDm hle,f1];exact hc.1,fun u hu=>?_,fun j d u hd hu=>?_⟩
   ·obtain ⟨j,hj⟩:=cAe hu;rw[cAg,f2] at hj;split at hj
    ·exact hv.2.1 u (cDb hj)
    exact hc.2.1 u (by simpa using cBu hj)
   rw[aKc hle,hv.1] at hd;rw[f2] at hu;split at hd
   ·rename_i hj;rw[if_pos hj,cAg] at hu;exact hv.2.2 _ d u hd hu
   rename_i hj;rw[if_neg hj] at hu;exact hc.2.2 _ d u hd hu
  obtain ⟨o,o1,o2⟩:=qZ place place' hp l lv _ us' out h2 (by simpa using hl) (fun j p' q' hp' hq'=>hr (j+1) p' q' (by simpa using hp') (by simpa using hq')) hc';refine ⟨o,?_,o2⟩;unfold Instr.fill;rw[← h3,hp _ _ e1];simp only;rw[if_neg (by have:=hv.1;have:=hc.1;simp;omega),hzip];exact o1
 | [],_::_,_,_,_,_,hl,_,_=>by simp at hl
 |_::_,[],_,_,_,_,hl,_,_=>by simp at hl
def m6 (c:Nat) (zs:List RV):List RV:=(List.replicate c zs).flatten
theorem aDg (c:Nat) (zs:List RV):(m6 c zs).length=c*zs.length:=by unfold m6;simp
theorem aAm: ∀(c:Nat) (zs:List RV) (j:Nat),j<c*zs.length→(m6 c zs)[j]?=zs[j%zs.length]?
 |0,zs,j,h=>by simp at h
 |c+1,zs,j,h=>by
  unfold m6;rw[List.replicate_succ,List.flatten_cons,bZq];split
  ·rename_i h1;rw[cCd h1]
  rename_i h1;have h':j<c*zs.length+zs.length:=by rw[← cBb];exact h
  have:=aAm c zs (j-zs.length) aN;unfold m6 at this;rw[this];congr 1;exact (Nat.mod_eq_sub_mod aN).symm
theorem x7 (E:dX) {zc:Array Value} (h1: ∀u∈zc.toList,u.oneCell'=true) (c:Nat):CR E (m6 c (zc.toList.map cv1)) ((Array.range (c*zc.size)).map (zc[· %zc.size]!)):=by
 have hidx: ∀j,j<c*zc.size→j%zc.size<zc.size:=fun j hj=>Nat.mod_lt _ (by
  rcases bZl zc.size with h|h
  ·rw[h] at hj;simp at hj
  exact h)
 refine ⟨by rw[aDg];simp,fun u hu=>?_,fun j d u hd hu=>?_⟩
 ·simp only[Array.toList_map,cAy] at hu;obtain ⟨j,hj,rfl⟩:=hu;have hj:j<c*zc.size:=by simpa using hj
  rw[cFw zc _ (hidx j hj)];exact h1 _ b7
 simp only[cDv,cBa] at hu;obtain ⟨q,hq,rfl⟩:=hu;have hj:j<c*zc.size:=by
  rcases cBd j (c*zc.size) with h|h
  ·exact h
  rw[cDy (by simpa using h)] at hq;cases hq
 rw[Array.getElem?_range,if_pos hj] at hq;cases hq;rw[aAm _ _ _ (by simpa using hj)] at hd;rw[cFw zc _ (hidx j hj)];rw[cDj,cBa] at hd;obtain ⟨y,hy,rfl⟩:=hd;simp only[cAr,cCy,cAg] at hy;rw[cAt (hidx j hj)] at hy;cases hy;exact wF E _
def bNv (h:Hp) (z:Nat) (x:RV):Option (Nat×List RV):=
 match x with
 | .nils=>some (0,[])
 | .em=>some (0,[])
 | .sl b off len _ _ _=>match h b with
  |some (.cells _ cs)=>bif decide (off+len*z≤cs.length) then some (len,(cs.drop off).take (len*z)) else none
  |_=>none
 |_=>none
abbrev Mv:=Option RV×Tr dS×Nat
def aEq (P:Program) (lo:Nat) (h:Tr dS) (n:Nat) (t t2:TypeId) (x y:RV):Option Mv:=
 match pT P t with
 |none=>none
 |some (e,z,by_)=>match eE P e with
  |none=>none
  |some zs=>bif decide (zs.length=z)&&decide (0<z)&&decide (n<ub) then
   (match x,y with
   | .nils,.int _ k=>bif decide (tk P t2=4)&&decide (0<k)&&decide (k≤4611686018427387904)&&decide (k.toNat*by_≤140737488355328) then
     some (some (.sl n 0 k.toNat z none true),h.set n (some (.cells e (m6 k.toNat (zs.map cv1)))),n+1) else none
   |x,y=>bif decide (t2=t) then (match bNv h.get z y with
    |none=>none
    |some (0,_)=>(match x with
     | .nils=>some (some .nils,h,n)
     | .sl b off len z' cap full=>some (some (.sl b off len z' cap full),h,n)
     |_=>none)
    |some (m+1,news)=>(match x with
     | .nils=>bif decide (m+1≤4611686018427387904)&&decide ((m+1)*by_≤140737488355328) then
       some (some (.sl n 0 (m+1) z none true),h.set n (some (.cells e news)),n+1) else none
     | .sl b off len z' cap full=>(match h.get b with
      |some (.cells e' cs)=>bif decide (e'=e)&&decide (z'=z)&&decide (len+(m+1)≤4611686018427387904)&&decide ((len+(m+1))*by_≤140737488355328)&&decide (off+len*z≤cs.length) then
        (match cap with
        |some c=>bif decide (len+(m+1)≤c) then
          (bif decide (lo≤b)&&decide (b<n)&&decide (off+(len+(m+1))*z≤cs.length) then some (some (.sl b off (len+(m+1)) z (some c) full),h.set b (some (.cells e (aBu (off+len*z) news cs))),n) else none)
         else some (some (.sl n 0 (len+(m+1)) z none true),h.set n (some (.cells e ((cs.drop off).take (len*z)++news))),n+1)
        |none=>bif full&&decide (off=0)&&decide (lo≤b)&&decide (b<n) then
          some (some (.sl n 0 (len+(m+1)) z none true),(h.set b none).set n (some (.cells e (cs.take (len*z)++news))),n+1) else none) else none
      |_=>none)
     |_=>none)) else none) else none
def bJz (P:Program) (ty:TypeId):Option RV→Bool
 |none=>true
 |some (.int _ _)=>(match P.underlying ty with
  |some (.map _ _)=>true
  |_=>false)
 |some _=>false
def aUh (P:Program) (lo:Nat) (h:Tr dS) (n:Nat) (ty:TypeId) (m k x:RV):Option Mv:=
 match P.underlying ty,m,bCs k with
 |some (.map kt _),.mp b,some kv=>(match h.get b with
  |some (.map es c)=>bif decide (lo≤b)&&decide (b<n)&&decide (b<ub) then (match aKk P kt kv es with
   |some none=>some (none,h.set b (some (.map (es++[(kv,x,c)]) (c+1))),n)
   |some (some (j,_,c0))=>some (none,h.set b (some (.map (es.set j (kv,x,c0)) c)),n)
   |none=>none) else none
  |_=>none)
 |_,_,_=>none
def bDp (P:Program) (lo:Nat) (h:Tr dS) (n:Nat) (ty:TypeId) (m k:RV):Option Mv:=
 match P.underlying ty,m,bCs k with
 |some (.map kt _),.mp b,some kv=>(match h.get b with
  |some (.map es c)=>bif decide (lo≤b)&&decide (b<n)&&decide (b<ub) then (match aKk P kt kv es with
   |some none=>some (some (.tup []),h.set b (some (.map es c)),n)
   |some (some (j,_,_))=>some (some (.tup []),h.set b (some (.map (es.eraseIdx j) c)),n)
   |none=>none) else none
  |_=>none)
 |_,_,_=>none
def tU (P:Program) (lo:Nat) (t:Tr RV) (h:Tr dS) (n:Nat) (op:Op):Option Mv:=
 match op with
 | .range ty x=>(match eN t x with
  | .str s=>bif (tk P ty==1)&&decide (n<ub) then some (some (.ptr n 0),h.set n (some (.it s 0)),n+1) else none
  |_=>none)
 | .next x true=>(match eN t x with
  | .ptr b 0=>(match h.get b with
   |some (.it s pos)=>bif decide (lo≤b)&&decide (b<n)&&decide (b<ub) then
     (bif decide (pos<s.size) then some (some (.tup [.bool true,.int .i64 pos,.int .i32 (Utf8.decode s pos).1]),h.set b (some (.it s (pos+(Utf8.decode s pos).2))),n)
      else some (some (.tup [.bool false]),h,n)) else none
   |_=>none)
  |_=>none)
 | .makeMap ty hint=>bif bJz P ty (hint.map (eN t))&&decide (n<ub) then some (some (.mp n),h.set n (some (.map [] 0)),n+1) else none
 | .mapUpdate ty m k x=>aUh P lo h n ty (eN t m) (eN t k) (eN t x)
 | .insert ty m k x=>aUh P lo h n ty (eN t m) (eN t k) (eN t x)
 | .call ⟨.builtin .delete,args,ts⟩=>(match args.toList,ts.toList with
  | [m,k],t1::_=>bDp P lo h n t1 (eN t m) (eN t k)
  |_,_=>none)
 | .alloc ty=>(match eE P ty with
  |some zs=>bif decide (n<ub) then some (some (.ptr n 0),h.set n (some (.cells ty (zs.map cv1))),n+1) else none
  |none=>none)
 | .box ty x=>(match aHm (eN t x) with
  |some cs=>bif decide (n<ub) then some (some (.ptr n 0),h.set n (some (.cells ty cs)),n+1) else none
  |none=>none)
 | .build ty parts=>(match eE P ty with
  |some zs=>bif mD P ty then (yQ (fV P ty) (zs.map cv1) (parts.toList.map fun p=>(p.1,eN t p.2))).map fun cs=>(some (.agg cs),h,n)
   else (match d4 P ty with
   |some (some _,z)=>(yQ (fun i=>some (i*z,z)) (zs.map cv1) (parts.toList.map fun p=>(p.1,eN t p.2))).map fun cs=>(some (.agg cs),h,n)
   |_=>none)
  |none=>none)
 | .buildSlice ty k parts=>(match pT P ty with
  |some (e,z,_)=>(match eE P e with
   |some zs=>bif decide (zs.length=z)&&decide (k*z≤16777216)&&decide (k≤16777216)&&decide (n<ub) then
     (yQ (fun i=>some (i*z,z)) (m6 k (zs.map cv1)) (parts.toList.map fun p=>(p.1,eN t p.2))).map fun cs=>(some (.sl n 0 k z (some k) true),h.set n (some (.cells e cs)),n+1) else none
   |none=>none)
  |none=>none)
 | .makeSlice ty x y=>(match pT P ty,eN t x,eN t y with
  |some (e,z,by_),.int _ l,.int _ c=>(match eE P e with
   |some zs=>bif decide (zs.length=z)&&decide (0≤l)&&decide (l≤c)&&decide (c≤4611686018427387904)&&decide (c*by_≤140737488355328)&&decide (n<ub) then
     some (some (.sl n 0 l.toNat z (some c.toNat) true),h.set n (some (.cells e (m6 c.toNat (zs.map cv1)))),n+1) else none
   |none=>none)
  |_,_,_=>none)
 | .store ty ad x=>(match gQ P ty,eN t ad,aHm (eN t x) with
  |some s,.ptr b off,some vs=>(match h.get b with
   |some (.cells e cs)=>bif decide (vs.length=s)&&decide (off+s≤cs.length)&&decide (lo≤b)&&decide (b<n)&&decide (b<ub) then some (none,h.set b (some (.cells e (aBu off vs cs))),n) else none
   |_=>none)
  |_,_,_=>none)
 | .call ⟨.builtin .append,args,ts⟩=>(match args.toList,ts.toList with
  | [x,y],[t1,t2]=>aEq P lo h n t1 t2 (eN t x) (eN t y)
  |_,_=>none)
 |_=>none
structure KH (lo:Nat) (h h':Tr dS) (n n':Nat):Prop where
 nn:n≤n'
 kp: ∀b,b<lo∨n'≤b→h'.get b=h.get b
theorem KH.refl (lo:Nat) (h:Tr dS) (n:Nat):KH lo h h n n:=⟨cCq _,fun _ _=>rfl⟩
theorem KH.trans {lo:Nat} {h h1 h2:Tr dS} {n n1 n2:Nat} (x:KH lo h h1 n n1) (y:KH lo h1 h2 n1 n2):KH lo h h2 n n2:=⟨cBc x.nn y.nn,fun b hb=>(y.kp b hb).trans (x.kp b (hb.imp id fun q=>cBc y.nn q))⟩
theorem KH.new {lo:Nat} {h:Tr dS} {n:Nat} (hlo:lo≤n) (hub:n<ub) (k:Option dS):KH lo h (h.set n k) n (n+1):=⟨by omega,fun b hb=>by rw[Tr.get_set hub,if_neg aN]⟩
theorem KH.turn {lo:Nat} {h:Tr dS} {n b:Nat} (hlo:lo≤b) (hb:b<n) (hub:b<ub) (k:Option dS):KH lo h (h.set b k) n n:=⟨cCq _,fun c hc=>by rw[Tr.get_set hub,if_neg aN]⟩
def MOk (P:Program) (lo:Nat) (t:Tr RV) (h:Tr dS) (n:Nat) (o:Oper) (r:Mv):Prop:=
 KH lo h r.2.1 n r.2.2∧ ∀(m:Nat) (E:dX) (a:Act) (w:World),r.2.2≤m→mY E t a o→HS E h.get n m w→ ∃E' w',HS E' r.2.1.get r.2.2 m w'∧RX lo E h.get n w E' r.2.1.get r.2.2 w'∧
  (match r.1 with
  |some v=> ∃y,(execOp a.eval o).run P w=.ok (.value y) w'∧Rr E' v y
  |none=>(execOp a.eval o).run P w=.ok .skip w')
section
variable {P:Program} {lo:Nat} {t:Tr RV} {h:Tr dS} {n:Nat} {o:Oper} {r:Mv}
theorem CR.br {E:dX} {w:World} {e:TypeId} {cs:List RV} {us:Array Value} {g:Nat} (hc:CR' E cs us) (hg:w.heap[g]?=some (.cells us e (0,0))):BR E w (.cells e cs) g us.size:=⟨us,hg,rfl,hc.1,hc.2⟩
theorem CR.toCR' {E:dX} {cs:List RV} {us:Array Value} (h:CR E cs us):CR' E cs us:=⟨Nat.le_of_eq h.1,fun j d u hd hu=>⟨h.2.1 u (by simpa using cBu hu),h.2.2 j d u hd hu⟩⟩
theorem tO {E:dX} {m:Nat} {w:World} (hs:HS E h.get n m w) (hm:n+1≤m) (hlo:lo≤n) (hub:n<ub) (e:TypeId) {cs:List RV} {us:Array Value} {w':World} (h1:w'.heap=w.heap.push (.cells us e)) (h2:w'.os=w.os) (h3:w'.tape=w.tape∧w.drawn≤w'.drawn) (h4:w'.output=w.output)
  (hc:CR' (oW E n (some (w.heap.size,us.size))) cs us):
  HS (oW E n (some (w.heap.size,us.size))) (h.set n (some (.cells e cs))).get (n+1) m w'∧RX lo E h.get n w (oW E n (some (w.heap.size,us.size))) (h.set n (some (.cells e cs))).get (n+1) w':=by
 rw[d2 hub];obtain ⟨q1,q2,q3⟩:=hs.new (lo:=lo) aN hlo h1 h2 h3 h4 (k:=.cells e cs) (s:=us.size) (CR.br hc (by rw[h1];simp));exact ⟨q1,q2⟩
theorem bAg {ty:TypeId} (hop:o.op=.alloc ty) (hlo:lo≤n) (hr:tU P lo t h n o.op=some r):MOk P lo t h n o r:=by
 rw[hop] at hr;simp only[tU] at hr;split at hr<;>try cases hr
 rename_i zs hz;obtain ⟨hub,rfl⟩:=bV hr;have hub:=cFq hub;refine ⟨KH.new hlo hub _,fun m E a w hm hs hh=>?_⟩;obtain ⟨i,z,h1,h2,h3,h4⟩:=eR hz;obtain ⟨q1,q2⟩:=tO (us:=z.cells) (cs:=zs.map cv1) hh hm hlo hub ty (w':=w.alloc (.cells z.cells ty)) rfl rfl ⟨rfl,cCq _⟩ rfl (aMf _ h3 h4).toCR';exact ⟨_,_,q1,q2,.pointer (some ⟨w.heap.size,0,none⟩),by simp[execOp,hop,Instr.alloc,zeroValue,typeInfo,h1,h2,newVar,newRow],.ptr n 0 w.heap.size _ (dB _ _ _)⟩
theorem pH {E:dX} {m:Nat} {w:World} (hh:HS E h.get n m w) (hm:n<m) (p:Option (Nat×Nat)): ∀b q,E b=some q→oW E n p b=some q:=fun b q hq=>by
 rw[eY];exact hq;intro e;subst e;rw[hh.free b (cCq _) hm] at hq;cases hq
theorem bNm {ty:TypeId} {x:Operand} (hop:o.op=.box ty x) (hlo:lo≤n) (hr:tU P lo t h n o.op=some r):MOk P lo t h n o r:=by
 rw[hop] at hr;simp only[tU] at hr;split at hr<;>try cases hr
 rename_i cs hc;obtain ⟨hub,rfl⟩:=bV hr;have hub:=cFq hub;refine ⟨KH.new hlo hub _,fun m E a w hm hs hh=>?_⟩;have hm:n+1≤m:=hm;have hx:=hs x (by simp[hop,Op.operands]);obtain ⟨q1,q2⟩:=tO (us:=(a.eval x).cells) (cs:=cs) hh hm hlo hub ty (w':=w.alloc (.cells (a.eval x).cells ty)) rfl rfl ⟨rfl,cCq _⟩ rfl ((xD hc hx).mono (pH hh aN _)).toCR';exact ⟨_,_,q1,q2,.pointer (some ⟨w.heap.size,0,none⟩),by simp[execOp,hop,Instr.box,newVar,newRow],.ptr n 0 w.heap.size _ (dB _ _ _)⟩
theorem rU {E:dX} {a:Act} {parts:Array (Nat×Operand)} (ho: ∀p∈parts.toList,Rr E (eN t p.2) (a.eval p.2)): ∀(j:Nat) (p:Nat×RV) (q:Nat×Value),(parts.toList.map fun p=>(p.1,eN t p.2))[j]?=some p→(parts.toList.map fun p=>(p.1,a.eval p.2))[j]?=some q→p.1=q.1∧Rr E p.2 q.2:=fun j p q hp hq=>by
 simp only[cDj,cBa] at hp hq;obtain ⟨x,hx,rfl⟩:=hp;obtain ⟨y,hy,rfl⟩:=hq;rw[hx] at hy;cases hy;exact ⟨rfl,ho x (cDb hx)⟩
theorem bBl {ty:TypeId} {parts:Array (Nat×Operand)} (hop:o.op=.build ty parts) (hr:tU P lo t h n o.op=some r):MOk P lo t h n o r:=by
 rw[hop] at hr;simp only[tU] at hr;split at hr<;>try cases hr
 rename_i zs hz;cases hb:mD P ty with
 |false=>
  rw[hb] at hr;simp only[cDq] at hr;split at hr<;>try cases hr
  rename_i k z hel;rw[cBa] at hr;obtain ⟨cs,hcs,rfl⟩:=hr;refine ⟨KH.refl _ _ _,fun m E a w hm hs hh=>⟨E,w,hh,RX.refl _ _ _ _ _,?_⟩⟩;have ho: ∀p∈parts.toList,Rr E (eN t p.2) (a.eval p.2):=fun p hp=>hs p.2 (by
   simp only[hop,Op.operands];simp;exact ⟨p.1,by simpa using hp⟩)
  obtain ⟨i,zv,hi,hzv,hzc,hone⟩:=eR hz;obtain ⟨out,o1,o2⟩:=qZ (E:=E) (fun i=>some (i*z,z)) (fun i=>some (i*z,z)) (fun _ _ h=>h) _ (parts.toList.map fun p=>(p.1,a.eval p.2)) _ zv.cells cs hcs b7 (rU ho) (aMf E hzc hone);refine ⟨.agg out,?_,.agg _ _ o2.1 o2.2.1 o2.2.2⟩;have hm:(parts.map fun (i,x)=>(i,a.eval x)).toList=parts.toList.map fun p=>(p.1,a.eval p.2):=by simp
  unfold d4 at hel;split at hel<;>simp at hel;rename_i m' e' hu;obtain ⟨i2,hi2,_,hz2⟩:=hel;unfold execOp;simp only[hop];unfold Instr.build;simp[zeroValue,run_typeInfo w hi,hzv,run_underlying hu,run_sizeOf w hi2,Program.cellsOf,hi2,hz2,hm,o1]
 |true=>
 rw[hb] at hr;simp only[bZn] at hr;rw[cBa] at hr;obtain ⟨cs,hcs,rfl⟩:=hr;refine ⟨KH.refl _ _ _,fun m E a w hm hs hh=>⟨E,w,hh,RX.refl _ _ _ _ _,?_⟩⟩;have ho: ∀p∈parts.toList,Rr E (eN t p.2) (a.eval p.2):=fun p hp=>hs p.2 (by
  simp only[hop,Op.operands];simp;exact ⟨p.1,by simpa using hp⟩)
 obtain ⟨i,zv,hi,hzv,hzc,hone⟩:=eR hz;have h1':=hb;unfold mD at h1';split at h1'
 ·rename_i fs hu;rw[cCk] at h1'
  let places:Array (Nat×Nat):=fs.map fun f=>(f.offset,P.cellsOf f.type)
  have hpl: ∀k p,fV P ty k=some p→places[k]?=some p:=fun k p hk=>by
   unfold fV at hk;rw[hu] at hk;simp only at hk;split at hk<;>try cases hk
   rename_i f hf;split at hk<;>try cases hk
   rename_i x hx;simp only[places,cDv,hf,cBj,Program.cellsOf,hx,bZy]
  have hrunp:(fs.mapM fun f=>(do pure (f.offset,← sizeOf f.type):Sem (Nat×Nat))).run P w=.ok places w:=by
   have:=tI (P:=P) (w:=w) (fun f:Field=>(do pure (f.offset,← sizeOf f.type):Sem (Nat×Nat))) fs.toList places.toList (by simp[places]) (fun j f v hf hv=>by
    have hf':f∈fs.toList:=cDb hf;obtain ⟨x,hx⟩:=cAu.1 (h1' f hf');have:v=(f.offset,P.cellsOf f.type):=by
     simp only[places,Array.toList_map,cDj,hf,cBj,cAx] at hv;exact hv.symm
    subst this;simp[run_sizeOf w hx,Program.cellsOf,hx])
   have e:fs=fs.toList.toArray:=by simp
   rw[e,cAp,Sem.run_map,this];show Result.ok places.toList.toArray w=Result.ok places w;rw[Array.toArray_toList]
  obtain ⟨out,o1,o2⟩:=qZ (E:=E) (fV P ty) (fun k=>places[k]?) hpl _ (parts.toList.map fun p=>(p.1,a.eval p.2)) _ zv.cells cs hcs b7 (rU ho) (aMf E hzc hone);refine ⟨.agg out,?_,.agg _ _ o2.1 o2.2.1 o2.2.2⟩;have hm:(parts.map fun (i,x)=>(i,a.eval x)).toList=parts.toList.map fun p=>(p.1,a.eval p.2):=by simp
  have e2:(fun f:Field=>(do pure (f.offset,← sizeOf f.type):Sem (Nat×Nat)))=fun f=>Functor.map (Prod.mk f.offset) (sizeOf f.type):=by funext f;simp
  rw[e2] at hrunp;unfold execOp;simp only[hop];unfold Instr.build;simp[zeroValue,run_typeInfo w hi,hzv,run_underlying hu,hrunp,hm,o1]
 ·rename_i k e hu;obtain ⟨x,hx⟩:=cAu.1 h1';have hpl: ∀j p,fV P ty j=some p→(fun i:Nat=>some (i*x.size,x.size)) j=some p:=fun j p hj=>by
   unfold fV at hj;rw[hu] at hj;simp only[hx] at hj;exact hj
  obtain ⟨out,o1,o2⟩:=qZ (E:=E) (fV P ty) (fun i=>some (i*x.size,x.size)) hpl _ (parts.toList.map fun p=>(p.1,a.eval p.2)) _ zv.cells cs hcs b7 (rU ho) (aMf E hzc hone);refine ⟨.agg out,?_,.agg _ _ o2.1 o2.2.1 o2.2.2⟩;have hm:(parts.map fun (i,x)=>(i,a.eval x)).toList=parts.toList.map fun p=>(p.1,a.eval p.2):=by simp
  unfold execOp;simp only[hop];unfold Instr.build;simp[zeroValue,run_typeInfo w hi,hzv,run_underlying hu,run_sizeOf w hx,Program.cellsOf,hx,hm,o1]
 cases h1'
theorem bOp {ty:TypeId} {k:Nat} {parts:Array (Nat×Operand)} (hop:o.op=.buildSlice ty k parts) (hlo:lo≤n) (hr:tU P lo t h n o.op=some r):MOk P lo t h n o r:=by
 rw[hop] at hr;simp only[tU] at hr;split at hr<;>try cases hr
 rename_i e z by_ hsl;split at hr<;>try cases hr
 rename_i zs hz;obtain ⟨hb,hr⟩:=bY hr;simp only[bZi,cFp] at hb;obtain ⟨⟨⟨hzl,h24⟩,hk24⟩,hub⟩:=hb;rw[cBa] at hr;obtain ⟨cs,hcs,rfl⟩:=hr;obtain ⟨hu,i,hi,rfl,rfl⟩:=gE hsl;obtain ⟨i',zv,hi',hzv,rfl,hone⟩:=eR hz;rw[hi] at hi';cases hi';have hzs:zv.cells.size=i.size:=by simpa using hzl
 refine ⟨KH.new hlo hub _,fun m E a w hm hs hh=>?_⟩;have hm:n+1≤m:=hm;have ho: ∀p∈parts.toList,Rr E (eN t p.2) (a.eval p.2):=fun p hp=>hs p.2 (by
  simp only[hop,Op.operands];simp;exact ⟨p.1,by simpa using hp⟩)
 obtain ⟨out,o1,o2⟩:=qZ (E:=E) (fun i'=>some (i'*i.size,i.size)) (fun i'=>some (i'*i.size,i.size)) (fun _ _ h=>h) _ (parts.toList.map fun p=>(p.1,a.eval p.2)) _ _ cs hcs b7 (rU ho) (x7 E hone k);have hlen:=hcs;have hosz:out.size=k*i.size:=by
  have: ∀(l:List (Nat×RV)) (c0 c1:List RV),yQ (fun i'=>some (i'*i.size,i.size)) c0 l=some c1→c1.length=c0.length:=fun l=>by
   induction l with
   |nil=>intro c0 c1 h;cases h;rfl
   |cons p l ih=>
    intro c0 c1 h;unfold yQ at h;split at h<;>try cases h
    rename_i off s vs e1 e2;obtain ⟨h1,h2⟩:=bY h;simp only[bZi,cFp] at h1;rw[ih _ _ h2,aDm aN]
  have:=this _ _ _ hcs;rw[aDg] at this;rw[← o2.1,this];simp[hzs]
 obtain ⟨q1,q2⟩:=tO (us:=out) (cs:=cs) hh hm hlo hub e (w':=w.alloc (.cells out e)) rfl rfl ⟨rfl,cCq _⟩ rfl (o2.mono (pH hh aN _)).toCR';refine ⟨_,_,q1,q2,.slice (some ⟨w.heap.size,0,none⟩) k k,?_,.sl n 0 k _ _ true w.heap.size out.size k (dB _ _ _) (cCq _) (by unfold maxLen;omega) aN (fun _=>by omega) (fun _ h=>by cases h;rfl)⟩;have hmap:(parts.map fun p=>(p.1,a.eval p.2)).toList=parts.toList.map fun p=>(p.1,a.eval p.2):=by simp
 have h24': ¬(k*i.size>2^24):=by
  have:(2:Nat)^24=16777216:=by decide
  omega
 have hzero:(if k*i.size=0 then #[] else zv.cells)=(if k*i.size=0 then #[] else zv.cells):=rfl;by_cases h0:k*i.size=0
 ·have e0:(Array.range (k*zv.cells.size)).map (zv.cells[· %zv.cells.size]!)= #[]:=by rw[hzs,h0];simp[Array.range_zero']
  rw[e0] at o1;simp only[execOp,hop,Instr.buildSlice,Sem.run_bind,run_underlying hu,Result.andThen_ok,run_sizeOf w hi,Program.cellsOf,hi,cBj,bZy,h24',cFv,h0,if_true,Sem.run_pure,Sem.run_ite];simp only[hmap,Array.range_zero'];simp[o1,newRow]
 rw[hzs] at o1;simp only[execOp,hop,Instr.buildSlice,Sem.run_bind,run_underlying hu,Result.andThen_ok,run_sizeOf w hi,Program.cellsOf,hi,cBj,bZy,h24',cFv,h0,zeroValue,run_typeInfo w hi,hzv,Sem.run_pure,Sem.run_ite];simp only[hmap,hzs];rw[o1];simp[newRow]
theorem bHa {ty:TypeId} {x y:Operand} (hop:o.op=.makeSlice ty x y) (hlo:lo≤n) (hr:tU P lo t h n o.op=some r):MOk P lo t h n o r:=by
 rw[hop] at hr;simp only[tU] at hr;split at hr<;>try cases hr
 rename_i e z by_ k l k' c hsl hx hy;split at hr<;>try cases hr
 rename_i zs hz;obtain ⟨hb,rfl⟩:=bV hr;simp only[bZi,cFp] at hb;obtain ⟨⟨⟨⟨⟨hzl,h0⟩,h1⟩,h2⟩,h3⟩,hub⟩:=hb;obtain ⟨hu,i,hi,rfl,rfl⟩:=gE hsl;obtain ⟨i',zv,hi',hzv,rfl,hone⟩:=eR hz;rw[hi] at hi';cases hi';refine ⟨KH.new hlo hub _,fun m E a w hm hs hh=>?_⟩;have hm:n+1≤m:=hm;have hxr:=hs x (by simp[hop,Op.operands]);have hyr:=hs y (by simp[hop,Op.operands]);rw[hx] at hxr;rw[hy] at hyr;have hxe:a.eval x=.int k l:=by
  generalize a.eval x=q at hxr ⊢;cases hxr;rfl
 have hye:a.eval y=.int k' c:=by
  generalize a.eval y=q at hyr ⊢;cases hyr;rfl
 have hwn:IntKind.i64.wrap l=l:=IntWalk.i64_in l ⟨by omega,by omega⟩;have hwc:IntKind.i64.wrap c=c:=IntWalk.i64_in c ⟨by omega,by omega⟩;have hzs:zv.cells.size=i.size:=by simpa using hzl
 obtain ⟨us,husd⟩: ∃us:Array Value,us=(Array.range (c.toNat*i.size)).map (zv.cells[· %zv.cells.size]!):=⟨_,rfl⟩;have hus:us.size=c.toNat*i.size:=by simp[husd]
 have hrun:(execOp a.eval o).run P w=.ok (.value (.slice (some ⟨w.heap.size,0,none⟩) l.toNat c.toNat)) (w.alloc (.cells us e)):=by
  simp only[execOp,hop,hxe,hye,Instr.makeSlice,asInt,asIntOf,Sem.run_bind,run_underlying hu,Result.andThen_ok,Sem.run_pure,run_typeInfo w hi,hwn,hwc,run_askRoom,run_sizeOf w hi,Program.cellsOf,hi,cBj,bZy];have hcond:(decide (c<0)||decide ((i.bytes:Int)*c>2^48)||decide (l<0)||decide (l>c))=false:=by
   have hc48:(i.bytes:Int)*c≤140737488355328:=by rw[Int.mul_comm];exact h3
   have e48:(2:Int)^48=281474976710656:=by decide
   simp only[cCb,cFu,e48];omega
  rw[hcond,if_neg b7];simp only[Sem.run_bind,run_askRoom,Result.andThen_ok,run_sizeOf w hi,Program.cellsOf,hi,cBj,bZy];by_cases hzero:c.toNat*i.size=0
  ·have he:us= #[]:=by
    apply cFo;rw[hus,hzero]
   rw[if_pos hzero,he];simp[newRow,hzero,Array.range_zero']
  rw[if_neg hzero];simp[zeroValue,run_typeInfo w hi,hzv,newRow,husd]
 have hcr:=x7 (oW E n (some (w.heap.size,us.size))) hone c.toNat;have hus2:(Array.range (c.toNat*zv.cells.size)).map (zv.cells[· %zv.cells.size]!)=us:=by rw[husd,hzs]
 rw[hus2] at hcr;obtain ⟨q1,q2⟩:=tO (us:=us) hh hm hlo hub e (w':=w.alloc (.cells us e)) rfl rfl ⟨rfl,cCq _⟩ rfl hcr.toCR';exact ⟨_,_,q1,q2,_,hrun,.sl n 0 l.toNat _ _ true w.heap.size us.size c.toNat (dB _ _ _) aN (by unfold maxLen;omega) aN (fun _=>by omega) (fun _ h=>by cases h;rfl)⟩
theorem aWh {ty:TypeId} {ad x:Operand} (hop:o.op=.store ty ad x) (hr:tU P lo t h n o.op=some r):MOk P lo t h n o r:=by
 rw[hop] at hr;simp only[tU] at hr;split at hr<;>try cases hr
 rename_i s b off vs hsz had hvs;split at hr<;>try cases hr
 rename_i e cs hb;obtain ⟨hc,rfl⟩:=bV hr;simp only[bZi,cFp] at hc;obtain ⟨⟨⟨⟨h1,h2⟩,h3⟩,h4⟩,h5⟩:=hc;refine ⟨KH.turn h3 h4 h5 _,fun m E a w hm hs hh=>?_⟩;have hxr:=hs x (by simp[hop,Op.operands]);have har:=hs ad (by simp[hop,Op.operands]);rw[had] at har;generalize hav:a.eval ad=av at har;cases har with
 |ptr _ _ g s' hE=>
  obtain ⟨g2,s2,hE2,us,hg,hus,hlen,hrel⟩:=hh.blk b _ hb;rw[hE] at hE2;cases hE2;have hcr:=xD hvs hxr;have hrun:=qG (P:=P) (w:=w) hsz (x:=a.eval x) (by rw[← hcr.1];exact h1) hg (o:=off) aN hcr.2.1;have e1:(us.toList.take off++(a.eval x).cells.toList++us.toList.drop (off+s)).toArray=xL off (a.eval x).cells us:=by unfold xL;rw[← hcr.1,h1]
  rw[e1] at hrun;have hsp:=hcr.spl (off:=off) (old:=cs) (us:=us) ⟨by omega,hrel⟩ aN;have hspsz:(xL off (a.eval x).cells us).size=us.size:=xM (by rw[← hcr.1];omega)
  obtain ⟨q1,q2⟩:=hh.turn (lo:=lo) (b:=b) (g:=g) (s:=s') h3 h4 (by rw[hb];simp) hE (w':=w.setRow g (xL off (a.eval x).cells us)) (by simp[World.setRow]) (fun g' hg'=>setRow_other w g g' _ hg') rfl ⟨rfl,cCq _⟩ rfl
   (k:=.cells e (aBu off vs cs)) ⟨_,setRow_heap w g us _ e _ hg,hspsz.trans hus,by have:=hsp.1;omega,hsp.2⟩
  rw[d2 h5];exact ⟨E,_,q1,q2,by simp only[execOp,hop,Sem.run_bind,hav,hrun,Result.andThen_ok,Sem.run_pure]⟩
theorem bPd {ty:TypeId} {hint:Option Operand} (hop:o.op=.makeMap ty hint) (hlo:lo≤n) (hr:tU P lo t h n o.op=some r):MOk P lo t h n o r:=by
 rw[hop] at hr;simp only[tU] at hr;obtain ⟨hc,rfl⟩:=bV hr;rw[bZi,cFp] at hc;obtain ⟨hmk,hub⟩:=hc;refine ⟨KH.new hlo hub _,fun m E a w hm hs hh=>?_⟩;have hm:n+1≤m:=hm;obtain ⟨q1,q2,q3⟩:=hh.new (lo:=lo) aN hlo (w':=w.alloc (.map #[] 0)) rfl rfl ⟨rfl,cCq _⟩ rfl (k:=.map [] 0) (s:=0) ⟨[],by rw[show (w.alloc (.map #[] 0)).heap=w.heap.push (.map #[] 0) from rfl];simp,rfl,fun j e m he=>by simp at he⟩;rw[d2 hub];refine ⟨_,_,q1,q2,.map (some w.heap.size),?_,.mp n w.heap.size 0 (dB _ _ _)⟩;cases hint with
 |none=>simp[execOp,hop,Instr.makeMap,newObj,Sem.run]
 |some x=>
  have hx:=hs x (by simp[hop,Op.operands]);simp only[cBj] at hmk;generalize eN t x=ex at hmk hx;cases ex with
  |int kk q=>
   generalize hq:a.eval x=qv at hx;cases hx;unfold bJz at hmk;simp only at hmk;split at hmk<;>try cases hmk
   rename_i hu;simp[execOp,hop,Instr.makeMap,hq,run_underlying hu,asInt,asIntOf,newObj,Sem.run]
  |_=>cases hmk
theorem uN {E:dX} {m:Nat} {w:World} (hh:HS E h.get n m w) {b g s c c':Nat} {es es':List (Value×RV×Nat)} {vs vs':List MapEntry} (hb:h.get b=some (.map es c)) (hE:E b=some (g,s)) (hg:w.heap[g]?=some (.map vs.toArray c))
  (h3:lo≤b) (h4:b<n) (h5:b<ub) (hr:ER E es' vs'):
  HS E (h.set b (some (.map es' c'))).get n m {w with heap:=w.heap.setIfInBounds g (.map vs'.toArray c')}∧RX lo E h.get n w E (h.set b (some (.map es' c'))).get n {w with heap:=w.heap.setIfInBounds g (.map vs'.toArray c')}:=by
 rw[d2 h5];have hs:=MapKept.heap_set (o':=.map vs'.toArray c') hg;exact hh.turn (lo:=lo) (b:=b) (g:=g) (s:=s) h3 h4 (by rw[hb];simp) hE (w':={w with heap:=w.heap.setIfInBounds g (.map vs'.toArray c')}) b7 (fun g' hg'=>hs.2 g' hg') rfl ⟨rfl,cCq _⟩ rfl (k:=.map es' c') ⟨vs',hs.1,hr.1,hr.2⟩
theorem ER.app {E:dX} {es:List (Value×RV×Nat)} {vs:List MapEntry} (h:ER E es vs) {e:Value×RV×Nat} {m:MapEntry} (h1:m.key=e.1) (h2:Rr E e.2.1 m.val) (h3:m.born=e.2.2):ER E (es++[e]) (vs++[m]):=by
 refine ⟨by simp[h.1],fun j a b ha hb=>?_⟩;rw[bZq] at ha hb;rw[h.1] at ha;split at ha
 ·rename_i hj;rw[if_pos hj] at hb;exact h.2 j a b ha hb
 rename_i hj;rw[if_neg hj] at hb;rcases hk:j-vs.length with _|q
 ·rw[hk] at ha hb;simp at ha hb;subst ha;subst hb;exact ⟨h1,h2,h3⟩
 rw[hk] at ha;simp at ha
theorem ER.set {E:dX} {es:List (Value×RV×Nat)} {vs:List MapEntry} (h:ER E es vs) {j:Nat} {m:MapEntry} (hm:vs[j]?=some m) {e:Value×RV×Nat} {f:MapEntry→MapEntry} (h1:(f m).key=e.1) (h2:Rr E e.2.1 (f m).val) (h3:(f m).born=e.2.2):ER E (es.set j e) (vs.modify j f):=by
 refine ⟨by simp[h.1],fun i a b ha hb=>?_⟩;rw[List.getElem?_set] at ha;rw[List.getElem?_modify] at hb;by_cases hij:j=i
 ·subst hij;rw[if_pos rfl] at ha;rw[hm] at hb;split at ha<;>cases ha;simp at hb;subst hb;exact ⟨h1,h2,h3⟩
 rw[if_neg hij] at ha;simp[hij] at hb;exact h.2 i a b ha hb
theorem ER.erase {E:dX} {es:List (Value×RV×Nat)} {vs:List MapEntry} (h:ER E es vs) (j:Nat):ER E (es.eraseIdx j) (vs.eraseIdx j):=by
 refine ⟨by simp[List.length_eraseIdx,h.1],fun i a b ha hb=>?_⟩;rw[List.getElem?_eraseIdx] at ha hb;split at ha
 ·rename_i hi;rw[if_pos hi] at hb;exact h.2 _ a b ha hb
 rename_i hi;rw[if_neg hi] at hb;exact h.2 _ a b ha hb
theorem bBh {E:dX} {b:Nat} {v:Value} (h:Rr E (.mp b) v): ∃g s,v=.map (some g)∧E b=some (g,s):=by
 cases h with
 |mp _ g s hE=>exact ⟨g,s,rfl,hE⟩
theorem aWw {ty:TypeId} {mo k x:Operand} (hop:o.op=.mapUpdate ty mo k x∨o.op=.insert ty mo k x) (hr:aUh P lo h n ty (eN t mo) (eN t k) (eN t x)=some r):MOk P lo t h n o r:=by
 have hopd: ∀y∈[mo,k,x],y∈o.op.operands:=fun y hy=>by
  rcases hop with hop|hop<;>rw[hop]<;>simp[Op.operands] at hy ⊢ <;>exact hy
 have hex: ∀(a:Act),execOp a.eval o=(Instr.mapUpdate ty (a.eval mo) (a.eval k) (a.eval x)>>=fun _=>pure .skip):=fun a=>by
  rcases hop with hop|hop<;>simp only[execOp,hop]
 unfold aUh at hr;split at hr<;>try cases hr
 rename_i kt et b kv hu hmo hkv;split at hr<;>try cases hr
 rename_i es c hb;obtain ⟨hc,hr⟩:=bY hr;simp only[bZi,cFp] at hc;obtain ⟨⟨h3,h4⟩,h5⟩:=hc;split at hr<;>cases hr
 all_goals
  rename_i hf;refine ⟨KH.turn h3 h4 h5 _,fun m E a w hm hs hh=>?_⟩;have hmr:=hs mo (hopd _ b7);have hkr:=hs k (hopd _ b7);have hxr:=hs x (hopd _ b7);rw[hmo] at hmr;generalize hmv:a.eval mo=mv at hmr;obtain rfl:=aHy hkv hkr;obtain ⟨g,s,rfl,hE⟩:=bBh hmr;obtain ⟨g2,s2,hE2,vs,hg,hlen,hrel⟩:=hh.blk b _ hb;rw[hE] at hE2;cases hE2;have hER:ER E es vs:=⟨hlen,hrel⟩;obtain ⟨c1,c2,c3⟩:=wA hf hER w
 ·obtain ⟨q1,q2⟩:=uN (lo:=lo) (c':=c+1) hh hb hE hg h3 h4 h5 (hER.app (e:=(a.eval k,eN t x,c)) (m:=⟨a.eval k,a.eval x,c⟩) rfl hxr rfl);exact ⟨E,_,q1,q2,by simp[hex,hmv,Instr.mapUpdate,run_underlying hu,MapKept.run_getObj_map hg,c1,c3,MapKept.run_setObj_map _ hg]⟩
 obtain ⟨mm,c3,c4,c5,c6,c7⟩:=c3;rename_i j d c0;obtain ⟨q1,q2⟩:=uN (lo:=lo) (c':=c) hh hb hE hg h3 h4 h5 (hER.set c4 (e:=(a.eval k,eN t x,c0)) (f:=fun e=>{e with key:=a.eval k,val:=a.eval x}) rfl hxr c7);have hj:vs.toArray[j]?=some mm:=by simpa using c4
 refine ⟨E,_,q1,q2,?_⟩;simp[hex,hmv,Instr.mapUpdate,run_underlying hu,MapKept.run_getObj_map hg,c1,c3,c4,c5,c2,MapKept.run_setObj_map _ hg]
theorem bMl {args:Array Operand} {ts:Array TypeId} {mo k:Operand} {t1:TypeId} {tl:List TypeId} (hop:o.op=.call ⟨.builtin .delete,args,ts⟩) (hargs:args.toList=[mo,k]) (hts:ts.toList=t1::tl) (hr:bDp P lo h n t1 (eN t mo) (eN t k)=some r):MOk P lo t h n o r:=by
 obtain rfl:args= #[mo,k]:=by apply cCh;simpa using hargs
 have h0:ts[0]?=some t1:=by rw[← cAg,hts];rfl
 unfold bDp at hr;split at hr<;>try cases hr
 rename_i kt et b kv hu hmo hkv;split at hr<;>try cases hr
 rename_i es c hb;obtain ⟨hc,hr⟩:=bY hr;simp only[bZi,cFp] at hc;obtain ⟨⟨h3,h4⟩,h5⟩:=hc;split at hr<;>cases hr
 all_goals
  rename_i hf;refine ⟨KH.turn h3 h4 h5 _,fun m E a w hm hs hh=>?_⟩;have hmr:=hs mo (by simp[hop,Op.operands,Call.operands]);have hkr:=hs k (by simp[hop,Op.operands,Call.operands]);rw[hmo] at hmr;generalize hmv:a.eval mo=mv at hmr;obtain rfl:=aHy hkv hkr;obtain ⟨g,s,rfl,hE⟩:=bBh hmr;obtain ⟨g2,s2,hE2,vs,hg,hlen,hrel⟩:=hh.blk b _ hb;rw[hE] at hE2;cases hE2;have hER:ER E es vs:=⟨hlen,hrel⟩;obtain ⟨c1,c2,c3⟩:=wA hf hER w
 ·obtain ⟨q1,q2⟩:=uN (lo:=lo) (c':=c) hh hb hE hg h3 h4 h5 hER;exact ⟨E,_,q1,q2,.tuple #[],by simp[execOp,hop,hmv,resolve,invoke,builtin,Builtin.delete_,h0,run_underlying hu,MapKept.run_getObj_map hg,c1,c3,MapKept.run_setObj_map _ hg],.tup [] #[] rfl fun j d u hd=>by simp at hd⟩
 obtain ⟨mm,c3,c4,c5,c6,c7⟩:=c3;rename_i j d c0;obtain ⟨q1,q2⟩:=uN (lo:=lo) (c':=c) hh hb hE hg h3 h4 h5 (hER.erase j);have e1:vs.toArray.eraseIdxIfInBounds j=(vs.eraseIdx j).toArray:=by simp
 exact ⟨E,_,q1,q2,.tuple #[],by simp[execOp,hop,hmv,resolve,invoke,builtin,Builtin.delete_,h0,run_underlying hu,MapKept.run_getObj_map hg,c1,c3,MapKept.run_setObj_map _ hg],.tup [] #[] rfl fun j d u hd=>by simp at hd⟩
theorem aXt {ty:TypeId} {x:Operand} (hop:o.op=.range ty x) (hlo:lo≤n) (hr:tU P lo t h n o.op=some r):MOk P lo t h n o r:=by
 rw[hop] at hr;simp only[tU] at hr;split at hr<;>try cases hr
 rename_i s hs0;obtain ⟨hc,rfl⟩:=bV hr;rw[bZi,cFp,cCe] at hc;obtain ⟨hty,hub⟩:=hc;refine ⟨KH.new hlo hub _,fun m E a w hm hs hh=>?_⟩;have hm:n+1≤m:=hm;have hx:=hs x (by simp[hop,Op.operands]);rw[hs0] at hx;generalize hq:a.eval x=q at hx;cases hx;obtain ⟨q1,q2,q3⟩:=hh.new (lo:=lo) aN hlo (w':=w.alloc (.stringIter s 0)) rfl rfl ⟨rfl,cCq _⟩ rfl (k:=.it s 0) (s:=0) (show (w.heap.push (.stringIter s 0))[w.heap.size]?=_ by simp);rw[d2 hub];exact ⟨_,_,q1,q2,.pointer (some ⟨w.heap.size,0,none⟩),by simp[execOp,hop,hq,Instr.range,run_underlying (nO hty),newObj,Sem.run],.ptr n 0 w.heap.size 0 (dB _ _ _)⟩
theorem bGm {x:Operand} (hop:o.op=.next x true) (hr:tU P lo t h n o.op=some r):MOk P lo t h n o r:=by
 rw[hop] at hr;simp only[tU] at hr;split at hr<;>try cases hr
 rename_i b hx0;split at hr<;>try cases hr
 rename_i s pos hb;obtain ⟨hc,hr⟩:=bY hr;simp only[bZi,cFp] at hc;obtain ⟨⟨h3,h4⟩,h5⟩:=hc;have common: ∀{E:dX} {m:Nat} {a:Act} {w:World},mY E t a o→HS E h.get n m w→ ∃g s',a.eval x=.pointer (some ⟨g,0,none⟩)∧E b=some (g,s')∧w.heap[g]?=some (.stringIter s pos):=fun {E m a w} hs hh=>by
  have hx:=hs x (by simp[hop,Op.operands]);rw[hx0] at hx;generalize a.eval x=q at hx;cases hx with
  |ptr _ _ g s' hE=>
   obtain ⟨g2,s2,hE2,hg⟩:=hh.blk b _ hb;rw[hE] at hE2;cases hE2;exact ⟨g,s',rfl,hE,hg⟩
 have hobj: ∀{w:World} {g:Nat},w.heap[g]?=some (.stringIter s pos)→(getObj g).run P w=.ok (.stringIter s pos) w:=fun {w g} hg=>by simp[getObj,Sem.run,hg]
 cases hp:decide (pos<s.size) with
 |true=>
  rw[hp] at hr;obtain rfl:=bZr hr;have hp:=cFq hp;refine ⟨KH.turn h3 h4 h5 _,fun m E a w hm hs hh=>?_⟩;obtain ⟨g,s',hav,hE,hg⟩:=common hs hh;have hset:(setObj g (.stringIter s (pos+(Utf8.decode s pos).2))).run P w=.ok () {w with heap:=w.heap.setIfInBounds g (.stringIter s (pos+(Utf8.decode s pos).2))}:=by simp[setObj,Sem.run,hg]
  have hs2:=MapKept.heap_set (o':=.stringIter s (pos+(Utf8.decode s pos).2)) hg;obtain ⟨q1,q2⟩:=hh.turn (lo:=lo) (b:=b) (g:=g) (s:=s') h3 h4 (by rw[hb];simp) hE (w':={w with heap:=w.heap.setIfInBounds g (.stringIter s (pos+(Utf8.decode s pos).2))}) b7 (fun g' hg'=>hs2.2 g' hg') rfl ⟨rfl,cCq _⟩ rfl (k:=.it s (pos+(Utf8.decode s pos).2)) hs2.1;rw[d2 h5];refine ⟨E,_,q1,q2,.tuple #[.bool true,goInt pos,.int .i32 (Utf8.decode s pos).1],by simp[execOp,hop,hav,Instr.next,hobj hg,hp,hset],?_⟩;refine .tup _ _ rfl fun j d u hd hu=>?_;rcases j with _|_|_|j
  ·simp at hd hu;subst hd;subst hu;exact .bool _
  ·simp at hd hu;subst hd;subst hu;exact .int _ _
  ·simp at hd hu;subst hd;subst hu;exact .int _ _
  simp at hd
 |false=>
  rw[hp] at hr;obtain rfl:=bZr hr;have hp:=cFx hp;refine ⟨KH.refl _ _ _,fun m E a w hm hs hh=>?_⟩;obtain ⟨g,s',hav,hE,hg⟩:=common hs hh;refine ⟨E,w,hh,RX.refl _ _ _ _ _,.tuple #[.bool false],by simp[execOp,hop,hav,Instr.next,hobj hg,hp],?_⟩;refine .tup _ _ rfl fun j d u hd hu=>?_;rcases j with _|j
  ·simp at hd hu;subst hd;subst hu;exact .bool _
  simp at hd
end
end
end Go.Rv
namespace Go.Rv
open Go.RowKit Go.Sg
noncomputable section
section
variable {P:Program} {lo:Nat} {t:Tr RV} {h:Tr dS} {n:Nat} {o:Oper} {r:Mv}
theorem aPh {E:dX} {cs:List RV} {us:Array Value} (hrel: ∀(j:Nat) (v:RV) (u:Value),cs[j]?=some v→us[j]?=some u→u.oneCell'=true∧Rr E v u) {off k:Nat} (h1:off+k≤cs.length) (h2:cs.length≤us.size): ∀u∈(us.toList.drop off).take k,u.oneCell'=true:=fun u hu=>by
 obtain ⟨j,hj⟩:=cAe hu;rw[cEl] at hj;split at hj<;>try cases hj
 rw[cCg,cAg] at hj;exact (hrel (off+j) _ u (cEn aN) hj).1
theorem vT {E:dX} {m:Nat} {w:World} (hh:HS E h.get n m w) {z:Nat} {x:RV} {u:Value} (hx:Rr E x u) {k:Nat} {news:List RV} (hs:bNv h.get z x=some (k,news)):
  ∃b c,u=.slice b k c∧((b=none∧k=0)∨ ∃(ad:Addr) (nv:List Value),b=some ad∧nv.length=k*z∧(∀j v,nv[j]?=some v→w.cell? (ad.add j)=some v)∧CR E news nv.toArray):=by
 unfold bNv at hs;split at hs
 ·cases hs;cases hx;exact ⟨none,0,rfl,.inl ⟨rfl,rfl⟩⟩
 ·cases hs;cases hx with
  |em b c=>
   cases b with
   |none=>exact ⟨none,c,rfl,.inl ⟨rfl,rfl⟩⟩
   |some ad=>exact ⟨_,c,rfl,.inr ⟨ad,[],rfl,by simp,by simp,rfl,by simp,by simp⟩⟩
 ·rename_i b off len z' cap full;split at hs<;>try cases hs
  rename_i e cs hb;obtain ⟨h1,h2⟩:=bV hs;cases h2;have h1:off+k*z≤cs.length:=cFq h1;obtain ⟨g,s,hE,us,hg,hus,hlen,hrel⟩:=hh.blk b _ hb;cases hx with
  |sl _ _ _ _ _ _ g2 s2 c hE2 hl hm hs' hf hc=>
   rw[hE] at hE2;cases hE2;refine ⟨_,c,rfl,.inr ⟨_,(us.toList.drop off).take (k*z),rfl,by simp;omega,fun j v hv=>?_,?_,fun u hu=>?_,fun j d u hd hu=>?_⟩⟩
   ·rw[cEl] at hv;split at hv<;>try cases hv
    rw[cCg,cAg] at hv;rw[Addr.add_lit];unfold World.cell?;simp only[hg];simpa using hv
   ·simp;omega
   ·exact aPh (off:=off) (k:=k*z) hrel h1 aN u hu
   rw[cEu,cEl] at hu;rw[cEl] at hd;split at hd<;>try cases hd
   rename_i hj;rw[if_pos hj,cCg,cAg] at hu;rw[cCg] at hd;exact (hrel _ d u hd hu).2
 cases hs
theorem sK {w:World} {t ty e:TypeId} {i:TypeInfo} (ht:P.underlying t=some (.slice e)) (hi:P.info? e=some i) (base:Option Addr) (sLen sCap:Nat) (hle:sLen≤sCap) {b:Option Addr} {c:Nat}:
  (Builtin.append_ #[t,t] ty #[.slice base sLen sCap,.slice b 0 c]).run P w=.ok (.slice base sLen sCap) w:=by
 cases base<;>cases b<;>simp[Builtin.append_,run_underlying ht,sizeOf,typeInfo,hi,Builtin.lenOf,hle,Builtin.firstCells,loadCells,loadCellsFrom,storeCells]
theorem w9 {w:World} {t ty e:TypeId} {i:TypeInfo} (ht:P.underlying t=some (.slice e)) (hi:P.info? e=some i)
  {g off sLen sCap:Nat} {cur:Array Value} {e2:TypeId} (hg:w.heap[g]?=some (.cells cur e2 (0,0)))
  {a:Addr} {m c:Nat} {news:List Value} (hl:news.length=m*i.size) (hnews: ∀j u,news[j]?=some u→w.cell? (a.add j)=some u) (h1: ∀u∈news,u.oneCell'=true)
  (hroom:sLen+m≤sCap) (hfit:off+sLen*i.size+news.length≤cur.size):
  (Builtin.append_ #[t,t] ty #[.slice (some ⟨g,off,none⟩) sLen sCap,.slice (some a) m c]).run P w=
   .ok (.slice (some ⟨g,off,none⟩) (sLen+m) sCap) (w.setRow g (xL (off+sLen*i.size) news.toArray cur)):=by
 have hf:=run_firstCells_some (P:=P) w i.size m a m c news hl hnews;have hst:=run_storeCells_at P g (off+sLen*i.size) e2 news 0 cur w hg (by simpa using hfit) h1;simp only[cAh] at hst;simp[Builtin.append_,run_underlying ht,sizeOf,typeInfo,hi,Builtin.lenOf,hroom,hf,Addr.add_lit,hst,xL]
theorem iV {a:Act} {x y:Operand} {t1 t2:TypeId} (hop:o.op=.call ⟨.builtin .append,#[x,y],#[t1,t2]⟩) {w w':World} {v:Value} (h:(Builtin.append_ #[t1,t2] o.type #[a.eval x,a.eval y]).run P w=.ok v w'):
  (execOp a.eval o).run P w=.ok (.value v) w':=by
 simp only[execOp,hop,resolve,Sem.run_bind,Sem.run_pure,Result.andThen_ok,invoke,builtin,List.map_toArray,cEb,cDk,h]
theorem CR.append {E:dX} {xs ys:List RV} {us vs:Array Value} (h:CR E xs us) (k:CR E ys vs):CR E (xs++ys) (us++vs):=by
 obtain ⟨h1,h2,h3⟩:=h;obtain ⟨k1,k2,k3⟩:=k;refine ⟨by simp[h1,k1],fun u hu=>?_,fun j d u hd hu=>?_⟩
 ·rw[Array.toList_append,cEh] at hu;exact hu.elim (h2 u) (k2 u)
 rw[bZq,h1] at hd;rw[cDw] at hu;split at hd
 ·rename_i hj;rw[if_pos hj] at hu;exact h3 j d u hd hu
 rename_i hj;rw[if_neg hj] at hu;exact k3 _ d u hd hu
theorem CR.more {E:dX} {xs:List RV} {us:Array Value} (h:CR E xs us) (vs:Array Value):CR' E xs (us++vs):=by
 obtain ⟨h1,h2,h3⟩:=h;refine ⟨by simp[h1],fun j d u hd hu=>?_⟩;rw[cDw] at hu;have hj:j<us.size:=by
  rw[← h1];rcases cBd j xs.length with h|h
  ·exact h
  rw[cAw h] at hd;cases hd
 rw[if_pos hj] at hu;exact ⟨h2 u (by simpa using cBu hu),h3 j d u hd hu⟩
theorem aVt {x y:Operand} {t1 t2:TypeId} (hop:o.op=.call ⟨.builtin .append,#[x,y],#[t1,t2]⟩) (hlo:lo≤n) (hr:aEq P lo h n t1 t2 (eN t x) (eN t y)=some r):MOk P lo t h n o r:=by
 unfold aEq at hr;split at hr<;>try cases hr
 rename_i e z by_ hsl;split at hr<;>try cases hr
 rename_i zs hz;have hb:=(bY hr).1;replace hr:=(bY hr).2;simp only[bZi,cFp] at hb;obtain ⟨⟨hzl,hz0⟩,hub⟩:=hb;obtain ⟨hu,i,hi,rfl,rfl⟩:=gE hsl;obtain ⟨i',zv,hi',hzv,rfl,hone⟩:=eR hz;rw[hi] at hi';cases hi';have hzs:zv.cells.size=i.size:=by simpa using hzl
 have hxr:=fun {E:dX} {a:Act} (hs:mY E t a o)=>hs x (by simp[hop,Op.operands,Call.operands]);have hyr:=fun {E:dX} {a:Act} (hs:mY E t a o)=>hs y (by simp[hop,Op.operands,Call.operands]);split at hr
 ·rename_i kk k hx hy;obtain ⟨hc,rfl⟩:=bV hr;simp only[bZi,cFp] at hc;obtain ⟨⟨⟨h1,h2⟩,h3⟩,h4⟩:=hc;refine ⟨KH.new hlo hub _,fun m E a w hm hs hh=>?_⟩;have hm:n+1≤m:=hm;have hxe:=hxr hs;have hye:=hyr hs;rw[hx] at hxe;rw[hy] at hye;generalize hxq:a.eval x=xq at hxe;generalize hyq:a.eval y=yq at hye;cases hxe;cases hye;have htn: ∃kn,P.underlying t2=some (.int kn):=by
   unfold tk at h1;split at h1<;>simp_all
  obtain ⟨kn,htn⟩:=htn;have hk:((k.toNat:Nat):Int)=k:=Int.toNat_of_nonneg aN;have hrun:=Go.Lib.run_append_nil_zeros (P:=P) w t1 t2 o.type e i zv kk kn hu htn hi hzv k.toNat aN hz0 aN aN;rw[hk] at hrun;have hge:=grownCap_ge w k.toNat 0 e;have hcm:=grownCap_le_maxLen w k.toNat 0 e (by unfold maxLen;omega);have hcr:CR' E (m6 k.toNat (zv.cells.toList.map cv1)) (Builtin.zeroCells zv.cells k.toNat++Builtin.zeroCells zv.cells (grownCap w k.toNat 0 e-k.toNat)):=(x7 E hone k.toNat).more _;have hsz:(Builtin.zeroCells zv.cells k.toNat++Builtin.zeroCells zv.cells (grownCap w k.toNat 0 e-k.toNat)).size=grownCap w k.toNat 0 e*i.size:=by
   rw[cDl,size_zeroCells,size_zeroCells,hzs,← cCp];congr 1;omega
  generalize hus:Builtin.zeroCells zv.cells k.toNat++Builtin.zeroCells zv.cells (grownCap w k.toNat 0 e-k.toNat)=us at*;obtain ⟨q1,q2⟩:=tO (us:=us) hh hm hlo hub e (w':=w.drew.alloc (.cells us e)) rfl rfl ⟨rfl,cEq _⟩ rfl (hcr.mono (pH hh aN _));exact ⟨_,_,q1,q2,_,iV hop (by rw[hxq,hyq];exact hrun),.sl n 0 k.toNat _ none true w.heap.size us.size _ (dB _ _ _) hge hcm aN (fun _=>by omega) (fun _ h=>by cases h)⟩
 have ht2:=(bY hr).1;replace hr:=(bY hr).2;obtain rfl:t2=t1:=cFq ht2;split at hr
 ·cases hr
 ·rename_i news hsrc;have key: ∀(m:Nat) (E:dX) (a:Act) (w:World),mY E t a o→HS E h.get n m w→ ∀base l c,l≤c→a.eval x=.slice base l c→(execOp a.eval o).run P w=.ok (.value (.slice base l c)) w:=fun m E a w hs hh base l c hle hxq=>by
   obtain ⟨b,c2,hyq,_⟩:=vT hh (hyr hs) hsrc;refine iV hop ?_;rw[hxq,hyq];exact sK hu hi base l c hle
  split at hr<;>cases hr
  ·rename_i hx;refine ⟨KH.refl _ _ _,fun m E a w hm hs hh=>⟨E,w,hh,RX.refl _ _ _ _ _,.slice none 0 0,?_,.nils⟩⟩;have hxe:=hxr hs;rw[hx] at hxe;generalize hxq:a.eval x=xq at hxe;cases hxe;exact key m E a w hs hh _ _ _ (cCq _) hxq
  rename_i b off len z' cap full hx;refine ⟨KH.refl _ _ _,fun m E a w hm hs hh=>?_⟩;have hxe:=hxr hs;rw[hx] at hxe;have hxe0:=hxe;generalize hxq:a.eval x=xq at hxe;cases hxe with
  |sl _ _ _ _ _ _ g s c hE hl hmx hs' hf hc=>
   refine ⟨E,w,hh,RX.refl _ _ _ _ _,_,key m E a w hs hh _ _ _ hl hxq,?_⟩;rw[← hxq];exact hxe0
 rename_i k news hsrc;split at hr
 ·rename_i hx;obtain ⟨hc,rfl⟩:=bV hr;simp only[bZi,cFp] at hc;refine ⟨KH.new hlo hub _,fun m E a w hm hs hh=>?_⟩;have hm:n+1≤m:=hm;have hxe:=hxr hs;rw[hx] at hxe;generalize hxq:a.eval x=xq at hxe;cases hxe;obtain ⟨b,c2,hyq,h0|⟨ad,nv,rfl,n1,n2,n3⟩⟩:=vT hh (hyr hs) hsrc
  ·omega
  have hrun:=run_append_nil (P:=P) w t2 o.type e i zv hu hi hzv ad (k+1) c2 nv n1 n2 aN aN aN;have hge:=grownCap_ge w (k+1) 0 e;have hcm:=grownCap_le_maxLen w (k+1) 0 e (by unfold maxLen;omega);have hcr:CR' E news (nv.toArray++Builtin.zeroCells zv.cells (grownCap w (k+1) 0 e-(k+1))):=n3.more _;have hsz:(nv.toArray++Builtin.zeroCells zv.cells (grownCap w (k+1) 0 e-(k+1))).size=grownCap w (k+1) 0 e*i.size:=by
   rw[cDl,size_zeroCells,hzs,cCv,n1,← cCp];congr 1;omega
  generalize hus:nv.toArray++Builtin.zeroCells zv.cells (grownCap w (k+1) 0 e-(k+1))=us at*;obtain ⟨q1,q2⟩:=tO (us:=us) hh hm hlo hub e (w':=w.drew.alloc (.cells us e)) rfl rfl ⟨rfl,cEq _⟩ rfl (hcr.mono (pH hh aN _));exact ⟨_,_,q1,q2,_,iV hop (by rw[hxq,hyq];exact hrun),.sl n 0 (k+1) _ none true w.heap.size us.size _ (dB _ _ _) hge hcm aN (fun _=>by omega) (fun _ h=>by cases h)⟩
 ·rename_i b off len z' cap full hx;split at hr<;>try cases hr
  rename_i e' cs hb;have hc:=(bY hr).1;replace hr:=(bY hr).2;simp only[bZi,cFp] at hc;obtain ⟨⟨⟨⟨he,rfl⟩,hb1⟩,hb2⟩,hb3⟩:=hc;subst he;have hgrow:Builtin.nextslicecap (len+(k+1)) 0=Builtin.nextslicecap (len+(k+1)) 0:=rfl;split at hr
  ·rename_i c;cases hroom:decide (len+(k+1)≤c) with
   |true=>
    rw[hroom] at hr;have hroom:len+(k+1)≤c:=cFq hroom;obtain ⟨hc,rfl⟩:=bV hr;simp only[bZi,cFp] at hc;obtain ⟨⟨h1,h2⟩,h3⟩:=hc;refine ⟨KH.turn h1 h2 aN _,fun m E a w hm hs hh=>?_⟩;have hxe:=hxr hs;rw[hx] at hxe;generalize hxq:a.eval x=xq at hxe;cases hxe with
    |sl _ _ _ _ _ _ g s c' hE hl hmx hs' hf hc=>
     obtain rfl:=hc _ rfl;obtain ⟨g2,s2,hE2,us,hg,hus,hlen,hrel⟩:=hh.blk b _ hb;rw[hE] at hE2;cases hE2;obtain ⟨bb,c2,hyq,h0|⟨ad,nv,rfl,n1,n2,n3⟩⟩:=vT hh (hyr hs) hsrc
     ·omega
     have hnl:news.length=(k+1)*i.size:=by rw[n3.1,cCv,n1]
     have hfit:off+len*i.size+news.length≤cs.length:=by rw[hnl,cCa,← cCp];exact h3
     have hrun:=w9 (P:=P) (ty:=o.type) (off:=off) (sLen:=len) (c:=c2) hu hi hg n1 n2 (fun u hu=>n3.2.1 u (by simpa using hu)) hroom (by rw[n1,← hnl];omega);have hsp:=n3.spl (off:=off+len*i.size) (old:=cs) (us:=us) ⟨by omega,hrel⟩ hfit;have hspsz:(xL (off+len*i.size) nv.toArray us).size=us.size:=xM (by rw[cCv,n1,← hnl];omega)
     obtain ⟨q1,q2⟩:=hh.turn (lo:=lo) (b:=b) (g:=g) (s:=s) h1 h2 (by rw[hb];simp) hE (w':=w.setRow g (xL (off+len*i.size) nv.toArray us)) (by simp[World.setRow]) (fun g' hg'=>setRow_other w g g' _ hg') rfl ⟨rfl,cCq _⟩ rfl
      (k:=.cells e' (aBu (off+len*i.size) news cs)) ⟨_,setRow_heap w g us _ e' _ hg,hspsz.trans hus,by have:=hsp.1;omega,hsp.2⟩
     rw[d2 aN];exact ⟨E,_,q1,q2,_,iV hop (by rw[hxq,hyq];exact hrun),.sl b off (len+(k+1)) _ _ full g s c' hE hroom hmx hs' hf hc⟩
   |false=>
    rw[hroom] at hr;have hroom: ¬(len+(k+1)≤c):=cFx hroom;cases hr;refine ⟨KH.new hlo hub _,fun m E a w hm hs hh=>?_⟩;have hm:n+1≤m:=hm;have hxe:=hxr hs;rw[hx] at hxe;generalize hxq:a.eval x=xq at hxe;cases hxe with
    |sl _ _ _ _ _ _ g s c' hE hl hmx hs' hf hc=>
     obtain rfl:=hc _ rfl;obtain ⟨g2,s2,hE2,us,hg,hus,hlen,hrel⟩:=hh.blk b _ hb;rw[hE] at hE2;cases hE2;obtain ⟨bb,c2,hyq,h0|⟨ad,nv,rfl,n1,n2,n3⟩⟩:=vT hh (hyr hs) hsrc
     ·omega
     have holds: ∀j v,((us.toList.drop off).take (len*i.size))[j]?=some v→w.cell? ((⟨g,off,none⟩:Addr).add j)=some v:=fun j v hv=>by
      rw[cEl] at hv;split at hv<;>try cases hv
      rw[cCg,cAg] at hv;rw[Addr.add_lit];unfold World.cell?;simp only[hg];simpa using hv
     have hrun:=run_append_grow (P:=P) w t2 o.type e' i zv hu hi hzv ⟨g,off,none⟩ len c' ((us.toList.drop off).take (len*i.size)) (by simp;omega) holds ad (k+1) c2 nv n1 n2 aN aN (growslice_fits aN hb2);have hge:=grownCap_ge w (len+(k+1)) c' e';have hcm:=grownCap_le_maxLen w (len+(k+1)) c' e' (by unfold maxLen;omega);have hcro:CR E ((cs.drop off).take (len*i.size)) ((us.toList.drop off).take (len*i.size)).toArray:=by
      refine ⟨by simp;omega,aPh hrel hb3 aN,fun j d u hd hu=>?_⟩;rw[cEu,cEl] at hu;rw[cEl] at hd;split at hd<;>try cases hd
      rename_i hj;rw[if_pos hj,cCg,cAg] at hu;rw[cCg] at hd;exact (hrel _ d u hd hu).2
     have hcr:=(hcro.append n3).more (Builtin.zeroCells zv.cells (grownCap w (len+(k+1)) c' e'-(len+(k+1))));have hsz:(((us.toList.drop off).take (len*i.size)).toArray++nv.toArray++Builtin.zeroCells zv.cells (grownCap w (len+(k+1)) c' e'-(len+(k+1)))).size=grownCap w (len+(k+1)) c' e'*i.size:=by
      have e1:((us.toList.drop off).take (len*i.size)).length=len*i.size:=by simp;omega
      rw[cDl,cDl,size_zeroCells,hzs,cCv,cCv,n1,e1,← cCp,← cCp];congr 1;omega
     generalize hus2:((us.toList.drop off).take (len*i.size)).toArray++nv.toArray++Builtin.zeroCells zv.cells (grownCap w (len+(k+1)) c' e'-(len+(k+1)))=us2 at*;obtain ⟨q1,q2⟩:=tO (us:=us2) hh hm hlo hub e' (w':=w.drew.alloc (.cells us2 e')) rfl rfl ⟨rfl,cEq _⟩ rfl (hcr.mono (pH hh aN _));exact ⟨_,_,q1,q2,_,iV hop (by rw[hxq,hyq];exact hrun),.sl n 0 (len+(k+1)) _ none true w.heap.size us2.size _ (dB _ _ _) hge hcm aN (fun _=>by omega) (fun _ h=>by cases h)⟩
  -- the room is not known
  obtain ⟨hc,rfl⟩:=bV hr;simp only[bZi,cFp] at hc;obtain ⟨⟨⟨hfull,hoff⟩,h1⟩,h2⟩:=hc;subst hoff;refine ⟨(KH.turn h1 h2 aN _).trans (KH.new hlo hub _),fun m E a w hm hs hh=>?_⟩;have hm:n+1≤m:=hm;have hxe:=hxr hs;rw[hx] at hxe;generalize hxq:a.eval x=xq at hxe;cases hxe with
  |sl _ _ _ _ _ _ g s c' hE hl hmx hs' hf hc=>
   have hcs:=hf hfull;obtain ⟨g2,s2,hE2,us,hg,hus,hlen,hrel⟩:=hh.blk b _ hb;rw[hE] at hE2;cases hE2;obtain ⟨bb,c2,hyq,h0|⟨ad,nv,rfl,n1,n2,n3⟩⟩:=vT hh (hyr hs) hsrc
   ·omega
   have hown:w.ownsRow 0 e' i.size (.slice (some ⟨g,0,none⟩) len c') len (us.toList.take (len*i.size)):=
    ⟨by simp;omega,.inr ⟨g,c',us,rfl,bZt _,hg,hl,hmx,by omega,rfl⟩⟩
   obtain ⟨x',w',hrun,hown',hgr,_,hat⟩:=run_append_own_at (P:=P) w 0 t2 o.type e' i zv i.size i.bytes hu hi hzv rfl rfl hzs hz0 _ len _ hown ad (k+1) c2 nv n1 n2 (fun u hu=>n3.2.1 u (by simpa using hu)) (by unfold maxLen;omega) hb2 (bZt _);have hcro:CR E (cs.take (len*i.size)) (us.toList.take (len*i.size)).toArray:=by
    refine ⟨by simp;omega,aPh (off:=0) hrel aN aN,fun j d u hd hu=>?_⟩;rw[cEu,cEl] at hu;rw[cEl] at hd;split at hd<;>try cases hd
    rename_i hj;rw[if_pos hj,cAg] at hu;exact (hrel _ d u hd hu).2
   have hcr:=hcro.append n3;rcases hown'.2 with ⟨rfl,h0⟩|⟨g2,cap2,cur,rfl,_,hg2,hnc,hcm,hcsz,htake⟩
   ·omega
   have hcr':CR' E (cs.take (len*i.size)++news) cur:=by
    obtain ⟨r1,r2,r3⟩:=hcr;have r1:(cs.take (len*i.size)++news).length=(len+(k+1))*i.size:=by
     rw[r1,cDl,cCv,cCv,n1,cCp];simp;omega
    refine ⟨by rw[r1,hcsz];exact cEr _ hnc,fun j d u hd hu=>?_⟩;have hj:j<(len+(k+1))*i.size:=by
     rw[← r1];rcases cBd j (cs.take (len*i.size)++news).length with h|h
     ·exact h
     rw[cAw h] at hd;cases hd
    have h9:(us.toList.take (len*i.size)++nv)[j]?=some u:=by
     rw[← htake,cEl,if_pos hj,cAg];exact hu
    have h9:((us.toList.take (len*i.size)).toArray++nv.toArray)[j]?=some u:=by simpa using h9
    exact ⟨r2 u (by simpa using cBu h9),r3 j d u hd h9⟩
   have hsize:g<w.heap.size:=hh.old b g s hE;have hat2:g2=g∨g2=w.heap.size:=by
    rcases hat with h|h
    ·have:some g2=some g:=h;exact .inl (by cases this;rfl)
    have:some g2=some w.heap.size:=h;exact .inr (by cases this;rfl)
   obtain ⟨q1,q2,q3⟩:=hh.regrow (lo:=lo) aN hlo h1 h2 (by rw[hb];simp) hE (w':=w') hgr.os ⟨hgr.tape,Go.Sg.dR _ hrun⟩ hgr.output hgr.size (fun g' hg' hne=>hgr.block g' hg' (by intro e;cases e;exact hne rfl)) (g2:=g2) (s2:=cur.size) hat2
    (by
      rcases cBd g2 w'.heap.size with h|h
      ·exact h
      rw[cDy h] at hg2;cases hg2) (k:=.cells e' (cs.take (len*i.size)++news)) ⟨cur,hg2,rfl,hcr'.1,(hcr'.mono (pH hh aN _)).2⟩
   rw[d2 hub,d2 aN];exact ⟨_,_,q1,q2,_,iV hop (by rw[hxq,hyq];exact hrun),.sl n 0 (len+(k+1)) _ none true g2 cur.size cap2 (dB _ _ _) hnc hcm aN (fun _=>by omega) (fun _ h=>by cases h)⟩
 cases hr
end
end
end Go.Rv
namespace Go.Rv
open Go.RowKit Go.Sg
noncomputable section
abbrev lG:=Nat→FuncId⊕Nat→List RV→Tr dS→Nat→Option (RV×Tr dS×Nat)
def hQ (lo:Nat) (E:dX) (h:Tr dS) (n:Nat) (w:World) (r:RV) (h':Tr dS) (n' m:Nat) (e:Ending) (w':World):Prop:=
 ∃y E',e=.returned y∧HS E' h'.get n' m w'∧RX lo E h.get n w E' h'.get n' w'∧Rr E' r y
def xP (P:Program) (lo:Nat) (f:FuncId⊕Nat) (l:List RV) (h:Tr dS) (n:Nat) (r:RV) (h':Tr dS) (n':Nat):Prop:=
 KH lo h h' n n'∧ ∀(m:Nat) (E:dX) (w:World) (vals:Array Value),n'≤m→HS E h.get n m w→vals.size=l.length→(∀(j:Nat) (d:RV) (u:Value),l[j]?=some d→vals[j]?=some u→Rr E d u)→
  match f with
  | .inl f=>if aO P f=true then Calls P f vals w (hQ lo E h n w r h' n' m) else ∃y w',(callFunc f vals).run P w=.ok (.value y) w'∧hQ lo E h n w r h' n' m (.returned y) w'
  | .inr b=> ∀g s,E b=some (g,s)→ ∃fn tmps asg body,(Instr.yield g vals).run P w=.ok (.round g fn tmps asg body) w∧RoundIn (FR none) 0 P g fn tmps asg body w (hQ lo E h n w r h' n' m)
def eO (P:Program) (call:lG):Prop:= ∀lo f l h n r h' n',call lo f l h n=some (r,h',n')→lo≤n→xP P lo f l h n r h' n'
def aRl (d:RV) (args:List RV):Option ((FuncId⊕Nat)×List RV):=
 match d with
 | .fn f a b=>some (.inl f,a++args++b)
 | .yl b=>some (.inr b,args)
 |_=>none
def aTy (P:Program) (call:lG) (lo:Nat) (t:Tr RV) (h:Tr dS) (n:Nat) (op:Op):Option Mv:=
 match op with
 | .call ⟨.value f,args,_⟩=>(match aRl (eN t f) (args.toList.map (eN t)) with
  |some (fid,l)=>(call lo fid l h n).map fun q=>(some q.1,q.2.1,q.2.2)
  |none=>none)
 |op=>match puR P t h.get op with
  |some v=>some (some v,h,n)
  |none=>match xtR P t op with
   |some v=>some (some v,h,n)
   |none=>tU P lo t h n op
def SOk (P:Program) (lo:Nat) (t:Tr RV) (h:Tr dS) (n:Nat) (o:Oper) (r:Mv):Prop:=
 KH lo h r.2.1 n r.2.2∧ ∀(ro:Option Nat) (m:Nat) (E:dX) (a:Act) (w:World),r.2.2≤m→mY E t a o→HS E h.get n m w→ ∀(next:Act→World→Prop) (Q':Exit→Act→World→Prop),
  (∀E' y w',HS E' r.2.1.get r.2.2 m w'→RX lo E h.get n w E' r.2.1.get r.2.2 w'→Rr E' (r.1.getD .nov) y→next (a.put o.dst y) w')→o.wpIn (FR ro) 0 P a w next Q'
section
variable {P:Program} {nt lo:Nat} {t:Tr RV} {h:Tr dS} {n:Nat} {o:Oper} {r:Mv} {call:lG}
theorem qM {ro:Option Nat} {ρ:Operand→Value} {w w':World} {y:Value} (h:(execOp ρ o).run P w=.ok (.value y) w'):(o.semAt ro ρ).run P w=.ok (.value y) w':=by
 rw[Oper.semAt_eq ro ρ o fun c hc=>?_]
 ·exact h
 simp only[execOp,hc,Sem.run_bind] at h;cases hq:(resolve ρ c o.type).run P w with
 |ok d w2=>rw[hq] at h;simp at h
 |halt x w2=>rw[hq] at h;simp[Result.andThen] at h
theorem aNt {ro:Option Nat} {ρ:Operand→Value} {w w':World} (h:(execOp ρ o).run P w=.ok .skip w'):(o.semAt ro ρ).run P w=.ok .skip w':=by
 rw[Oper.semAt_eq ro ρ o fun c hc=>?_]
 ·exact h
 simp only[execOp,hc,Sem.run_bind] at h;cases hq:(resolve ρ c o.type).run P w with
 |ok d w2=>rw[hq] at h;simp at h
 |halt x w2=>rw[hq] at h;simp[Result.andThen] at h
theorem MOk.sOk (hm:MOk P lo t h n o r):SOk P lo t h n o r:=by
 refine ⟨hm.1,fun ro m E a w hle hs hh next Q' hn=>⟨fun _ _=>trivial,?_⟩⟩;obtain ⟨E',w',h1,h2,h3⟩:=hm.2 m E a w hle hs hh;cases hr:r.1 with
 |none=>
  rw[hr] at h3;simp only at h3;rw[aNt h3];exact hn E' _ w' h1 h2 (by rw[hr];exact .nov)
 |some v=>
  rw[hr] at h3;obtain ⟨y,h4,h5⟩:=h3;rw[qM h4];exact hn E' y w' h1 h2 (by rw[hr];exact h5)
theorem bTt (hlo:lo≤n) (hr:tU P lo t h n o.op=some r):MOk P lo t h n o r:=by
 cases hop:o.op with
 |alloc ty=>exact bAg hop hlo hr
 |box ty x=>exact bNm hop hlo hr
 |build ty parts=>exact bBl hop hr
 |buildSlice ty k parts=>exact bOp hop hlo hr
 |makeSlice ty x y=>exact bHa hop hlo hr
 |store ty ad x=>exact aWh hop hr
 |makeMap ty x=>exact bPd hop hlo hr
 |range ty x=>exact aXt hop hlo hr
 |next x st=>
  cases st with
  |true=>exact bGm hop hr
  |false=>rw[hop] at hr;cases hr
 |mapUpdate ty m k x=>rw[hop] at hr;exact aWw (.inl hop) hr
 |insert ty m k x=>rw[hop] at hr;exact aWw (.inr hop) hr
 |call c=>
  obtain ⟨cl,args,ts⟩:=c;cases cl with
  |builtin b=>
   cases b with
   |append=>
    rw[hop] at hr;simp only[tU] at hr;split at hr
    ·rename_i x y t1 t2 hargs hts;obtain rfl:args= #[x,y]:=by apply cCh;simpa using hargs
     obtain rfl:ts= #[t1,t2]:=by apply cCh;simpa using hts
     exact aVt hop hlo hr
    cases hr
   |delete=>
    rw[hop] at hr;simp only[tU] at hr;split at hr
    ·rename_i m k t1 tl hargs hts;exact bMl hop hargs hts hr
    cases hr
   |_=>rw[hop] at hr;cases hr
  |_=>rw[hop] at hr;cases hr
 |_=>rw[hop] at hr;cases hr
theorem bHb (hc:eO P call) {f:Operand} {args:Array Operand} {ts:Array TypeId} (hop:o.op=.call ⟨.value f,args,ts⟩) (hlo:lo≤n) (hr:aTy P call lo t h n o.op=some r):SOk P lo t h n o r:=by
 rw[hop] at hr;simp only[aTy] at hr;split at hr<;>try cases hr
 rename_i fid l hl;rw[cBa] at hr;obtain ⟨⟨v,h',n'⟩,hq,rfl⟩:=hr;obtain ⟨k1,k2⟩:=hc _ _ _ _ _ _ _ _ hq hlo;refine ⟨k1,fun ro m E a w hm hs hh next Q' hn=>⟨fun _ _=>trivial,?_⟩⟩;rw[Oper.semAt_eq _ _ _ fun c hc=>by rw[hop] at hc;cases hc];unfold mY at hs;rw[hop] at hs;have hf:=hs f (by simp[Op.operands,Call.operands]);have hargs: ∀x∈args.toList,Rr E (eN t x) (a.eval x):=fun x hx=>hs x (by simp[Op.operands,Call.operands];exact .inr (by simpa using hx));generalize eN t f=d at*;unfold aRl at hl;split at hl<;>cases hl
 rotate_left
 ·rename_i b;generalize hv:a.eval f=fv at*;cases hf with
  |yl _ g s hE=>
   obtain ⟨fn,tmps,asg,body,q1,q2⟩:=k2 m E w (args.map a.eval) hm hh b7 (fun j d u hd hu=>by
    simp only[cDj,cBa,cAg,cDv] at hd hu;obtain ⟨x,hx,rfl⟩:=hd;obtain ⟨y,hy,rfl⟩:=hu;rw[hx] at hy;cases hy;exact hargs x (by simpa using cBu hx)) g s hE
   have hrun:(execOp a.eval o).run P w=.ok (.round g fn tmps asg body) w:=by simp[execOp,hop,resolve,hv,Deferred.ofValue,invoke,q1]
   rw[hrun,Oper.uponIn_round];refine ⟨qD _,aPb (q2.mono ?_)⟩;rintro e w' ⟨y,E',rfl,p1,p2,p3⟩;exact hn E' y w' p1 p2 p3
 rename_i fid first captured
 generalize hv:a.eval f=fv at*;cases hf with
 |fn _ _ _ us vs hf1 hc1 hfr hcr=>
  have hrel: ∀(j:Nat) (d:RV) (u:Value),(first++args.toList.map (eN t)++captured)[j]?=some d→(us++args.map a.eval++vs)[j]?=some u→Rr E d u:=fun j d u hd hu=>by
   rw[bZq,bZq] at hd;rw[cDw,cDw] at hu;simp only[cAb,cAr,cCy,cDl,Array.size_map] at hd hu;rw[hf1] at hd;split at hd
   ·rename_i h1;rw[if_pos h1] at hu;split at hd
    ·rename_i h2;rw[if_pos h2] at hu;exact hfr j d u hd hu
    rename_i h2;rw[if_neg h2] at hu;simp only[cDj,cBa,cAg,cDv] at hd hu;obtain ⟨x,hx,rfl⟩:=hd;obtain ⟨y,hy,rfl⟩:=hu;rw[hx] at hy;cases hy;exact hargs x (by simpa using cBu hx)
   rename_i h1;rw[if_neg h1] at hu;exact hcr _ d u hd hu
  have k3:if aO P fid=true then Calls P fid (us++args.map a.eval++vs) w (hQ lo E h n w v h' n' m) else ∃y w',(callFunc fid (us++args.map a.eval++vs)).run P w=.ok (.value y) w'∧hQ lo E h n w v h' n' m (.returned y) w':=
   k2 m E w (us++args.map a.eval++vs) hm hh (by simp[hf1,hc1]) hrel
  by_cases hb:aO P fid=true
  ·rw[if_pos hb] at k3;have hcf: ∀vals:Array Value,(callFunc fid vals).run P w=.ok (.enter fid vals) w:=fun vals=>by
    unfold aO at hb;cases hP:P.funcs[fid]? with
    |none=>rw[hP] at hb;cases hb
    |some fn=>
     rw[hP] at hb;simp only[bZi,cAz] at hb;have hn:fn.body.isNone=false:=by cases h:fn.body<;>simp_all
     simp only[callFunc,Sem.run_bind,run_program,Result.andThen_ok,hP,hb.2,hn,cEy,cFv,Sem.run_pure]
   have hrun:(execOp a.eval o).run P w=.ok (.enter fid (us++args.map a.eval++vs)) w:=by simp[execOp,hop,resolve,hv,Deferred.ofValue,invoke,hcf]
   rw[hrun,Oper.uponIn_enter];refine ⟨qD _,tQ (Calls.mono k3 ?_)⟩;rintro e w' ⟨y,E',rfl,q1,q2,q3⟩;exact hn E' y w' q1 q2 q3
  rw[if_neg hb] at k3;obtain ⟨y0,w',hcf,y,E',he,q1,q2,q3⟩:=k3;cases he;have hrun:(execOp a.eval o).run P w=.ok (.value y0) w':=by
   simp only[execOp,hop,resolve,hv,Deferred.ofValue,Sem.run_bind,Sem.run_pure,Result.andThen_ok,invoke];exact hcf
  rw[hrun,Oper.uponIn_value];exact hn E' y0 w' q1 q2 q3
theorem aRm (hc:eO P call) (hlo:lo≤n) (hr:aTy P call lo t h n o.op=some r):SOk P lo t h n o r:=by
 by_cases hcl: ∃f args ts,o.op=.call ⟨.value f,args,ts⟩
 ·obtain ⟨f,args,ts,hop⟩:=hcl;exact bHb hc hop hlo hr
 have hr':(match puR P t h.get o.op with
  |some v=>some (some v,h,n)
  |none=>match xtR P t o.op with
   |some v=>some (some v,h,n)
   |none=>tU P lo t h n o.op)=some r:=by
  cases hop:o.op with
  |call c=>
   obtain ⟨cl,args,ts⟩:=c;cases cl with
   |value f=>exact absurd ⟨f,args,ts,hop⟩ hcl
   |_=>rw[hop] at hr;exact hr
  |_=>rw[hop] at hr;exact hr
 split at hr'
 ·rename_i v hv;cases hr';refine ⟨KH.refl _ _ _,fun ro m E a w hm hs hh next Q' hn=>⟨fun _ _=>trivial,?_⟩⟩;obtain ⟨y,h1,h2⟩:=aZc hh o hs hv;rw[qM h1];exact hn E y w hh (RX.refl _ _ _ _ _) h2
 split at hr'
 ·rename_i v hv;cases hr';refine ⟨KH.refl _ _ _,fun ro m E a w hm hs hh next Q' hn=>⟨fun _ _=>trivial,?_⟩⟩;obtain ⟨y,h1,h2⟩:=bOb hh o hs hv;rw[qM h1];exact hn E y w hh (RX.refl _ _ _ _ _) h2
 exact (bTt hlo hr').sOk
def gAt (ops:List Oper) (t:Tr RV) (j:Nat) (want:Bool):Option Bool:=
 match ops[j]? with
 |some o=>match o.dst with
  |some d=>gW want ((t.get d).getD .nov)
  |none=>none
 |none=>none
def yY (ops:List Oper) (o:Oper):Option Nat:=
 match o.guard with
 |none=>none
 |some (j,_)=>match ops[j]? with
  |some oj=>oj.dst
  |none=>none
def evO (P:Program) (call:lG) (lo:Nat) (ops:List Oper) (t:Tr RV) (h:Tr dS) (n:Nat) (o:Oper):Option Mv:=
 match o.guard with
 |none=>aTy P call lo t h n o.op
 |some (j,want)=>match gAt ops t j want with
  |some true=>aTy P call lo t h n o.op
  |some false=>some (some .nov,h,n)
  |none=>none
def GOk (P:Program) (lo:Nat) (ops:List Oper) (t:Tr RV) (h:Tr dS) (n:Nat) (o:Oper) (r:Mv):Prop:=
 KH lo h r.2.1 n r.2.2∧ ∀(ro:Option Nat) (m:Nat) (E:dX) (a:Act) (w:World),r.2.2≤m→mY E t a o→(∀d,yY ops o=some d→d<a.tmps.size∧Rr E ((t.get d).getD .nov) (a.tmps.getD d undef))→HS E h.get n m w→
  ∀(next:Act→World→Prop) (Q':Exit→Act→World→Prop),(∀E' y w',HS E' r.2.1.get r.2.2 m w'→RX lo E h.get n w E' r.2.1.get r.2.2 w'→Rr E' (r.1.getD .nov) y→next (a.put o.dst y) w')→
  if Region.wanted o (yielded ops.toArray a.tmps)=true then o.wpIn (FR ro) 0 P a w next Q' else (∀f,o.about P w a.eval=some f→(FR ro).fn f)∧next (a.put o.dst undef) w
theorem nT {ops:List Oper} {E:dX} {a:Act} {j:Nat} {want g:Bool} (hg:o.guard=some (j,want)) (hs: ∀d,yY ops o=some d→d<a.tmps.size∧Rr E ((t.get d).getD .nov) (a.tmps.getD d undef)) (h:gAt ops t j want=some g):
  Region.wanted o (yielded ops.toArray a.tmps)=g:=by
 unfold gAt at h;split at h<;>try cases h
 rename_i oj hj;split at h<;>try cases h
 rename_i d hd;obtain ⟨hlt,hsl⟩:=hs d (by unfold yY;rw[hg];simp only[hj,hd]);have hy:yielded ops.toArray a.tmps j=match a.tmps.getD d undef with| .bool b=>some b|_=>none:=by
  unfold yielded;simp only[cEu,hj,Option.bind_some,hd,cAt hlt,cBt,bZy];cases a.tmps[d]<;>rfl
 unfold Region.wanted;rw[hg];simp only[hy];generalize a.tmps.getD d undef=x at*;unfold gW at h;split at h
 ·rename_i b hρ;rw[hρ] at hsl;cases hsl;cases h;cases b<;>cases want<;>rfl
 ·rename_i hρ;rw[hρ] at hsl;cases hsl;cases h;rfl
 cases h
theorem aIy (hc:eO P call) (hlo:lo≤n) {ops:List Oper} (hr:evO P call lo ops t h n o=some r):GOk P lo ops t h n o r:=by
 unfold evO at hr;split at hr
 ·rename_i hg;obtain ⟨k1,k2⟩:=aRm hc hlo hr;refine ⟨k1,fun ro m E a w hm hs hgs hh next Q' hn=>?_⟩;rw[if_pos (by simp[Region.wanted,hg])];exact k2 ro m E a w hm hs hh next Q' hn
 rename_i j want hg;split at hr
 ·rename_i hgt;obtain ⟨k1,k2⟩:=aRm hc hlo hr;refine ⟨k1,fun ro m E a w hm hs hgs hh next Q' hn=>?_⟩;rw[nT hg hgs hgt,if_pos rfl];exact k2 ro m E a w hm hs hh next Q' hn
 ·rename_i hgt;cases hr;refine ⟨KH.refl _ _ _,fun ro m E a w hm hs hgs hh next Q' hn=>?_⟩;rw[nT hg hgs hgt,if_neg b7];exact ⟨fun _ _=>trivial,hn E undef w hh (RX.refl _ _ _ _ _) .nov⟩
 cases hr
structure St where
 t:Tr RV
 h:Tr dS
 n:Nat
def pY (t:Tr RV) (dst:Option Nat) (v:RV):Tr RV:=match dst with
 |some d=>t.set d (some v)
 |none=>t
def aMs (P:Program) (call:lG) (lo:Nat) (ops:List Oper):List Oper→St→Option St
 | [],s=>some s
 |o::l,⟨t,h,n⟩=>match evO P call lo ops t h n o with
  |some (v,h',n')=>aMs P call lo ops l ⟨pY t o.dst (v.getD .nov),h',n'⟩
  |none=>none
def nE (nt:Nat) (l:List Oper):Bool:=decide (nt≤ub)&&l.all fun o=>dP nt o&&d3 nt o
theorem jY {l:List Oper} (h:nE nt l=true):nt≤ub∧ ∀o∈l,dP nt o=true∧d3 nt o=true:=by
 unfold nE at h;simp only[bZi,cFp,cCk] at h;exact ⟨h.1,fun o ho=>h.2 o ho⟩
theorem SS.putD {E:dX} {a:Act} (hs:SS nt E t a) (hnt:nt≤ub) {dst:Option Nat} (hd: ∀d,dst=some d→d<nt) {v:RV} {x:Value} (hr:Rr E v x):SS nt E (pY t dst v) (a.put dst x):=by
 cases dst with
 |none=>exact hs
 |some d=>exact hs.put (hd d rfl) (by have:=hd d rfl;omega) hr
theorem kU (h:d3 nt o=true): ∀d,o.dst=some d→d<nt:=fun d hd=>by unfold d3 at h;rw[hd] at h;simpa using h
theorem aLl {ops:List Oper} (hall: ∀o∈ops,d3 nt o=true): ∀d,yY ops o=some d→d<nt:=fun d hd=>by
 unfold yY at hd;split at hd<;>try cases hd
 split at hd<;>try cases hd
 rename_i oj hj;exact kU (hall oj (cDb hj)) d hd
theorem SS.gslot {E:dX} {a:Act} (hs:SS nt E t a) {ops:List Oper} (hall: ∀o∈ops,d3 nt o=true): ∀d,yY ops o=some d→d<a.tmps.size∧Rr E ((t.get d).getD .nov) (a.tmps.getD d undef):=fun d hd=>
 have:=aLl hall d hd
 ⟨by rw[hs.size];exact this,hs.slot d this⟩
theorem aJo (hc:eO P call) {ops:List Oper} (hreg:nE nt ops=true): ∀(l:List Oper) (s s':St),(∀o∈l,o∈ops)→aMs P call lo ops l s=some s'→lo≤s.n→KH lo s.h s'.h s.n s'.n∧
  ∀(ro:Option Nat) (m:Nat) (E:dX) (a:Act) (w:World) (Q':Exit→Act→World→Prop),s'.n≤m→SS nt E s.t a→HS E s.h.get s.n m w→(∀E' a' w',SS nt E' s'.t a'→a'.defers=a.defers→HS E' s'.h.get s'.n m w'→RX lo E s.h.get s.n w E' s'.h.get s'.n w'→Q' .normal a' w')→wpListIn (FR ro) 0 P ops.toArray Q' l a w
 | [],s,s',_,hr,hlo=>by
  unfold aMs at hr;cases hr;exact ⟨KH.refl _ _ _,fun ro m E a w Q' hm hs hh hq=>hq E a w hs rfl hh (RX.refl _ _ _ _ _)⟩
 |o::l,⟨t,h,n⟩,s',hmem,hr,hlo=>by
  unfold aMs at hr;split at hr
  ·rename_i v h' n' hv;obtain ⟨k1,k2⟩:=aIy hc hlo hv;obtain ⟨i1,i2⟩:=aJo hc hreg l _ s' (fun o ho=>hmem o (by simp[ho])) hr (cBc hlo k1.nn);obtain ⟨hnt,hall⟩:=jY hreg;obtain ⟨ho1,ho2⟩:=hall o (hmem o b7);refine ⟨k1.trans i1,fun ro m E a w Q' hm hs hh hq=>wpListIn_step fun K hK=>?_⟩;have hm1:n'≤m:=cBc i1.nn hm;refine k2 ro m E a w hm1 (hs.opds ho1) (hs.gslot fun o ho=>(hall o ho).2) hh K Q' fun E' y w' q1 q2 q3=>hK _ _ ?_;refine i2 ro m E' _ w' Q' hm ((hs.mono (hh.up q2 hm1)).putD hnt (kU ho2) q3) q1 fun E2 a2 w2 p1 p2 p3 p4=>hq E2 a2 w2 p1 (by rw[p2,d7]) p3 (q2.trans p4 hh hm1 hlo)
  cases hr
end
end
end Go.Rv
namespace Go.Rv
open Go.RowKit Go.Sg
noncomputable section
def aCx (acc:List Nat):List Edge→Nat→Nat
 | [],s=>s
 |e::l,s=>aCx acc l (bif Region.binds .any e then s|||2^e.on|||acc.getD e.on 0 else s)
def fO:List Oper→List Nat→List Nat
 | [],acc=>acc
 |o::l,acc=>fO l (acc++[aCx acc o.after.toList 0])
theorem aGq (acc:List Nat) (j:Nat): ∀(l:List Edge) (s:Nat),(aCx acc l s).testBit j=true→s.testBit j=true∨ ∃e∈l,Region.binds .any e=true∧(e.on=j∨(acc.getD e.on 0).testBit j=true)
 | [],s,h=>.inl h
 |e::l,s,h=>by
  unfold aCx at h;rcases aGq acc j l _ h with h1|⟨e',he,h1⟩
  ·cases hb:Region.binds .any e with
   |false=>rw[hb] at h1;exact .inl h1
   |true=>
    rw[hb] at h1;simp only[bZn,Nat.testBit_or,cEx,Nat.testBit_two_pow,cFp] at h1;rcases h1 with (h1|h1)|h1
    ·exact .inl h1
    ·exact .inr ⟨e,by simp,hb,.inl h1⟩
    exact .inr ⟨e,by simp,hb,.inr h1⟩
  exact .inr ⟨e',by simp[he],h1⟩
theorem wX: ∀(l:List Oper) (acc:List Nat) (q:Nat),q<acc.length→(fO l acc).getD q 0=acc.getD q 0
 | [],acc,q,h=>rfl
 |o::l,acc,q,h=>by
  unfold fO;rw[wX l _ q (by simp;omega)];simp[cFk,bZq,h]
theorem xA: ∀(l:List Oper) (acc:List Nat) (i:Nat) (o:Oper) (j:Nat),l[i]?=some o→((fO l acc).getD (acc.length+i) 0).testBit j=true→
  ∃e∈o.after.toList,Region.binds .any e=true∧(e.on=j∨(e.on<acc.length+i∧((fO l acc).getD e.on 0).testBit j=true))
 | [],acc,i,o,j,h,_=>by simp at h
 |q::l,acc,0,o,j,h,hb=>by
  obtain rfl:q=o:=by simpa using h
  unfold fO at hb ⊢;rw[wX l _ _ b7] at hb;have:(acc++[aCx acc q.after.toList 0]).getD (acc.length+0) 0=aCx acc q.after.toList 0:=by simp[cFk]
  rw[this] at hb;rcases aGq acc j _ _ hb with h1|⟨e,he,h1,h2⟩
  ·simp at h1
  refine ⟨e,he,h1,h2.imp id fun h3=>?_⟩;have hlt:e.on<acc.length:=by
   rcases cBd e.on acc.length with h|h
   ·exact h
   simp[cFk,cAw h] at h3
  refine ⟨by omega,?_⟩;rw[wX l _ _ (by simp;omega)];simpa[cFk,bZq,hlt] using h3
 |q::l,acc,i+1,o,j,h,hb=>by
  unfold fO at hb ⊢;have:=xA l (acc++[aCx acc q.after.toList 0]) i o j (by simpa using h) (by simpa[cCa,bZj 1 i] using hb);simpa[cCa,bZj 1 i] using this
def looks (ops:List Oper) (o:Oper):List Nat:=(o.op.operands.toList.filterMap fun x=>match x with| .tmp t=>some t|_=>none)++(yY ops o).toList
def tN (ops:List Oper) (M:List Nat):Bool:=
 (List.range ops.length).all fun i=>match ops[i]? with
  |none=>true
  |some o=>(o.after.toList.all fun e=> !Region.binds .any e||decide (e.on<i))&&
   (List.range ops.length).all fun j=>j==i||match ops[j]? with
    |none=>true
    |some oj=>match oj.dst with
     |none=>true
     |some q=> !decide (o.dst=some q)&&(!(looks ops o).contains q||(M.getD i 0).testBit j||(M.getD j 0).testBit i)
def tG (h:Tr dS) (b:Nat):Nat→Tr dS
 |0=>h
 |k+1=>(tG h b k).set (b+k) none
def uA (h src:Tr dS) (b:Nat):Nat→Tr dS
 |0=>h
 |k+1=>(uA h src b k).set (b+k) (src.get (b+k))
theorem aAo (h:Tr dS) (b:Nat): ∀(k:Nat),b+k≤ub→ ∀c,(tG h b k).get c=if b≤c∧c<b+k then none else h.get c
 |0,_,c=>by rw[if_neg aN];rfl
 |k+1,hk,c=>by
  unfold tG;rw[Tr.get_set aN,aAo h b k aN];by_cases e:c=b+k
  ·rw[if_pos e,if_pos aN]
  rw[if_neg e];by_cases e2:b≤c∧c<b+k
  ·rw[if_pos e2,if_pos aN]
  rw[if_neg e2,if_neg aN]
theorem aDz (h src:Tr dS) (b:Nat): ∀(k:Nat),b+k≤ub→ ∀c,(uA h src b k).get c=if b≤c∧c<b+k then src.get c else h.get c
 |0,_,c=>by rw[if_neg aN];rfl
 |k+1,hk,c=>by
  unfold uA;rw[Tr.get_set aN,aDz h src b k aN];by_cases e:c=b+k
  ·rw[if_pos e,if_pos aN,e]
  rw[if_neg e];by_cases e2:b≤c∧c<b+k
  ·rw[if_pos e2,if_pos aN]
  rw[if_neg e2,if_neg aN]
def nL (mk:Nat):List (Nat×Nat×Nat)→Tr dS→Tr dS
 | [],h=>h
 |x::l,h=>bif mk.testBit x.1 then nL mk l h else nL mk l (tG h x.2.1 x.2.2)
def iA (mk:Nat):List (Nat×Nat×Nat)→Tr dS→Tr dS→Tr dS
 | [],_,h=>h
 |x::l,src,h=>bif mk.testBit x.1 then iA mk l src h else iA mk l src (uA h src x.2.1 x.2.2)
def Hid (mk:Nat) (l:List (Nat×Nat×Nat)) (c:Nat):Prop:= ∃x∈l,mk.testBit x.1=false∧x.2.1≤c∧c<x.2.1+x.2.2
theorem pC (mk:Nat): ∀(l:List (Nat×Nat×Nat)) (h:Tr dS),(∀x∈l,x.2.1+x.2.2≤ub)→ ∀c,(Hid mk l c→(nL mk l h).get c=none)∧(¬Hid mk l c→(nL mk l h).get c=h.get c)
 | [],h,_,c=>⟨fun ⟨x,hx,_⟩=>(by cases hx),fun _=>rfl⟩
 |x::l,h,hb,c=>by
  unfold nL;cases hm:mk.testBit x.1 with
  |true=>
   obtain ⟨i1,i2⟩:=pC mk l h (fun y hy=>hb y (by simp[hy])) c;have he:Hid mk (x::l) c↔Hid mk l c:=⟨fun ⟨y,hy,h1,h2⟩=>by
    rcases cDt.1 hy with rfl|hy
    ·rw[hm] at h1;cases h1
    exact ⟨y,hy,h1,h2⟩,fun ⟨y,hy,h1⟩=>⟨y,by simp[hy],h1⟩⟩
   exact ⟨fun q=>i1 (he.1 q),fun q=>i2 fun r=>q (he.2 r)⟩
  |false=>
   obtain ⟨i1,i2⟩:=pC mk l (tG h x.2.1 x.2.2) (fun y hy=>hb y (by simp[hy])) c;have hg:=aAo h x.2.1 x.2.2 (hb x b7) c;refine ⟨fun ⟨y,hy,h1,h2⟩=>?_,fun q=>?_⟩
   ·by_cases hl:Hid mk l c
    ·exact i1 hl
    rcases cDt.1 hy with rfl|hy
    ·show (nL mk l (tG h y.2.1 y.2.2)).get c=none;rw[i2 hl,hg,if_pos h2]
    exact absurd ⟨y,hy,h1,h2⟩ hl
   show (nL mk l (tG h x.2.1 x.2.2)).get c=h.get c;rw[i2 fun ⟨y,hy,r⟩=>q ⟨y,by simp[hy],r⟩,hg,if_neg fun r=>q ⟨x,by simp,hm,r⟩]
theorem lP (mk:Nat) (src:Tr dS): ∀(l:List (Nat×Nat×Nat)) (h:Tr dS),(∀x∈l,x.2.1+x.2.2≤ub)→ ∀c,(Hid mk l c→(iA mk l src h).get c=src.get c)∧(¬Hid mk l c→(iA mk l src h).get c=h.get c)
 | [],h,_,c=>⟨fun ⟨x,hx,_⟩=>(by cases hx),fun _=>rfl⟩
 |x::l,h,hb,c=>by
  unfold iA;cases hm:mk.testBit x.1 with
  |true=>
   obtain ⟨i1,i2⟩:=lP mk src l h (fun y hy=>hb y (by simp[hy])) c;have he:Hid mk (x::l) c↔Hid mk l c:=⟨fun ⟨y,hy,h1,h2⟩=>by
    rcases cDt.1 hy with rfl|hy
    ·rw[hm] at h1;cases h1
    exact ⟨y,hy,h1,h2⟩,fun ⟨y,hy,h1⟩=>⟨y,by simp[hy],h1⟩⟩
   exact ⟨fun q=>i1 (he.1 q),fun q=>i2 fun r=>q (he.2 r)⟩
  |false=>
   obtain ⟨i1,i2⟩:=lP mk src l (uA h src x.2.1 x.2.2) (fun y hy=>hb y (by simp[hy])) c;have hg:=aDz h src x.2.1 x.2.2 (hb x b7) c;refine ⟨fun ⟨y,hy,h1,h2⟩=>?_,fun q=>?_⟩
   ·by_cases hl:Hid mk l c
    ·exact i1 hl
    rcases cDt.1 hy with rfl|hy
    ·show (iA mk l src (uA h src y.2.1 y.2.2)).get c=src.get c;rw[i2 hl,hg,if_pos h2]
    exact absurd ⟨y,hy,h1,h2⟩ hl
   show (iA mk l src (uA h src x.2.1 x.2.2)).get c=h.get c;rw[i2 fun ⟨y,hy,r⟩=>q ⟨y,by simp[hy],r⟩,hg,if_neg fun r=>q ⟨x,by simp,hm,r⟩]
def xC (t:Tr RV) (op:Op):Option Nat:=
 match op with
 | .store _ ad _=>(match eN t ad with
  | .ptr b _=>some b
  |_=>none)
 | .call ⟨.builtin .append,args,_⟩=>(match args.toList with
  |x::_=>(match eN t x with
   | .sl b _ _ _ _ _=>some b
   |_=>none)
  |_=>none)
 | .next x _=>(match eN t x with
  | .ptr b _=>some b
  |_=>none)
 | .mapUpdate _ m _ _=>(match eN t m with
  | .mp b=>some b
  |_=>none)
 | .insert _ m _ _=>(match eN t m with
  | .mp b=>some b
  |_=>none)
 | .call ⟨.builtin .unsafeString,args,_⟩=>(match args.toList with
  |x::_=>(match eN t x with
   | .ptr b _=>some b
   |_=>none)
  |_=>none)
 | .call ⟨.builtin .copy,args,_⟩=>(match args.toList with
  |x::_=>(match eN t x with
   | .sl b _ _ _ _ _=>some b
   |_=>none)
  |_=>none)
 | .call ⟨.builtin .delete,args,_⟩=>(match args.toList with
  |x::_=>(match eN t x with
   | .mp b=>some b
   |_=>none)
  |_=>none)
 |_=>none
def wbF (HL:List (Nat×Nat)) (i n0 n:Nat) (t:Tr RV) (hm:Tr dS) (op:Op):Option Nat:=
 match xC t op with
 |some b=>bif (decide (n0≤b)||HL.contains (i,b))&&decide (b<n)&&(hm.get b).isSome then some b else none
 |none=>none
theorem bKz {HL:List (Nat×Nat)} {i n0 n:Nat} {t:Tr RV} {hm:Tr dS} {op:Op} {b:Nat} (h:wbF HL i n0 n t hm op=some b):xC t op=some b∧(n0≤b∨(i,b)∈HL)∧b<n∧hm.get b≠none:=by
 unfold wbF at h;split at h<;>try cases h
 rename_i b' hb;obtain ⟨h1,h2⟩:=bV h;subst h2;simp only[bZi,cEx,cFp,cFd] at h1;exact ⟨hb,h1.1.1,h1.1.2,fun e=>by rw[e] at h1;cases h1.2⟩
def bJx (cX:FuncId→Bool) (n0:Nat) (t:Tr RV) (op:Op):Bool:=
 match xC t op with
 |some b=>decide (b<n0)
 |none=>match op with
  | .call ⟨.value f,_,_⟩=>(match eN t f with
   | .fn g _ _=>cX g
   |_=>true)
  |_=>false
def s6 (ops:List Oper) (t:Tr RV) (o:Oper):Bool:=
 match o.guard with
 |none=>true
 |some (j,want)=>match gAt ops t j want with
  |some false=>false
  |_=>true
def nC (x:Nat×Nat×Nat) (b:Nat):Bool:=decide (x.2.1≤b)&&decide (b<x.2.1+x.2.2)
theorem iP {x:Nat×Nat×Nat} {b:Nat}:nC x b=true↔x.2.1≤b∧b<x.2.1+x.2.2:=by unfold nC;simp
def bVq (M:List Nat) (i:Nat) (info:List (Nat×Nat×Nat)):Option Nat→Bool
 |none=>true
 |some b=>info.all fun x=> !nC x b||((M.getD i 0).testBit x.1&&(List.range i).all fun p=>decide (p≤x.1)|| !(M.getD p 0).testBit x.1||(M.getD i 0).testBit p)
def aJn (i:Nat) (wb:Option Nat) (info:List (Nat×Nat×Nat)):List (Nat×Nat×Nat):=
 match wb with
 |none=>info
 |some b=>(i,b,1)::info
def bAw (lo n:Nat):Option Nat→Nat
 |none=>n
 |some _=>lo
def aNk (M:List Nat) (HL:List (Nat×Nat)) (i:Nat):List (Nat×Nat×Nat):=
 (HL.filter fun x=> !(x.1==i)&& !(M.getD i 0).testBit x.1&& !(M.getD x.1 0).testBit i).map fun x=>(0,x.2,1)
def Off (M:List Nat) (HL:List (Nat×Nat)) (i b:Nat):Prop:= ∃x∈HL,x.2=b∧x.1≠i∧(M.getD i 0).testBit x.1=false∧(M.getD x.1 0).testBit i=false
theorem vN {M:List Nat} {HL:List (Nat×Nat)} {i b:Nat}:Hid 0 (aNk M HL i) b↔Off M HL i b:=by
 unfold Hid aNk Off;constructor
 ·rintro ⟨x,hx,_,h2,h3⟩;rw[cAy] at hx;obtain ⟨y,hy,rfl⟩:=hx;rw[cFh] at hy;simp only[bZi,cAz,cCr] at hy;simp at h2 h3;exact ⟨y,hy.1,by omega,hy.2.1.1,hy.2.1.2,hy.2.2⟩
 rintro ⟨y,hy,rfl,h2,h3,h4⟩;refine ⟨(0,y.2,1),?_,by simp,cCq _,by simp⟩;rw[cAy];refine ⟨y,?_,rfl⟩;rw[cFh];simp only[bZi,cAz,cCr];exact ⟨hy,⟨h2,h3⟩,h4⟩
def msk (M:List Nat) (HL:List (Nat×Nat)) (i:Nat) (info:List (Nat×Nat×Nat)) (h:Tr dS):Tr dS:=nL 0 (aNk M HL i) (nL (M.getD i 0) info h)
def rst (M:List Nat) (HL:List (Nat×Nat)) (i:Nat) (info:List (Nat×Nat×Nat)) (h h':Tr dS):Tr dS:=iA 0 (aNk M HL i) h (iA (M.getD i 0) info h h')
def aEd (M:List Nat) (HL:List (Nat×Nat)) (i:Nat) (info:List (Nat×Nat×Nat)) (b:Nat):Prop:=Hid (M.getD i 0) info b∨Off M HL i b
theorem aRh {M:List Nat} {HL:List (Nat×Nat)} {i:Nat} (h: ∀x∈HL,x.2<ub): ∀x∈aNk M HL i,x.2.1+x.2.2≤ub:=fun x hx=>by
 unfold aNk at hx;rw[cAy] at hx;obtain ⟨y,hy,rfl⟩:=hx;exact h y (cFh.1 hy).1
theorem bEr (M:List Nat) (HL:List (Nat×Nat)) (i:Nat) (info:List (Nat×Nat×Nat)) (h:Tr dS) (h1: ∀x∈info,x.2.1+x.2.2≤ub) (h2: ∀x∈HL,x.2<ub) (b:Nat):
  (aEd M HL i info b→(msk M HL i info h).get b=none)∧(¬aEd M HL i info b→(msk M HL i info h).get b=h.get b):=by
 have q1:=pC (M.getD i 0) info h h1 b;have q2:=pC 0 (aNk M HL i) (nL (M.getD i 0) info h) (aRh h2) b;unfold msk aEd;by_cases e:Off M HL i b
 ·exact ⟨fun _=>q2.1 (vN.2 e),fun hn=>absurd (Or.inr e) hn⟩
 have q3:=q2.2 fun hh=>e (vN.1 hh);exact ⟨fun hh=>by rw[q3];exact q1.1 (hh.resolve_right e),fun hn=>by rw[q3];exact q1.2 fun hh=>hn (.inl hh)⟩
theorem bFc (M:List Nat) (HL:List (Nat×Nat)) (i:Nat) (info:List (Nat×Nat×Nat)) (h h':Tr dS) (h1: ∀x∈info,x.2.1+x.2.2≤ub) (h2: ∀x∈HL,x.2<ub) (b:Nat):
  (aEd M HL i info b→(rst M HL i info h h').get b=h.get b)∧(¬aEd M HL i info b→(rst M HL i info h h').get b=h'.get b):=by
 have q1:=lP (M.getD i 0) h info h' h1 b;have q2:=lP 0 h (aNk M HL i) (iA (M.getD i 0) info h h') (aRh h2) b;unfold rst aEd;by_cases e:Off M HL i b
 ·exact ⟨fun _=>q2.1 (vN.2 e),fun hn=>absurd (Or.inr e) hn⟩
 have q3:=q2.2 fun hh=>e (vN.1 hh);exact ⟨fun hh=>by rw[q3];exact q1.1 (hh.resolve_right e),fun hn=>by rw[q3];exact q1.2 fun hh=>hn (.inl hh)⟩
def phR (P:Program) (call:lG) (lo:Nat) (ops:List Oper) (M:List Nat) (HL:List (Nat×Nat)) (cX:FuncId→Bool) (n0:Nat):Nat→List Oper→List (Nat×Nat×Nat)→St→Option (Nat×St×List Oper)
 |i,[],_,s=>some (i,s,[])
 |i,o::l,info,⟨t,h,n⟩=>bif s6 ops t o&&bJx cX n0 t o.op&& !HL.any (fun x=>x.1==i) then some (i,⟨t,h,n⟩,o::l) else bif decide (n≤ub)&&bVq M i info (bif s6 ops t o then wbF HL i n0 n t (msk M HL i info h) o.op else none) then
   match evO P call (bAw lo n (bif s6 ops t o then wbF HL i n0 n t (msk M HL i info h) o.op else none)) ops t (msk M HL i info h) n o with
   |some (v,h',n')=>phR P call lo ops M HL cX n0 (i+1) l (aJn i (bif s6 ops t o then wbF HL i n0 n t (msk M HL i info h) o.op else none) (bif decide (n'=n) then info else (i,n,n'-n)::info)) ⟨pY t o.dst (v.getD .nov),rst M HL i info h h',n'⟩
   |none=>none
   else none
def aFq (M:List Nat) (k N:Nat):Bool:=(List.range k).all (fun j=>(M.getD k 0).testBit j)&&(List.range N).all fun j=>decide (j≤k)||(M.getD j 0).testBit k
def aBe (P:Program) (call:lG) (lo:Nat) (ops:List Oper) (M:List Nat) (cX:FuncId→Bool):Nat→Nat→List (Nat×Nat)→List Oper→St→Option St
 |0,_,_,_,_=>none
 |f+1,i,HL,l,s=>bif HL.all (fun x=>decide (lo≤x.2)&&decide (x.2<s.n))&&decide (s.n≤ub) then match phR P call lo ops M HL cX s.n i l [] s with
  |none=>none
  |some (_,s1,[])=>some s1
  |some (k,⟨t,h,n⟩,o::l')=>bif aFq M k ops.length then
    match evO P call lo ops t h n o with
    |some (v,h',n')=>aBe P call lo ops M cX f (k+1) [] l' ⟨pY t o.dst (v.getD .nov),h',n'⟩
    |none=>none
    else match xC t o.op with
    |some b=>aBe P call lo ops M cX f i ((k,b)::HL) l s
    |none=>none
  else none
structure Rc where
 o:Oper
 t:Tr RV
 hm:Tr dS
 h':Tr dS
 n:Nat
 n':Nat
 v:Option RV
 wb:Option Nat
def Nx (rcs:List Rc) (s':St) (p b:Nat) (v:Option dS):Prop:=
 (∃p' rc',rcs[p']?=some rc'∧p≤p'∧rc'.wb=some b∧(∀p2 rc2,rcs[p2]?=some rc2→p≤p2→p2<p'→rc2.wb≠some b)∧rc'.hm.get b=v)∨
 ((∀p2 rc2,rcs[p2]?=some rc2→p≤p2→rc2.wb≠some b)∧s'.h.get b=v)
theorem Nx.shift {rc:Rc} {rcs:List Rc} {s':St} {p b:Nat} {v:Option dS} (h:Nx rcs s' p b v):Nx (rc::rcs) s' (p+1) b v:=by
 rcases h with ⟨p',rc',h1,h2,h3,h4,h5⟩|⟨h1,h2⟩
 ·refine .inl ⟨p'+1,rc',by simpa using h1,by omega,h3,fun p2 rc2 hp2 hle hlt=>?_,h5⟩;obtain ⟨p3,rfl⟩: ∃p3,p2=p3+1:=⟨p2-1,by omega⟩;exact h4 p3 rc2 (by simpa using hp2) aN aN
 refine .inr ⟨fun p2 rc2 hp2 hle=>?_,h2⟩;obtain ⟨p3,rfl⟩: ∃p3,p2=p3+1:=⟨p2-1,by omega⟩;exact h1 p3 rc2 (by simpa using hp2) aN
theorem Nx.skip {rcs:List Rc} {s':St} {p b:Nat} {v:Option dS} (h:Nx rcs s' (p+1) b v) (hn: ∀rc,rcs[p]?=some rc→rc.wb≠some b):Nx rcs s' p b v:=by
 rcases h with ⟨p',rc',h1,h2,h3,h4,h5⟩|⟨h1,h2⟩
 ·refine .inl ⟨p',rc',h1,by omega,h3,fun p2 rc2 hp2 hle hlt=>?_,h5⟩;by_cases e:p2=p
  ·subst e;exact hn rc2 hp2
  exact h4 p2 rc2 hp2 aN hlt
 refine .inr ⟨fun p2 rc2 hp2 hle=>?_,h2⟩;by_cases e:p2=p
 ·subst e;exact hn rc2 hp2
 exact h1 p2 rc2 hp2 aN
theorem Nx.next {rcs:List Rc} {s':St} {p b:Nat} {v:Option dS} (h:Nx rcs s' p b v) (hn: ∀rc,rcs[p]?=some rc→rc.wb≠some b):Nx rcs s' (p+1) b v:=by
 rcases h with ⟨p',rc',h1,h2,h3,h4,h5⟩|⟨h1,h2⟩
 ·have:p'≠p:=fun e=>by subst e;exact hn rc' h1 h3
  exact .inl ⟨p',rc',h1,by omega,h3,fun p2 rc2 hp2 hle hlt=>h4 p2 rc2 hp2 aN hlt,h5⟩
 exact .inr ⟨fun p2 rc2 hp2 hle=>h1 p2 rc2 hp2 aN,h2⟩
structure bRm (P:Program) (lo:Nat) (ops:List Oper) (M:List Nat) (HL:List (Nat×Nat)) (n0:Nat) (info:List (Nat×Nat×Nat)) (i:Nat) (s s':St) (rcs:List Rc) (p:Nat) (rc:Rc):Prop where
 n1:s.n≤rc.n
 n2:rc.n≤rc.n'
 n3:rc.n'≤s'.n
 nx: ∀p' rc',rcs[p']?=some rc'→p<p'→rc.n'≤rc'.n
 ok: ∃l,lo≤l∧l≤rc.n∧GOk P l ops rc.t rc.hm rc.n rc.o (rc.v,rc.h',rc.n')
 low: ∀b,b<rc.n→rc.hm.get b≠none→Nx rcs s' p b (rc.hm.get b)
 hi: ∀b,rc.n≤b→rc.hm.get b≠none→rc.hm.get b=s.h.get b
 new: ∀b,rc.n≤b→b<rc.n'→Nx rcs s' (p+1) b (rc.h'.get b)
 wr: ∀b,rc.wb=some b→Nx rcs s' (p+1) b (rc.h'.get b)
 wv: ∀b,rc.wb=some b→(n0≤b∨(i+p,b)∈HL)∧b<rc.n∧rc.hm.get b≠none
 st: ∀b,b<rc.n→rc.wb≠some b→rc.h'.get b=rc.hm.get b
 hid: ∀b,Hid (M.getD (i+p) 0) info b→rc.hm.get b=none
 hid': ∀p' rc',rcs[p']?=some rc'→p'<p→(M.getD (i+p) 0).testBit (i+p')=false→ ∀b,(rc'.n≤b∧b<rc'.n')∨rc'.wb=some b→rc.hm.get b=none
 see: ∀p' rc' b,rcs[p']?=some rc'→p<p'→rc'.wb=some b→(b<rc.n∧rc.hm.get b≠none)∨(rc.n≤b∧b<rc.n')→(M.getD (i+p') 0).testBit (i+p)=true
 kk: ∀b,rc.wb=some b→ ∀x∈info,nC x b=true→(M.getD (i+p) 0).testBit x.1=true∧ ∀q,x.1<q→q<i+p→(M.getD q 0).testBit x.1=true→(M.getD (i+p) 0).testBit q=true
 cov: ∀b,n0≤b→b<rc.n→(∃x∈info,nC x b=true)∨ ∃p' rc',rcs[p']?=some rc'∧p'<p∧rc'.n≤b∧b<rc'.n'
 t0: ∀q,(∀p' rc',rcs[p']?=some rc'→p'<p→rc'.o.dst≠some q)→rc.t.get q=s.t.get q
 t1: ∀q p' rc',rcs[p']?=some rc'→p'<p→rc'.o.dst=some q→(∀p2 rc2,rcs[p2]?=some rc2→p2≠p'→rc2.o.dst≠some q)→rc.t.get q=s'.t.get q
 dst: ∀q,rc.o.dst=some q→(∀p2 rc2,rcs[p2]?=some rc2→p2≠p→rc2.o.dst≠some q)→s'.t.get q=some (rc.v.getD .nov)
section
variable {P:Program} {nt lo:Nat} {call:lG}
theorem aBa {t:Tr RV} {dst:Option Nat} {v:RV} (hd: ∀d,dst=some d→d<ub) (q:Nat):(pY t dst v).get q=if dst=some q then some v else t.get q:=by
 cases dst with
 |none=>simp[pY]
 |some d=>
  simp only[pY,Tr.get_set (hd d rfl)];by_cases e:q=d
  ·subst e;simp
  rw[if_neg e,if_neg (fun h=>e (bZr h).symm)]
theorem aSr {h:Tr dS} {n:Nat} {ty:TypeId} {k x:RV} {r:Mv} {b:Nat} (hr:aUh P lo h n ty (.mp b) k x=some r) (hub:n≤ub): ∀c,c≠b→r.2.1.get c=h.get c:=by
 unfold aUh at hr;split at hr<;>try cases hr
 rename_i b' kv hu hm hk;cases hm;split at hr<;>try cases hr
 obtain ⟨hc,hr⟩:=bY hr;simp only[bZi,cFp] at hc;intro c hcb;split at hr<;>cases hr
 all_goals
  show (h.set b _).get c=h.get c;rw[Tr.get_set hc.2,if_neg hcb]
theorem bGa {h:Tr dS} {n:Nat} {ty:TypeId} {k:RV} {r:Mv} {b:Nat} (hr:bDp P lo h n ty (.mp b) k=some r) (hub:n≤ub): ∀c,c≠b→r.2.1.get c=h.get c:=by
 unfold bDp at hr;split at hr<;>try cases hr
 rename_i b' kv hu hm hk;cases hm;split at hr<;>try cases hr
 obtain ⟨hc,hr⟩:=bY hr;simp only[bZi,cFp] at hc;intro c hcb;split at hr<;>cases hr
 all_goals
  show (h.set b _).get c=h.get c;rw[Tr.get_set hc.2,if_neg hcb]
theorem bTg {t:Tr RV} {h:Tr dS} {n:Nat} {op:Op} {r:Mv} {b:Nat} (hr:tU P lo t h n op=some r) (hb:xC t op=some b) (hbn:b<n) (hub:n≤ub): ∀c,c<n→c≠b→r.2.1.get c=h.get c:=by
 cases op with
 |store ty ad x=>
  simp only[tU] at hr;simp only[xC] at hb;split at hr<;>try cases hr
  rename_i s b' off vs e1 e2 e3;rw[e2] at hb;obtain rfl:b'=b:=bZr hb;split at hr<;>try cases hr
  obtain ⟨h1,rfl⟩:=bV hr;intro c hc hcb;show (h.set b' _).get c=h.get c;rw[Tr.get_set aN,if_neg hcb]
 |call c=>
  obtain ⟨cl,args,ts⟩:=c;cases cl with
  |builtin bi=>
   cases bi with
   |append=>
    simp only[tU] at hr;simp only[xC] at hb;split at hr<;>try cases hr
    rename_i x y t1 t2 hargs hts;rw[hargs] at hb;simp only at hb;split at hb<;>try cases hb
    rename_i off len z cap full hx;rw[hx] at hr;unfold aEq at hr;split at hr<;>try cases hr
    split at hr<;>try cases hr
    have hck:=(bY hr).1;simp only[bZi,cFp] at hck;replace hr:=(bY hr).2;simp only at hr;replace hr:=(bY hr).2;intro c hc hcb;split at hr<;>try cases hr
    ·rfl
    split at hr<;>try cases hr
    replace hr:=(bY hr).2;split at hr
    ·generalize hq:decide (len+(_+1)≤_)=q at hr;cases q with
     |true=>
      obtain ⟨_,rfl⟩:=bV hr;show (h.set b _).get c=h.get c;rw[Tr.get_set aN,if_neg hcb]
     |false=>
      obtain rfl:=bZr hr;show (h.set n _).get c=h.get c;rw[Tr.get_set aN,if_neg aN]
    obtain ⟨_,rfl⟩:=bV hr;show ((h.set b none).set n _).get c=h.get c;rw[Tr.get_set aN,if_neg aN,Tr.get_set aN,if_neg hcb]
   |delete=>
    simp only[tU] at hr;simp only[xC] at hb;split at hr<;>try cases hr
    rename_i m k t1 tl hargs hts;rw[hargs] at hb;simp only at hb;split at hb<;>try cases hb
    rename_i hx;rw[hx] at hr;exact fun c _ hcb=>bGa hr hub c hcb
   |_=>first|(cases hb;done)|(cases hr;done)
  |_=>cases hb
 |next x st=>
  cases st with
  |false=>cases hr
  |true=>
   simp only[tU] at hr;simp only[xC] at hb;split at hr<;>try cases hr
   rename_i b' hx;rw[hx] at hb;cases hb;split at hr<;>try cases hr
   rename_i s pos hb2;obtain ⟨hc,hr⟩:=bY hr;simp only[bZi,cFp] at hc;intro c _ hcb;cases hp:decide (pos<s.size) with
   |true=>
    rw[hp] at hr;obtain rfl:=bZr hr;show (h.set b _).get c=h.get c;rw[Tr.get_set hc.2,if_neg hcb]
   |false=>
    rw[hp] at hr;obtain rfl:=bZr hr;rfl
 |mapUpdate ty m k x=>
  simp only[tU] at hr;simp only[xC] at hb;split at hb<;>try cases hb
  rename_i hx;rw[hx] at hr;exact fun c _ hcb=>aSr hr hub c hcb
 |insert ty m k x=>
  simp only[tU] at hr;simp only[xC] at hb;split at hb<;>try cases hb
  rename_i hx;rw[hx] at hr;exact fun c _ hcb=>aSr hr hub c hcb
 |_=>cases hb
theorem bNs {ops:List Oper} {t:Tr RV} {h:Tr dS} {n:Nat} {o:Oper} {r:Mv} {b:Nat} (hr:evO P call lo ops t h n o=some r) (hrun:s6 ops t o=true) (hb:xC t o.op=some b) (hbn:b<n) (hub:n≤ub): ∀c,c<n→c≠b→r.2.1.get c=h.get c:=by
 have key:aTy P call lo t h n o.op=some r→ ∀c,c<n→c≠b→r.2.1.get c=h.get c:=fun hr=>by
  have hmx:tU P lo t h n o.op=some r:=by
   cases hop:o.op with
   |store ty ad x=>rw[hop] at hr;exact hr
   |next x st=>rw[hop] at hr;exact hr
   |mapUpdate ty m k x=>rw[hop] at hr;exact hr
   |insert ty m k x=>rw[hop] at hr;exact hr
   |call c=>
    obtain ⟨cl,args,ts⟩:=c;rw[hop] at hr hb;cases cl with
    |builtin bi=>
     cases bi<;>first|(cases hb;done)|exact hr
    |_=>cases hb
   |_=>rw[hop] at hb;cases hb
  exact bTg (P:=P) (lo:=lo) hmx hb hbn hub
 unfold evO at hr;unfold s6 at hrun;split at hr
 ·exact key hr
 rename_i j want hg;rw[hg] at hrun;simp only at hrun;split at hr
 ·exact key hr
 ·rename_i hgt;rw[hgt] at hrun;cases hrun
 cases hr
theorem bCk (hc:eO P call) {ops:List Oper} {M:List Nat} {HL:List (Nat×Nat)} {cX:FuncId→Bool} {n0:Nat} (hbits: ∀i j,(M.getD i 0).testBit j=true→j<i) (hHL: ∀x∈HL,x.2<n0) (hln:lo≤n0) (hnub:n0≤ub): ∀(l:List Oper) (i:Nat) (info:List (Nat×Nat×Nat)) (s:St) (i':Nat) (s':St) (rest:List Oper),phR P call lo ops M HL cX n0 i l info s=some (i',s',rest)→
  (∀x∈info,x.2.1+x.2.2≤s.n)→(∀x∈info,x.1<i)→(∀b,n0≤b→b<s.n→ ∃x∈info,nC x b=true)→n0≤s.n→(∀o∈l,∀d,o.dst=some d→d<ub)→
  ∃rcs:List Rc,l=rcs.map (·.o)++rest∧i'=i+rcs.length∧(s.n≤s'.n∧ ∀b,(b<n0∧ ∀x∈HL,x.2≠b)∨s'.n≤b→s'.h.get b=s.h.get b)∧(∀q,(∀rc∈rcs,rc.o.dst≠some q)→s'.t.get q=s.t.get q)∧
   (∀b,n0≤b→(∀x∈info,nC x b=false)→(∀rc∈rcs,¬(rc.n≤b∧b<rc.n'))→s'.h.get b=s.h.get b)∧(∀b,b<s.n→Nx rcs s' 0 b (s.h.get b))∧
   ∀p rc,rcs[p]?=some rc→bRm P lo ops M HL n0 info i s s' rcs p rc
 | [],i,info,s,i',s',rest,h,_,_,_,_,_=>by
  unfold phR at h;cases h;exact ⟨[],rfl,rfl,⟨cCq _,fun _ _=>rfl⟩,fun _ _=>rfl,fun _ _ _ _=>rfl,fun b _=>.inr ⟨fun p2 rc2 h=>by simp at h,rfl⟩,fun p rc hp=>by simp at hp⟩
 |o::l,i,info,⟨t,h,n⟩,i',s',rest,hr,hinfo,hidx,hcov,hn0,hdu=>by
  unfold phR at hr;cases he:s6 ops t o&&bJx cX n0 t o.op&& !HL.any (fun x=>x.1==i) with
  |true=>
   rw[he] at hr;cases hr;exact ⟨[],rfl,rfl,⟨cCq _,fun _ _=>rfl⟩,fun _ _=>rfl,fun _ _ _ _=>rfl,fun b _=>.inr ⟨fun p2 rc2 h=>by simp at h,rfl⟩,fun p rc hp=>by simp at hp⟩
  |false=>
   rw[he] at hr;simp only[cDq] at hr;have hub:=(bY hr).1;replace hr:=(bY hr).2;simp only[bZi,cFp] at hub;obtain ⟨hub,hwok⟩:=hub;have hn0:n0≤n:=hn0;have hinfo: ∀x∈info,x.2.1+x.2.2≤n:=hinfo;have hcov: ∀b,n0≤b→b<n→ ∃x∈info,nC x b=true:=hcov;have hwb: ∀b,(bif s6 ops t o then wbF HL i n0 n t (msk M HL i info h) o.op else none)=some b→s6 ops t o=true∧xC t o.op=some b∧(n0≤b∨(i,b)∈HL)∧b<n∧(msk M HL i info h).get b≠none:=fun b hb=>by
    obtain ⟨h1,h2⟩:=bY hb;obtain ⟨h3,h4,h5,h6⟩:=bKz h2;exact ⟨h1,h3,h4,h5,h6⟩
   generalize (bif s6 ops t o then wbF HL i n0 n t (msk M HL i info h) o.op else none)=wb at*;split at hr<;>try cases hr
   rename_i v h' n' hv;have hlo1:lo≤bAw lo n wb∧bAw lo n wb≤n:=by cases wb<;>simp[bAw]<;>omega
   have hg:=aIy hc hlo1.2 hv;obtain ⟨k1,k2⟩:=hg.1;have k1:n≤n':=k1;have k2: ∀b,b<bAw lo n wb∨n'≤b→h'.get b=(msk M HL i info h).get b:=k2;have hst: ∀b,b<n→wb≠some b→h'.get b=(msk M HL i info h).get b:=fun b hb hne=>by
    cases hwbv:wb with
    |none=>rw[hwbv] at k2;exact k2 b (.inl hb)
    |some c=>
     obtain ⟨q1,q2,q3,q4,q5⟩:=hwb c hwbv;exact bNs hv q1 q2 q4 hub b hb fun e=>hne (by rw[hwbv,e])
   have hHu: ∀x∈HL,x.2<ub:=fun x hx=>by have:=hHL x hx;omega
   have hmk:=bEr M HL i info h (fun x hx=>cBc (hinfo x hx) hub) hHu;have hrs:=bFc M HL i info h h' (fun x hx=>cBc (hinfo x hx) hub) hHu;have hidlt: ∀b,aEd M HL i info b→b<n:=fun b hb=>by
    rcases hb with ⟨x,hx,_,_,h3⟩|⟨x,hx,rfl,_⟩
    ·have:=hinfo x hx;omega
    have:=hHL x hx;omega
   have hwn: ∀b,wb=some b→ ¬aEd M HL i info b:=fun b hb hh=>(hwb b hb).2.2.2.2 ((hmk b).1 hh);have hnext1: ∀b,wb=some b∨(n≤b∧b<n')→(rst M HL i info h h').get b=h'.get b:=fun b hb=>by
    refine (hrs b).2 fun hh=>?_;rcases hb with hb|hb
    ·exact hwn b hb hh
    have:=hidlt b hh;omega
   have hnext0: ∀b,wb≠some b→ ¬(n≤b∧b<n')→(rst M HL i info h h').get b=h.get b:=fun b hb1 hb2=>by
    by_cases hh:aEd M HL i info b
    ·exact (hrs b).1 hh
    rw[(hrs b).2 hh];rcases cBd b n with h3|h3
    ·rw[hst b h3 hb1,(hmk b).2 hh]
    rw[k2 b (.inr aN),(hmk b).2 hh]
   have hsub0: ∀x∈info,x∈aJn i wb (bif decide (n'=n) then info else (i,n,n'-n)::info):=fun x hx=>by
    have:x∈(bif decide (n'=n) then info else (i,n,n'-n)::info):=by
     cases decide (n'=n) with
     |true=>exact hx
     |false=>exact cAi _ hx
    cases wb with
    |none=>exact this
    |some b=>exact cAi _ this
   have hnewin:n<n'→(i,n,n'-n)∈aJn i wb (bif decide (n'=n) then info else (i,n,n'-n)::info):=fun hlt=>by
    rw[cFs (show ¬n'=n by omega)];cases wb with
    |none=>exact cAv
    |some b=>exact cAi _ cAv
   have hcases: ∀x∈aJn i wb (bif decide (n'=n) then info else (i,n,n'-n)::info),x∈info∨(x=(i,n,n'-n)∧n<n')∨ ∃b,wb=some b∧x=(i,b,1):=fun x hx=>by
    have key:x∈(bif decide (n'=n) then info else (i,n,n'-n)::info)→x∈info∨(x=(i,n,n'-n)∧n<n'):=fun hx=>by
     cases hd:decide (n'=n) with
     |true=>rw[hd] at hx;exact .inl hx
     |false=>
      rw[hd] at hx;have:=cFx hd;rcases cDt.1 hx with rfl|hx
      ·exact .inr ⟨rfl,by omega⟩
      exact .inl hx
    cases hwbv:wb with
    |none=>rw[hwbv] at hx;exact (key hx).imp id fun q=>.inl q
    |some b=>
     rw[hwbv] at hx;rcases cDt.1 hx with rfl|hx
     ·exact .inr (.inr ⟨b,rfl,rfl⟩)
     exact (key hx).imp id fun q=>.inl q
   obtain ⟨rcs,j1,j2,j3,j4,j6,j7,j5⟩:=bCk hc hbits hHL hln hnub l (i+1) _ _ i' s' rest hr (fun x hx=>by
     rcases hcases x hx with hx|⟨rfl,_⟩|⟨b,hb,rfl⟩
     ·have:=hinfo x hx;show x.2.1+x.2.2≤n';omega
     ·show n+(n'-n)≤n';omega
     have:=(hwb b hb).2.2.2.1;show b+1≤n';omega)
    (fun x hx=>by
     rcases hcases x hx with hx|⟨rfl,_⟩|⟨b,hb,rfl⟩
     ·have:=hidx x hx;omega
     ·show i<i+1;omega
     show i<i+1;omega)
    (fun b hb1 hb2=>by
     have hb2:b<n':=hb2;rcases cBd b n with h3|h3
     ·obtain ⟨x,hx,hc⟩:=hcov b hb1 h3;exact ⟨x,hsub0 x hx,hc⟩
     exact ⟨_,hnewin aN,iP.2 ⟨h3,by show b<n+(n'-n);omega⟩⟩)
    (cBc hn0 k1) fun o' ho'=>hdu o' (by simp[ho'])
   have hdo:=hdu o b7;obtain ⟨j3a,j3b⟩:=j3;have j3a:n'≤s'.n:=j3a;have j3b: ∀b,(b<n0∧ ∀x∈HL,x.2≠b)∨s'.n≤b→s'.h.get b=(rst M HL i info h h').get b:=j3b;have j7: ∀b,b<n'→Nx rcs s' 0 b ((rst M HL i info h h').get b):=j7;have hwlt: ∀b,wb=some b→(n0≤b∨(i,b)∈HL)∧b<n:=fun b hb=>⟨(hwb b hb).2.2.1,(hwb b hb).2.2.2.1⟩;have hpersist: ∀b,b<n→Nx (⟨o,t,msk M HL i info h,h',n,n',v,wb⟩::rcs) s' 0 b (h.get b):=fun b hb=>by
    by_cases e:wb=some b
    ·refine .inl ⟨0,_,rfl,cCq _,e,fun p2 rc2 _ _ hlt=>absurd hlt (cBg _),?_⟩;exact (hmk b).2 (hwn b e)
    have:=j7 b aN;rw[hnext0 b e aN] at this;exact this.shift.skip fun rc hrc=>by simp at hrc;subst hrc;exact e
   refine ⟨⟨o,t,msk M HL i info h,h',n,n',v,wb⟩::rcs,by rw[j1];rfl,by rw[j2];simp;omega,⟨cBc k1 j3a,fun b hb=>?_⟩,fun q hq=>?_,fun b hb1 hb2 hb3=>?_,hpersist,fun p rc hp=>?_⟩
   ·rw[j3b b hb,hnext0 b (fun e=>by
     obtain ⟨q1,q2⟩:=hwlt b e;rcases hb with ⟨q3,q4⟩|q3
     ·rcases q1 with q1|q1
      ·omega
      exact q4 _ q1 rfl
     ·have q3:s'.n≤b:=q3;omega) (by
     rcases hb with ⟨q3,q4⟩|q3
     ·omega
     have q3:s'.n≤b:=q3;omega)]
   ·rw[j4 q fun rc hrc=>hq rc (by simp[hrc])];show (pY t o.dst (v.getD .nov)).get q=t.get q;have hne:o.dst≠some q:=hq _ cAv;rw[aBa hdo,if_neg hne]
   ·have hne: ¬(n≤b∧b<n'):=hb3 _ cAv;have hnw:wb≠some b:=fun e=>by
     obtain ⟨x,hx,hc⟩:=hcov b hb1 (hwlt b e).2;rw[hb2 x hx] at hc;cases hc
    rw[j6 b hb1 (fun x hx=>?_) fun rc hrc=>hb3 rc (by simp[hrc])]
    ·show (rst M HL i info h h').get b=h.get b;exact hnext0 b hnw hne
    rcases hcases x hx with hx|⟨rfl,_⟩|⟨b',hb',rfl⟩
    ·exact hb2 x hx
    ·cases hc:nC (i,n,n'-n) b with
     |false=>rfl
     |true=>have:=iP.1 hc;exact absurd ⟨this.1,by have:=this.2;show b<n';simp at this;omega⟩ hne
    cases hc:nC (i,b',1) b with
    |false=>rfl
    |true=>have:=iP.1 hc;simp at this;exact absurd (by rw[hb'];congr 1;omega) hnw
   cases p with
   |zero=>
    simp at hp;subst hp;refine ⟨cCq _,k1,j3a,fun p' rc' hp' hlt=>?_,⟨_,hlo1.1,hlo1.2,hg⟩,fun b hb hn=>?_,fun b hb hn=>?_,fun b hb1 hb2=>?_,fun b hb=>?_,fun b hb=>⟨by simpa using (hwlt b hb).1,(hwlt b hb).2,(hwb b hb).2.2.2.2⟩,hst,fun b hb=>(hmk b).1 (.inl (by simpa using hb)),fun p' rc' _ hlt=>absurd hlt (cBg _),fun p' rc' b hp' hlt hw' hv'=>?_,fun b hb x hx hcx=>?_,fun b hb1 hb2=>.inl (hcov b hb1 hb2),fun q _=>rfl,fun q p' rc' _ hlt=>absurd hlt (cBg _),fun q hq hu=>?_⟩
    ·obtain ⟨p2,rfl⟩: ∃p2,p'=p2+1:=⟨p'-1,by omega⟩;exact (j5 p2 rc' (by simpa using hp')).n1
    ·have hnh: ¬aEd M HL i info b:=fun q=>hn ((hmk b).1 q);show Nx _ s' 0 b ((msk M HL i info h).get b);rw[(hmk b).2 hnh];exact hpersist b hb
    ·have hnh: ¬aEd M HL i info b:=fun q=>hn ((hmk b).1 q);show (msk M HL i info h).get b=_;rw[(hmk b).2 hnh]
    ·have:=j7 b hb2;rw[hnext1 b (.inr ⟨hb1,hb2⟩)] at this;exact this.shift
    ·have hb:wb=some b:=hb;have:=j7 b (by have:=hwlt b hb;omega);rw[hnext1 b (.inl hb)] at this;exact this.shift
    ·obtain ⟨p2,rfl⟩: ∃p2,p'=p2+1:=⟨p'-1,by omega⟩;have R:=j5 p2 rc' (by simpa using hp');rw[show i+(p2+1)=i+1+p2 by omega,cAh];rcases hv' with ⟨h1,h2⟩|⟨h1,h2⟩
     ·have h1:b<n:=h1;have h2:(msk M HL i info h).get b≠none:=h2;rcases cBd b n0 with h0|h0
      ·have hm:(i+1+p2,b)∈HL:=by
        rcases (R.wv b hw').1 with h3|h3
        ·omega
        exact h3
       cases hq:(M.getD (i+1+p2) 0).testBit i with
       |true=>rfl
       |false=>
        refine absurd ((hmk b).1 (.inr ⟨_,hm,rfl,by show i+1+p2≠i;omega,?_,hq⟩)) h2;cases hq2:(M.getD i 0).testBit (i+1+p2) with
        |false=>rfl
        |true=>have:=hbits _ _ hq2;omega
      obtain ⟨x,hx,hcx⟩:=hcov b h0 h1;have hbit:(M.getD i 0).testBit x.1=true:=by
       cases hq:(M.getD i 0).testBit x.1 with
       |true=>rfl
       |false=>exact absurd ((hmk b).1 (.inl ⟨x,hx,hq,iP.1 hcx⟩)) h2
      exact (R.kk b hw' x (hsub0 x hx) hcx).2 i (hidx x hx) aN hbit
     have h1:n≤b:=h1;have h2:b<n':=h2;exact (R.kk b hw' _ (hnewin aN) (iP.2 ⟨h1,by show b<n+(n'-n);omega⟩)).1
    ·have hb:wb=some b:=hb;rw[hb] at hwok;unfold bVq at hwok;simp only[cCk,cEx,cAz,bZi,cCc,cFp] at hwok;rcases hwok x hx with h1|⟨h1,h2⟩
     ·rw[hcx] at h1;cases h1
     refine ⟨h1,fun q hq1 hq2 hq3=>?_⟩;rcases h2 q hq2 with (h3|h3)|h3
     ·omega
     ·rw[hq3] at h3;cases h3
     exact h3
    rw[j4 q fun rc hrc=>?_]
    ·show (pY t o.dst (v.getD .nov)).get q=_;rw[aBa hdo,if_pos hq]
    obtain ⟨p2,hp2⟩:=cAe hrc;exact hu (p2+1) rc (by simpa using hp2) aN
   |succ p=>
    have hp:rcs[p]?=some rc:=by simpa using hp
    have R:=j5 p rc hp;have hip:i+1+p=i+(p+1):=by omega
    have rn1:n'≤rc.n:=R.n1;refine ⟨cBc k1 R.n1,R.n2,R.n3,fun p' rc' hp' hlt=>?_,R.ok,fun b hb hn=>(R.low b hb hn).shift,fun b hb hn=>?_,fun b hb1 hb2=>(R.new b hb1 hb2).shift,fun b hb=>(R.wr b hb).shift,fun b hb=>by have:=R.wv b hb;rwa [hip] at this,R.st,fun b hb=>?_,fun p' rc' hp' hlt hbit b hb=>?_,fun p' rc' b hp' hlt hw' hv'=>?_,fun b hb x hx hcx=>?_,fun b hb1 hb2=>?_,fun q hq=>?_,fun q p' rc' hp' hlt hd hu=>?_,fun q hq hu=>?_⟩
    ·obtain ⟨p2,rfl⟩: ∃p2,p'=p2+1:=⟨p'-1,by omega⟩;exact R.nx p2 rc' (by simpa using hp') aN
    ·have:=R.hi b hb hn;rw[this];show (rst M HL i info h h').get b=h.get b;exact hnext0 b (fun e=>by have:=(hwlt b e).2;omega) aN
    ·refine R.hid b ?_;rw[hip];obtain ⟨x,hx,q1⟩:=hb;exact ⟨x,hsub0 x hx,q1⟩
    ·cases p' with
     |zero=>
      simp at hp';subst hp';refine R.hid b ?_;rw[hip];rcases hb with ⟨hb1,hb2⟩|hb
      ·have hb1:n≤b:=hb1;have hb2:b<n':=hb2;exact ⟨_,hnewin aN,by simpa using hbit,hb1,by show b<n+(n'-n);omega⟩
      have hb:wb=some b:=hb;refine ⟨(i,b,1),?_,by simpa using hbit,cCq _,by show b<b+1;omega⟩;rw[hb];exact cAv
     |succ p'=>exact R.hid' p' rc' (by simpa using hp') aN (by rw[hip,show i+1+p'=i+(p'+1) by omega];exact hbit) b hb
    ·obtain ⟨p2,rfl⟩: ∃p2,p'=p2+1:=⟨p'-1,by omega⟩;have:=R.see p2 rc' b (by simpa using hp') aN hw' hv'
     rwa [hip,show i+1+p2=i+(p2+1) by omega] at this
    ·have:=R.kk b hb x (hsub0 x hx) hcx
     rwa [hip] at this
    ·rcases R.cov b hb1 hb2 with ⟨x,hx,hcx⟩|⟨p',rc',h1,h2,h3⟩
     ·rcases hcases x hx with hx|⟨rfl,_⟩|⟨b',hb',rfl⟩
      ·exact .inl ⟨x,hx,hcx⟩
      ·have:=iP.1 hcx;exact .inr ⟨0,_,rfl,by omega,this.1,by have:=this.2;show b<n';simp at this;omega⟩
      have:=iP.1 hcx;simp at this;obtain rfl:b=b':=by omega
      exact .inl (hcov b hb1 (hwlt b hb').2)
     exact .inr ⟨p'+1,rc',by simpa using h1,by omega,h3⟩
    ·have h1:=R.t0 q fun p' rc' hp' hlt=>hq (p'+1) rc' (by simpa using hp') aN;rw[h1];show (pY t o.dst (v.getD .nov)).get q=t.get q;have hne:o.dst≠some q:=hq 0 _ rfl aN;rw[aBa hdo,if_neg hne]
    ·cases p' with
     |zero=>
      simp at hp';subst hp';have hd:o.dst=some q:=hd;have hne: ∀(p2:Nat) (rc2:Rc),rcs[p2]?=some rc2→rc2.o.dst≠some q:=fun p2 rc2 h2=>hu (p2+1) rc2 (by simpa using h2) aN;rw[R.t0 q fun p2 rc2 h2 _=>hne p2 rc2 h2,j4 q fun rc2 hrc2=>?_];obtain ⟨p2,hp2⟩:=cAe hrc2;exact hne p2 rc2 hp2
     |succ p'=>exact R.t1 q p' rc' (by simpa using hp') aN hd fun p2 rc2 h2 hne=>hu (p2+1) rc2 (by simpa using h2) aN
    exact R.dst q hq fun p2 rc2 h2 hne=>hu (p2+1) rc2 (by simpa using h2) aN
end
end
end Go.Rv
namespace Go.Rv
open Go.RowKit Go.Sg
noncomputable section
theorem mZ {ops:List Oper} {M:List Nat} (h:tN ops M=true) {i:Nat} {o:Oper} (hi:ops[i]?=some o):(∀e∈o.after.toList,Region.binds .any e=true→e.on<i)∧
  ∀j oj q,ops[j]?=some oj→j≠i→oj.dst=some q→o.dst≠some q∧(q∈looks ops o→(M.getD i 0).testBit j=true∨(M.getD j 0).testBit i=true):=by
 have hlt: ∀{j:Nat} {oj:Oper},ops[j]?=some oj→j<ops.length:=fun {j oj} hj=>by
  rcases cBd j ops.length with h|h
  ·exact h
  rw[cAw h] at hj;cases hj
 unfold tN at h;rw[cCk] at h;have h1:=h i (cCc.2 (hlt hi));simp only[hi,bZi,cCk,cEx,cAz,cFp,cCc,cCe] at h1;refine ⟨fun e he hb=>?_,fun j oj q hj hne hd=>?_⟩
 ·rcases h1.1 e he with h2|h2
  ·rw[hb] at h2;cases h2
  exact h2
 rcases h1.2 j (hlt hj) with h2|h2
 ·exact absurd h2 hne
 simp only[hj,hd,bZi,cAz,cFu,cEx] at h2;refine ⟨h2.1,fun hq=>?_⟩;rcases h2.2 with (h3|h3)|h3
 ·rw[cFd.2 hq] at h3;cases h3
 ·exact .inl h3
 exact .inr h3
section
variable {ops:List Oper}
theorem kE {listed:Array Bool} {j:Nat} (hj:j<listed.size):listed.getD j true=listed.getD j false:=by simp[cBt,hj]
def Cl (ops:List Oper) (listed:Array Bool):Prop:= ∀i,i<ops.length→listed.getD i false=true→ ∀j,((fO ops []).getD i 0).testBit j=true→listed.getD j false=true
theorem aDj {listed:Array Bool} (hc:Cl ops listed) {i:Nat} (hi:i∈Region.ready .any ops.toArray listed): ∀j,((fO ops []).getD i 0).testBit j=true→listed.getD j false=true:=fun j hb=>by
 obtain ⟨_,o,ho,hall⟩:=mem_ready.1 hi;have ho:ops[i]?=some o:=by simpa using ho
 have hlt:i<ops.length:=by
  rcases cBd i ops.length with h|h
  ·exact h
  rw[cAw h] at ho;cases ho
 obtain ⟨e,he,hbd,h1⟩:=xA ops [] i o j ho (by simpa using hb);have hl:=hall e (by simpa using he) hbd;rcases h1 with rfl|⟨h2,h3⟩
 ·exact hl
 exact hc e.on (by simp at h2;omega) hl j h3
theorem Cl.set {listed:Array Bool} (hc:Cl ops listed) {i:Nat} (hi:i∈Region.ready .any ops.toArray listed):Cl ops (listed.setIfInBounds i true):=fun k hk hl j hb=>by
 by_cases e:k=i
 ·subst e;exact getD_set_true (aDj hc hi j hb)
 have:(listed.setIfInBounds i true).getD k false=listed.getD k false:=getD_set_ne false (bZv e);rw[this] at hl;exact getD_set_true (hc k hk hl j hb)
theorem aOc (hd:tN ops (fO ops [])=true): ∀(i:Nat),i<ops.length→ ∀j,((fO ops []).getD i 0).testBit j=true→j<i:=fun i=>by
 induction i using Nat.strongRecOn with
 |_ i ih=>
  intro hi j hb;obtain ⟨o,ho⟩: ∃o,ops[i]?=some o:=⟨_,cEn hi⟩;obtain ⟨e,he,hbd,h1⟩:=xA ops [] i o j ho (by simpa using hb);have hlt:=(mZ hd ho).1 e he hbd;rcases h1 with rfl|⟨h2,h3⟩
  ·exact hlt
  have:=ih e.on hlt aN j h3;omega
theorem qA (hd:tN ops (fO ops [])=true) {listed:Array Bool} (hs:listed.size=ops.length): ∀(i:Nat),i<ops.length→listed.getD i true=false→Region.ready .any ops.toArray listed≠[]:=fun i=>by
 induction i using Nat.strongRecOn with
 |_ i ih=>
  intro hi hl hr;obtain ⟨o,ho⟩: ∃o,ops[i]?=some o:=⟨_,cEn hi⟩;have:i∈Region.ready .any ops.toArray listed:=by
   refine mem_ready.2 ⟨hl,o,by simpa using ho,fun e he hb=>?_⟩;have hlt:=(mZ hd ho).1 e (by simpa using he) hb;cases hq:listed.getD e.on false with
   |true=>rfl
   |false=>
    refine absurd hr (ih e.on hlt aN ?_);rw[kE aN];exact hq
  rw[hr] at this;cases this
def aEy (ops:List Oper) (listed:Array Bool) (fuel:Nat):Prop:= ∃U:List Nat,U.length≤fuel∧ ∀j,j<ops.length→listed.getD j true=false→j∈U
theorem aEy.set {listed:Array Bool} {fuel i:Nat} (h:aEy ops listed (fuel+1)) (hi:i<ops.length) (hs:listed.size=ops.length) (hl:listed.getD i true=false):aEy ops (listed.setIfInBounds i true) fuel:=by
 obtain ⟨U,h1,h2⟩:=h;refine ⟨U.erase i,?_,fun j hj hlj=>?_⟩
 ·have:=List.length_erase_of_mem (h2 i hi hl);omega
 have hne:j≠i:=fun e=>by
  subst e;simp[cBt,cEi,hs,hj] at hlj
 rw[getD_set_ne true (bZv hne)] at hlj;exact (List.mem_erase_of_ne hne).2 (h2 j hj hlj)
theorem aEy.pos {listed:Array Bool} {i:Nat} (h:aEy ops listed 0) (hi:i<ops.length) (hl:listed.getD i true=false):False:=by
 obtain ⟨U,h1,h2⟩:=h;have:=h2 i hi hl;have h3:U=[]:=cEj aN;rw[h3] at this;cases this
theorem sV {listed:Array Bool} {i:Nat} (h:i<listed.size) (d:Bool):(listed.setIfInBounds i true).getD i d=true:=by simp[cBt,h]
end
def fw (listed:Array Bool) (b:Nat):Nat→List Rc→Option Rc
 |_,[]=>none
 |j,rc::l=>if listed.getD j false=false∧rc.wb=some b then some rc else fw listed b (j+1) l
theorem aQx {listed:Array Bool} {b:Nat}: ∀(l:List Rc) (j p:Nat) (rc:Rc),l[p]?=some rc→listed.getD (j+p) false=false→rc.wb=some b→(∀p2 rc2,l[p2]?=some rc2→p2<p→listed.getD (j+p2) false=false→rc2.wb≠some b)→fw listed b j l=some rc
 | [],j,p,rc,h,_,_,_=>by simp at h
 |r::l,j,0,rc,h,h1,h2,_=>by
  simp at h;subst h;unfold fw;rw[if_pos ⟨h1,h2⟩]
 |r::l,j,p+1,rc,h,h1,h2,h3=>by
  unfold fw;rw[if_neg fun q=>h3 0 r rfl aN q.1 q.2];exact aQx l (j+1) p rc (by simpa using h) (by rw[show j+1+p=j+(p+1) by omega];exact h1) h2 fun p2 rc2 hp2 hlt hl=>h3 (p2+1) rc2 (by simpa using hp2) aN (by rw[show j+(p2+1)=j+1+p2 by omega];exact hl)
theorem zY {listed:Array Bool} {b:Nat}: ∀(l:List Rc) (j:Nat),(∀p rc,l[p]?=some rc→listed.getD (j+p) false=false→rc.wb≠some b)→fw listed b j l=none
 | [],j,_=>rfl
 |r::l,j,h=>by
  unfold fw;rw[if_neg fun q=>h 0 r rfl q.1 q.2];exact zY l (j+1) fun p rc hp hl=>h (p+1) rc (by simpa using hp) (by rw[show j+(p+1)=j+1+p by omega];exact hl)
theorem aLo {listed listed':Array Bool} {b:Nat}: ∀(l:List Rc) (j:Nat),(∀p rc,l[p]?=some rc→rc.wb=some b→listed.getD (j+p) false=listed'.getD (j+p) false)→fw listed b j l=fw listed' b j l
 | [],j,_=>rfl
 |r::l,j,h=>by
  unfold fw;have ih:=aLo (listed:=listed) (listed':=listed') l (j+1) fun p rc hp hw=>by
   have:=h (p+1) rc (by simpa using hp) hw
   rwa [show j+(p+1)=j+1+p by omega] at this
  rw[ih];by_cases hw:r.wb=some b
  ·have h0:=h 0 r rfl hw;rw[cAh] at h0;rw[h0]
  rw[if_neg fun q=>hw q.2,if_neg fun q=>hw q.2]
def aMe (listed:Array Bool) (k n0:Nat) (rcs:List Rc) (b:Nat):Prop:=b<n0∨ ∃p rc,rcs[p]?=some rc∧listed.getD (k+p) false=true∧rc.n≤b∧b<rc.n'
noncomputable def HD (listed:Array Bool) (k n0:Nat) (rcs:List Rc) (h:Hp):Hp:=fun b=>by
 classical exact if aMe listed k n0 rcs b then (match fw listed b k rcs with
  |some rc=>rc.hm.get b
  |none=>h b) else none
section
variable {listed:Array Bool} {k n0:Nat} {rcs:List Rc} {h:Hp} {b:Nat}
theorem aHw (hb:n0≤b) (hn: ∀p rc,rcs[p]?=some rc→listed.getD (k+p) false=true→ ¬(rc.n≤b∧b<rc.n')):HD listed k n0 rcs h b=none:=by
 unfold HD;rw[if_neg];rintro (h0|⟨p,rc,h1,h2,h3⟩)
 ·omega
 exact hn p rc h1 h2 h3
theorem bPx (hb:aMe listed k n0 rcs b) {r:Rc} (hf:fw listed b k rcs=some r):HD listed k n0 rcs h b=r.hm.get b:=by
 unfold HD;rw[if_pos hb,hf]
theorem aMn (hb:aMe listed k n0 rcs b) (hf:fw listed b k rcs=none):HD listed k n0 rcs h b=h b:=by
 unfold HD;rw[if_pos hb,hf]
theorem aWf {s':St} {p:Nat} {v:Option dS} (hb:aMe listed k n0 rcs b) (hx:Nx rcs s' p b v) (hlo: ∀p2 rc2,rcs[p2]?=some rc2→rc2.wb=some b→p2<p→listed.getD (k+p2) false=true)
  (hhi: ∀p2 rc2,rcs[p2]?=some rc2→rc2.wb=some b→p≤p2→listed.getD (k+p2) false=false):HD listed k n0 rcs s'.h.get b=v:=by
 rcases hx with ⟨p',rc',q1,q2,q3,q4,q5⟩|⟨q1,q2⟩
 ·rw[bPx hb (aQx rcs k p' rc' q1 (hhi p' rc' q1 q3 q2) q3 fun p2 rc2 hp2 hlt hl hw=>?_),q5];rcases cBd p2 p with h|h
  ·rw[hlo p2 rc2 hp2 hw h] at hl;cases hl
  exact q4 p2 rc2 hp2 h hlt hw
 rw[aMn hb (zY rcs k fun p2 rc2 hp2 hl hw=>?_),q2];rcases cBd p2 p with h|h
 ·rw[hlo p2 rc2 hp2 hw h] at hl;cases hl
 exact q1 p2 rc2 hp2 h hw
end
section
variable {P:Program} {nt lo:Nat} {ops:List Oper}
theorem bOi (ro:Option Nat) (hreg:nE nt ops=true) (hd:tN ops (fO ops [])=true) {k:Nat} {HL:List (Nat×Nat)} {s s':St} {rcs:List Rc} (hops: ∀p rc,rcs[p]?=some rc→ops[k+p]?=some rc.o) (hkN:k+rcs.length≤ops.length)
  (hlate:k+rcs.length<ops.length→aFq (fO ops []) (k+rcs.length) ops.length=true) (hf: ∀p rc,rcs[p]?=some rc→bRm P lo ops (fO ops []) HL s.n [] k s s' rcs p rc) (hout: ∀b,s.n≤b→(∀rc∈rcs,¬(rc.n≤b∧b<rc.n'))→s'.h.get b=s.h.get b) (hft: ∀q,(∀rc∈rcs,rc.o.dst≠some q)→s'.t.get q=s.t.get q)
  {m:Nat} (hm:s'.n≤m) (hsn: ∀b,s.n≤b→s.h.get b=none) (hlo:lo≤s.n) (hng:NG≤s.n) {E0:dX} {w0:World} {d0:List Deferred} {Q':Exit→Act→World→Prop}
  (hend: ∀fuel listed E a w,listed.size=ops.length→Cl ops listed→(∀j,j<ops.length→listed.getD j true=decide (j<k+rcs.length))→aEy ops listed fuel→SS nt E s'.t a→a.defers=d0→HS E s'.h.get s'.n m w→RX lo E0 s.h.get s.n w0 E s'.h.get s'.n w→
   wpAnyIn (FR ro) 0 P .any ops.toArray Q' fuel listed a w): ∀(fuel:Nat) (listed:Array Bool) (E:dX) (a:Act) (w:World),listed.size=ops.length→Cl ops listed→(∀j,j<k→listed.getD j false=true)→(∀j,k+rcs.length≤j→j<ops.length→listed.getD j false=false)→
   aEy ops listed fuel→a.tmps.size=nt→(∀q,q<nt→((∃p rc,rcs[p]?=some rc∧listed.getD (k+p) false=false∧rc.o.dst=some q)→Rr E ((s.t.get q).getD .nov) (a.tmps.getD q undef))∧
    ((∀p rc,rcs[p]?=some rc→listed.getD (k+p) false=false→rc.o.dst≠some q)→Rr E ((s'.t.get q).getD .nov) (a.tmps.getD q undef)))→a.defers=d0→HS E (HD listed k s.n rcs s'.h.get) s'.n m w→
   (∀p rc,rcs[p]?=some rc→listed.getD (k+p) false=false→ ∀b,rc.n≤b→b<rc.n'→E b=none)→RX lo E0 s.h.get s.n w0 E (HD listed k s.n rcs s'.h.get) s'.n w→wpAnyIn (FR ro) 0 P .any ops.toArray Q' fuel listed a w:=by
 obtain ⟨hnt,hall⟩:=jY hreg;have hplt: ∀{p:Nat} {rc:Rc},rcs[p]?=some rc→p<rcs.length:=fun {p rc} h=>by
  rcases cBd p rcs.length with h'|h'
  ·exact h'
  rw[cAw h'] at h;cases h
 have huniq: ∀(p:Nat) (rc:Rc) (p2:Nat) (rc2:Rc) (q:Nat),rcs[p]?=some rc→rcs[p2]?=some rc2→p2≠p→rc2.o.dst=some q→rc.o.dst≠some q:=fun p rc p2 rc2 q h1 h2 hne hd2=>((mZ hd (hops p rc h1)).2 (k+p2) rc2.o q (hops p2 rc2 h2) aN hd2).1;have hfull: ∀listed:Array Bool,(∀p rc,rcs[p]?=some rc→listed.getD (k+p) false=true)→HD listed k s.n rcs s'.h.get=s'.h.get:=fun listed hall=>funext fun b=>by
  rcases cBd b s.n with hb|hb
  ·exact aMn (.inl hb) (zY rcs k fun p2 rc2 hp2 hl=>by rw[hall p2 rc2 hp2] at hl;cases hl)
  by_cases hr: ∃(p:Nat) (rc:Rc),rcs[p]?=some rc∧rc.n≤b∧b<rc.n'
  ·obtain ⟨p,rc,h1,h2⟩:=hr;exact aMn (.inr ⟨p,rc,h1,hall p rc h1,h2⟩) (zY rcs k fun p2 rc2 hp2 hl=>by rw[hall p2 rc2 hp2] at hl;cases hl)
  rw[aHw hb fun p rc h1 _ h2=>hr ⟨p,rc,h1,h2⟩,hout b hb fun rc hrc h2=>?_,hsn b hb];obtain ⟨p,hp⟩:=cAe hrc;exact hr ⟨p,rc,hp,h2⟩
 intro fuel
 induction fuel with
 |zero=>
  intro listed E a w hsz hcl hpre hpost hleft hasz hsl hdf hs hfr hx;refine hend 0 listed E a w hsz hcl (fun j hj=>?_) hleft ?_ hdf ?_ ?_
  all_goals
   have hallL: ∀j,j<ops.length→listed.getD j true=true:=fun j hj=>by
    cases hq:listed.getD j true with
    |true=>rfl
    |false=>exact (hleft.pos hj hq).elim
   have hnone: ∀p rc,rcs[p]?=some rc→listed.getD (k+p) false≠false:=fun p rc hp hq=>by
    have h1:=hallL (k+p) (by have:=hplt hp;omega);rw[kE (by have:=hplt hp;omega),hq] at h1;cases h1
  ·rw[hallL j hj];rcases cBd j (k+rcs.length) with h|h
   ·exact (cFr h).symm
   have h1:=hallL j hj;rw[kE aN,hpost j h hj] at h1;cases h1
  ·exact ⟨hasz,fun q hq=>(hsl q hq).2 fun p rc hp hl=>absurd hl (hnone p rc hp)⟩
  ·have hh:=hfull listed fun p rc hp=>by
    cases hq:listed.getD (k+p) false with
    |true=>rfl
    |false=>exact absurd hq (hnone p rc hp)
   rw[hh] at hs;exact hs
  have hh:=hfull listed fun p rc hp=>by
   cases hq:listed.getD (k+p) false with
   |true=>rfl
   |false=>exact absurd hq (hnone p rc hp)
  rw[hh] at hx;exact hx
 |succ fuel ih=>
  intro listed E a w hsz hcl hpre hpost hleft hasz hsl hdf hs hfr hx;by_cases hdone: ∀p rc,rcs[p]?=some rc→listed.getD (k+p) false=true
  ·have hnone: ∀p rc,rcs[p]?=some rc→listed.getD (k+p) false≠false:=fun p rc hp hq=>by rw[hdone p rc hp] at hq;cases hq
   refine hend (fuel+1) listed E a w hsz hcl (fun j hj=>?_) hleft ⟨hasz,fun q hq=>(hsl q hq).2 fun p rc hp hl=>absurd hl (hnone p rc hp)⟩ hdf (by rw[hfull listed hdone] at hs;exact hs) ?_
   ·rw[kE aN];rcases cBd j (k+rcs.length) with h|h
    ·rw[cFr h];rcases cBd j k with h2|h2
     ·exact hpre j h2
     obtain ⟨p,rfl⟩: ∃p,j=k+p:=⟨j-k,by omega⟩;exact hdone p _ (cEn aN)
    rw[cFs aN];exact hpost j h hj
   rw[hfull listed hdone] at hx;exact hx
  have hex: ∃p rc,rcs[p]?=some rc∧listed.getD (k+p) false=false:=by
   apply cEt;intro hno;refine hdone fun p rc hp=>?_;cases hq:listed.getD (k+p) false with
   |true=>rfl
   |false=>exact absurd ⟨p,rc,hp,hq⟩ hno
  obtain ⟨p0,rc0,hp0,hl0⟩:=hex;refine ⟨fun h=>absurd h (qA hd hsz (k+p0) (by have:=hplt hp0;omega) (by rw[kE (by have:=hplt hp0;omega)];exact hl0)),fun i hi=>?_⟩;obtain ⟨hiu,o,ho,_⟩:=mem_ready.1 hi;have ho:ops[i]?=some o:=by simpa using ho
  have hiN:i<ops.length:=by
   rcases cBd i ops.length with h|h
   ·exact h
   rw[cAw h] at ho;cases ho
  have hil:listed.getD i false=false:=by rw[← kE aN];exact hiu
  have hrc:=aDj hcl hi;obtain ⟨p,rc,hp,rfl⟩: ∃p rc,rcs[p]?=some rc∧i=k+p:=by
   have h1:k≤i:=by
    rcases cBd i k with h|h
    ·rw[hpre i h] at hil;cases hil
    exact h
   have h2:i<k+rcs.length:=by
    rcases cBd i (k+rcs.length) with h|h
    ·exact h
    have he:=hlate aN;unfold aFq at he;simp only[bZi,cCk,cCc,cEx,cFp] at he;rcases cEs h with h3|h3
    ·rcases he.2 i hiN with h4|h4
     ·omega
     have:=hrc _ h4;rw[hpost _ (cCq _) aN] at this;cases this
    subst h3;have:=hrc _ (he.1 (k+p0) (by have:=hplt hp0;omega));rw[hl0] at this;cases this
   exact ⟨i-k,rcs[i-k]'(by omega),cEn aN,by omega⟩
  have R:=hf p rc hp;have hro:rc.o=o:=by have:=hops p rc hp;rw[ho] at this;cases this;rfl
  obtain ⟨ho1,ho2⟩:=hall rc.o (by rw[hro];exact cDb ho);have hnil: ∀b,rc.n≤b→rc.hm.get b=none:=fun b hb=>by
   cases hq:rc.hm.get b with
   |none=>rfl
   |some z=>have:=R.hi b hb (by rw[hq];simp);rw[hq,hsn b (cBc R.n1 hb)] at this;cases this
  have hwlate: ∀(p2:Nat) (rc2:Rc) (b:Nat),rcs[p2]?=some rc2→rc2.wb=some b→p≤p2→(rc.hm.get b≠none∧b<rc.n)∨(rc.n≤b∧b<rc.n')→listed.getD (k+p2) false=false:=fun p2 rc2 b hp2 hw hle hb=>by
   rcases cEs hle with h|h
   ·cases hq:listed.getD (k+p2) false with
    |false=>rfl
    |true=>
     have hbit:=R.see p2 rc2 b hp2 h hw (hb.imp (fun q=>⟨q.2,q.1⟩) id);rw[hcl (k+p2) (by have:=hplt hp2;omega) hq _ hbit] at hil;cases hil
   subst h;rw[hp] at hp2;cases hp2;exact hil
  have hwearly: ∀(p2:Nat) (rc2:Rc) (b:Nat),rcs[p2]?=some rc2→rc2.wb=some b→p2<p→rc.hm.get b≠none→listed.getD (k+p2) false=true:=fun p2 rc2 b hp2 hw hlt hb=>by
   cases hbit:((fO ops []).getD (k+p) 0).testBit (k+p2) with
   |true=>exact hrc _ hbit
   |false=>exact absurd (R.hid' p2 rc2 hp2 hlt hbit b (.inr hw)) hb
  have hmade: ∀b,s.n≤b→b<rc.n→rc.hm.get b≠none→ ∃(p2:Nat) (rc2:Rc),rcs[p2]?=some rc2∧listed.getD (k+p2) false=true∧rc2.n≤b∧b<rc2.n':=fun b h1 h2 h3=>by
   rcases R.cov b h1 h2 with ⟨x,hx,_⟩|⟨p2,rc2,q1,q2,q3⟩
   ·cases hx
   refine ⟨p2,rc2,q1,?_,q3⟩;cases hbit:((fO ops []).getD (k+p) 0).testBit (k+p2) with
   |true=>exact hrc _ hbit
   |false=>exact absurd (R.hid' p2 rc2 q1 q2 hbit b (.inl q3)) h3
  have hsub: ∀b,rc.hm.get b≠none→rc.hm.get b=HD listed k s.n rcs s'.h.get b:=fun b hn=>by
   rcases cBd b rc.n with hb|hb
   ·have hx0:=R.low b hb hn;have hl0:aMe listed k s.n rcs b:=by
     rcases cBd b s.n with h0|h0
     ·exact .inl h0
     exact .inr (hmade b h0 hb hn)
    exact (aWf hl0 hx0 (fun p3 rc3 h1 h2 h3=>hwearly p3 rc3 b h1 h2 h3 hn) fun p3 rc3 h1 h2 h3=>hwlate p3 rc3 b h1 h2 h3 (.inl ⟨hn,hb⟩)).symm
   exact absurd (hnil b hb) hn
  have hfri: ∀b,rc.n≤b→b<rc.n'→E b=none:=hfr p rc hp hil;have hsi:HS E rc.hm.get rc.n rc.n' w:=by
   have:=hs.sub hsub;exact ⟨this.blk,this.inj,this.old,hfri,fun b hb=>hnil b (cBc R.n2 hb),cBc hng R.n1,this.glob⟩
  have hslot: ∀q,q<nt→q∈looks ops rc.o→Rr E ((rc.t.get q).getD .nov) (a.tmps.getD q undef):=fun q hq hlk=>by
   obtain ⟨s1,s2⟩:=hsl q hq;by_cases hw: ∃(p2:Nat) (rc2:Rc),rcs[p2]?=some rc2∧rc2.o.dst=some q
   ·obtain ⟨p2,rc2,hp2,hd2⟩:=hw;have huq: ∀(p3:Nat) (rc3:Rc),rcs[p3]?=some rc3→p3≠p2→rc3.o.dst≠some q:=fun p3 rc3 hp3 hne=>huniq p3 rc3 p2 rc2 q hp3 hp2 (bZv hne) hd2;have hold:p≤p2→rc.t.get q=s.t.get q:=fun hle=>R.t0 q fun p' rc' hp' hlt=>huq p' rc' hp' aN;by_cases e:p2=p
    ·subst e;rw[hp] at hp2;cases hp2;rw[hold (cCq _)];exact s1 ⟨p2,rc,hp,hil,hd2⟩
    rcases ((mZ hd (hops p rc hp)).2 (k+p2) rc2.o q (hops p2 rc2 hp2) aN hd2).2 hlk with hb|hb
    ·have hlt:=aOc hd _ hiN _ hb;rw[R.t1 q p2 rc2 hp2 aN hd2 huq];refine s2 fun p3 rc3 hp3 hl3 hd3=>?_;by_cases e3:p3=p2
     ·subst e3;rw[hrc _ hb] at hl3;cases hl3
     exact huq p3 rc3 hp3 e3 hd3
    have hlt:=aOc hd (k+p2) (by have:=hplt hp2;omega) _ hb;rw[hold aN];refine s1 ⟨p2,rc2,hp2,?_,hd2⟩;cases hq2:listed.getD (k+p2) false with
    |false=>rfl
    |true=>have:=hcl (k+p2) (by have:=hplt hp2;omega) hq2 _ hb;rw[hil] at this;cases this
   have hno: ∀(p2:Nat) (rc2:Rc),rcs[p2]?=some rc2→rc2.o.dst≠some q:=fun p2 rc2 h2 hd2=>hw ⟨p2,rc2,h2,hd2⟩;rw[R.t0 q fun p' rc' hp' _=>hno p' rc' hp',← hft q fun rc2 hrc2=>?_]
   ·exact s2 fun p3 rc3 hp3 _=>hno p3 rc3 hp3
   obtain ⟨p2,hp2⟩:=cAe hrc2;exact hno p2 rc2 hp2
  have hopd:mY E rc.t a rc.o:=fun x hx=>bAd x (bO ho1 hx) fun q hq=>by
   subst hq;refine hslot q (by simpa[iE] using bO ho1 hx) ?_;unfold looks;rw[cEh,List.mem_filterMap];exact .inl ⟨.tmp q,by simpa using hx,rfl⟩
  have hgs: ∀d,yY ops rc.o=some d→d<a.tmps.size∧Rr E ((rc.t.get d).getD .nov) (a.tmps.getD d undef):=fun d hdd=>by
   have hlt:=aLl (fun o ho=>(hall o ho).2) d hdd;refine ⟨by omega,hslot d hlt ?_⟩;unfold looks;rw[cEh,hdd];exact .inr b7
  obtain ⟨l,hl0,hl1,hgok⟩:=R.ok;have run:=hgok.2 ro rc.n' E a w (cCq _) hopd hgs hsi (wpAnyIn (FR ro) 0 P .any ops.toArray Q' fuel (listed.setIfInBounds (k+p) true)) Q' fun E' y w' q1 q2 q3=>by
   have q1:HS E' rc.h'.get rc.n' rc.n' w':=q1;have q2:RX l E rc.hm.get rc.n w E' rc.h'.get rc.n' w':=q2;have q3:Rr E' (rc.v.getD .nov) y:=q3;have hup: ∀b z,E b=some z→E' b=some z:=hsi.up q2 (cCq _);have hset: ∀p2,p2≠p→(listed.setIfInBounds (k+p) true).getD (k+p2) false=listed.getD (k+p2) false:=fun p2 hne=>getD_set_ne false aN;have hself:(listed.setIfInBounds (k+p) true).getD (k+p) false=true:=sV aN false;have hul: ∀p2 rc2,rcs[p2]?=some rc2→(listed.setIfInBounds (k+p) true).getD (k+p2) false=false→p2≠p∧listed.getD (k+p2) false=false:=fun p2 rc2 hp2 hl2=>by
    have hne:p2≠p:=fun e=>by subst e;rw[hself] at hl2;cases hl2
    exact ⟨hne,by rw[← hset p2 hne];exact hl2⟩
   have hdis: ∀p2 rc2,rcs[p2]?=some rc2→p2≠p→ ∀b,rc2.n≤b→b<rc2.n'→b<rc.n∨rc.n'≤b:=fun p2 rc2 hp2 hne b hb1 hb2=>by
    rcases Nat.lt_or_gt_of_ne hne with h|h
    ·have:=(hf p2 rc2 hp2).nx p rc hp h;omega
    have:=R.nx p2 rc2 hp2 h;omega
   have hmono: ∀q,listed.getD q false=true→(listed.setIfInBounds (k+p) true).getD q false=true:=fun q hq=>getD_set_true hq;have hnew: ∀b,(rc.hm.get b≠none∧b<rc.n)∨(rc.n≤b∧b<rc.n')→Nx rcs s' (p+1) b (rc.h'.get b):=fun b hb=>by
    rcases hb with ⟨h1,h2⟩|⟨h1,h2⟩
    ·by_cases hw:rc.wb=some b
     ·exact R.wr b hw
     rw[R.st b h2 hw];exact (R.low b h2 h1).next fun rc2 hrc2=>by rw[hp] at hrc2;cases hrc2;exact hw
    exact R.new b h1 h2
   obtain ⟨r1,r2⟩:=hs.side (H':=HD (listed.setIfInBounds (k+p) true) k s.n rcs s'.h.get) hsub hnil q2 hl1 q1 R.n3 hm hfri
    (fun b hb=>by
     have hb:(rc.hm.get b≠none∧b<rc.n)∨(rc.n≤b∧b<rc.n'):=hb.imp (fun h=>⟨h,by
      rcases cBd b rc.n with h3|h3
      ·exact h3
      exact absurd (hnil b h3) h⟩) id
     have hx1:=hnew b hb;have hl0:aMe (listed.setIfInBounds (k+p) true) k s.n rcs b:=by
      rcases cBd b s.n with h0|h0
      ·exact .inl h0
      rcases hb with ⟨h1,h2⟩|h1
      ·obtain ⟨p2,rc2,e1,e2,e3⟩:=hmade b h0 h2 h1;exact .inr ⟨p2,rc2,e1,hmono _ e2,e3⟩
      exact .inr ⟨p,rc,hp,hself,h1⟩
     refine aWf hl0 hx1 (fun p3 rc3 h1 h2 h3=>?_) fun p3 rc3 h1 h2 h3=>?_
     ·by_cases e:p3=p
      ·subst e;exact hself
      rcases hb with ⟨h4,_⟩|⟨h4,_⟩
      ·exact hmono _ (hwearly p3 rc3 b h1 h2 aN h4)
      have g1:=((hf p3 rc3 h1).wv b h2).2.1;have g2:=(hf p3 rc3 h1).nx p rc hp aN;have g3:=(hf p3 rc3 h1).n2;omega
     rw[hset p3 aN];exact hwlate p3 rc3 b h1 h2 aN hb)
    (fun b hb0 hb=>by
     ·have hfw:fw (listed.setIfInBounds (k+p) true) b k rcs=fw listed b k rcs:=aLo rcs k fun p2 rc2 h1 h2=>by
       by_cases e:p2=p
       ·subst e;rw[hp] at h1;cases h1;exact absurd hb0 (R.wv b h2).2.2
       exact hset p2 e
      by_cases hq:aMe listed k s.n rcs b
      ·have hq':aMe (listed.setIfInBounds (k+p) true) k s.n rcs b:=hq.imp id fun ⟨p2,rc2,e1,e2,e3⟩=>⟨p2,rc2,e1,hmono _ e2,e3⟩;cases hfv:fw listed b k rcs with
       |none=>rw[aMn hq hfv,aMn hq' (hfw.trans hfv)]
       |some r=>rw[bPx hq hfv,bPx hq' (hfw.trans hfv)]
      have h0:s.n≤b:=Nat.le_of_not_lt fun h=>hq (.inl h);rw[aHw h0 fun p2 rc2 h1 h2 h3=>hq (.inr ⟨p2,rc2,h1,h2,h3⟩),aHw h0 fun p2 rc2 h1 h2 h3=>?_];by_cases e:p2=p
      ·subst e;rw[hp] at h1;cases h1;omega
      rw[hset p2 e] at h2;exact hq (.inr ⟨p2,rc2,h1,h2,h3⟩))
   have hputd: ∀q,q<nt→(a.put rc.o.dst y).tmps.getD q undef=if rc.o.dst=some q then y else a.tmps.getD q undef:=fun q hq=>by
    cases hdst:rc.o.dst with
    |none=>simp[Act.put]
    |some d=>
     have hdn:=kU ho2 d hdst;rw[vL a d q y (by rw[hasz];exact hdn)];by_cases e:q=d
     ·subst e;simp
     rw[if_neg e,if_neg (fun h=>e (bZr h).symm)]
   refine ih (listed.setIfInBounds (k+p) true) E' _ w' (by simp[hsz]) (hcl.set hi) (fun j hj=>getD_set_true (hpre j hj)) (fun j hj hjN=>by rw[getD_set_ne false (by have:=hplt hp;omega)];exact hpost j hj hjN) (hleft.set hiN hsz hiu) ?_ (fun q hq=>⟨?_,fun hno=>?_⟩) (by rw[d7];exact hdf) r1 (fun p2 rc2 hp2 hl2 b hb1 hb2=>?_) (r2 hx aN hlo R.n1)
   ·cases hdst:rc.o.dst<;>simp[Act.put,hasz]
   ·rintro ⟨p2,rc2,hp2,hl2,hd2⟩;obtain ⟨e1,e2⟩:=hul p2 rc2 hp2 hl2;rw[hputd q hq,if_neg (huniq p rc p2 rc2 q hp hp2 e1 hd2)];exact ((hsl q hq).1 ⟨p2,rc2,hp2,e2,hd2⟩).mono hup
   ·rw[hputd q hq];by_cases hdq:rc.o.dst=some q
    ·rw[if_pos hdq,R.dst q hdq fun p2 rc2 hp2 hne=>huniq p2 rc2 p rc q hp2 hp (bZv hne) hdq];exact q3
    rw[if_neg hdq];refine ((hsl q hq).2 fun p2 rc2 hp2 hl2=>?_).mono hup;by_cases e:p2=p
    ·subst e;rw[hp] at hp2;cases hp2;exact hdq
    exact hno p2 rc2 hp2 (by rw[hset p2 e];exact hl2)
   obtain ⟨e1,e2⟩:=hul p2 rc2 hp2 hl2;rw[q2.emb b (hdis p2 rc2 hp2 e1 b hb1 hb2)];exact hfr p2 rc2 hp2 e2 b hb1 hb2
  unfold wpOpIn;simp only[cEu,ho];rw[hro] at run;exact run
end
end
end Go.Rv
