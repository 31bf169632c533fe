/- Several texts as one. -/
import Derived.Test.YtdgbckchckaagaaGreatDoorP0
import Derived.IntWalk
import Derived.Lib.SliceRun
import Derived.MapKept
import Derived.Still
set_option linter.unusedSectionVars false
set_option linter.unusedVariables false
set_option linter.unusedSimpArgs false
namespace Go.Sg
open Go.RowKit
section
variable {P:Program} {nt:Nat} {ρ:aV} {ops:Array Oper}
theorem nV {o:Oper} {K:aV→Prop} {x:Operand} (hop:o.op=.assign x) (hg:o.guard=none) (ho:dP nt o=true) (hd:d3 nt o=true) (h:gd (ev ρ x)) (hK:K (putD ρ o.dst (un (ev ρ x)))):OW P nt ops o K ρ:=
 fU hg fun I A a w hs=>by
  have:=hs.opd x (bO ho (by simp[hop,Op.operands])) h;exact ⟨a.eval x,w,I,A,_,by simp[execOp,hop],hs.putV hd this,e8.refl _ _ _,hK⟩
theorem cK {A:cY} {k s:Nat} {v:Option (Option Nat×Nat)} {y:Option Nat×Nat} (h:lA A k v s=some y):(s=k∧v=some y)∨(s≠k∧A s=some y):=by
 unfold lA at h;split at h
 ·rename_i e;exact .inl ⟨e,h⟩
 rename_i e;exact .inr ⟨e,h⟩
theorem cV.moveOwn' {w:World} {I:Nat→Prop} {A:cY} {a:Act} (hs:cV nt w I A ρ a) {t d:Nat} (hd:d<nt) (ht:t<nt) (hne:t≠d) (hown:bX (ρ t)=true) {x:Value} (hsl:cZ w I A t (ρ t) x):
  ∃A',cV nt w I A' (set (dG d (set (dG t ρ) t .any)) d (eH d (eH t (ρ t)))) (a.put (some d) x)∧e8 w I A w I A':=by
 have hb:=hs.bound;have ho:=hs.osim.own t;have hAt: ∃B c,A t=some (B,c):=by
  cases hρ:ρ t<;>rw[hρ] at hsl hown<;>first
   |(cases hown;done)
   |(obtain ⟨g,c,h1,_⟩:=hsl;exact ⟨_,c,h1⟩)
   |(obtain ⟨B,c,h1,_⟩:=hsl;exact ⟨B,c,h1⟩)
 obtain ⟨B,c,hA⟩:=hAt;have hs1:=hs.disown (d:=t) aN;have hc1: ∀s,(fun s=>s !=t) s=true→lA A t none s=A s:=fun s h=>eW A _ (by simpa using h);have hc2: ∀s,(fun s=>s !=d) s=true→lA (lA A t none) d (some (B,c)) s=lA A t none s:=fun s h=>eW _ _ (by simpa using h);have hs2:=hs1.own (d:=d) hd (B:=B) (c:=c) (v:=eH d (eH t (ρ t))) (x:=x) (fun g hg=>by
   subst hg;refine ⟨(hs.osim.sep t g c hA).1,(hs.osim.sep t g c hA).2,fun s c' _ hc=>?_⟩;rcases cK hc with ⟨_,h⟩|⟨h1,h2⟩
   ·cases h
   exact h1 (hs.osim.inj s t g c' c h2 hA))
  (by
   cases hρ:ρ t<;>rw[hρ] at hsl hown<;>try (cases hown;done)
   ·obtain ⟨g,c',h1,h2⟩:=hsl;rw[hA] at h1;simp only[cAx,bZo] at h1;obtain ⟨rfl,rfl⟩:=h1;unfold eH
    split<;>split<;>first
     |exact .any _ _
     |exact ⟨g,c,dA _ _ _,h2⟩
     |skip
   ·obtain ⟨B',c',h1,h2⟩:=hsl;rw[hA] at h1;simp only[cAx,bZo] at h1;obtain ⟨rfl,rfl⟩:=h1;exact ⟨B,c,dA _ _ _,h2⟩
   obtain ⟨g,c',h1,h2⟩:=hsl;rw[hA] at h1;simp only[cAx,bZo] at h1;obtain ⟨rfl,rfl⟩:=h1;exact ⟨g,c,dA _ _ _,h2⟩)
  (by
   cases hρ:ρ t<;>rw[hρ] at ho hown<;>try (cases hown;done)
   ·obtain ⟨g,c',us,et,h1,h2,h3,h4,h5⟩:=ho;rw[hA] at h1;simp only[cAx,bZo] at h1;obtain ⟨rfl,rfl⟩:=h1;unfold eH;split
    ·rename_i hk1;split
     ·rename_i hk2;exact ⟨g,c,us,et,dA _ _ _,h2,h3,h4,fun j e u he hu=>((h5 j e u he hu).congrA _ (e6 (by simpa[dI] using hk1) he) hc1).congrA _ (e6 (by simpa[dI] using hk2) he) hc2⟩
     trivial
    trivial
   ·obtain ⟨B',c',h1,h2⟩:=ho;rw[hA] at h1;simp only[cAx,bZo] at h1;obtain ⟨rfl,rfl⟩:=h1;exact ⟨B,c,dA _ _ _,h2⟩
   obtain ⟨g,c',vs,cl,h1,h2,h3⟩:=ho;rw[hA] at h1;simp only[cAx,bZo] at h1;obtain ⟨rfl,rfl⟩:=h1;exact ⟨g,c,vs,cl,dA _ _ _,h2,h3⟩)
 refine ⟨_,hs2,⟨rfl,⟨rfl,cCq _⟩,rfl,cCq _,fun _ h=>h,fun g hg hAg=>⟨rfl,fun h=>h,fun s c' hc=>?_⟩,fun s g c' hc hg hl=>?_,fun s hs'=>?_⟩⟩
 ·rcases cK hc with ⟨_,h⟩|⟨_,h⟩
  ·simp only[cAx,bZo] at h;obtain ⟨rfl,rfl⟩:=h;exact hAg t c hA
  rcases cK h with ⟨_,h⟩|⟨_,h⟩
  ·cases h
  exact hAg s c' h
 ·rcases cK hc with ⟨_,h⟩|⟨_,h⟩
  ·simp only[cAx,bZo] at h;obtain ⟨rfl,rfl⟩:=h;exact ⟨t,c,by omega,hA⟩
  rcases cK h with ⟨_,h⟩|⟨_,h⟩
  ·cases h
  exact ⟨s,c',hl,h⟩
 rw[eW _ _ aN,eW _ _ aN]
theorem cV.moveOwn {w:World} {I:Nat→Prop} {A:cY} {a:Act} (hs:cV nt w I A ρ a) {t d:Nat} (hd:d<nt) (ht:t<nt) (hne:t≠d) (hown:bX (ρ t)=true):
  ∃A',cV nt w I A' (set (dG d (set (dG t ρ) t .any)) d (eH d (eH t (ρ t)))) (a.put (some d) (a.eval (.tmp t)))∧e8 w I A w I A':=hs.moveOwn' hd ht hne hown (hs.slot t ht)
theorem aKq {o:Oper} {K:aV→Prop} {t d:Nat} (hop:o.op=.assign (.tmp t)) (hg:o.guard=none) (hdst:o.dst=some d) (hd:d<nt) (ht:t<nt) (hne:t≠d) (hown:bX (ρ t)=true)
  (hK:K (set (dG d (set (dG t ρ) t .any)) d (eH d (eH t (ρ t))))):OW P nt ops o K ρ:=by
 refine fU hg fun I A a w hs=>?_;obtain ⟨A',h1,h2⟩:=hs.moveOwn hd ht hne hown;exact ⟨a.eval (.tmp t),w,I,A',_,by simp[execOp,hop],by rw[hdst];exact h1,h2,hK⟩
theorem aMm {a:Act} {d:Nat} {x:Value} (hd:d<a.tmps.size) (h:a.tmps.getD d undef=x):a.put (some d) x=a:=by
 have:a.tmps.setIfInBounds d x=a.tmps:=by
  apply Array.ext b7;intro i h1 h2;rw[Array.getElem_setIfInBounds];split
  ·rename_i e1;subst e1;rw[← h,cBt,cAt hd];rfl
  rfl
 unfold Act.put;simp[this]
theorem cV.claim {w:World} {I:Nat→Prop} {A:cY} {a:Act} (hs:cV nt w I A ρ a) {t d:Nat} (hd:d<nt) (ht:t<nt) (hne:t≠d)
  (h:(∃e z xs,ρ d=.own t xs.length∧ρ t=.row e z xs)∨(∃cs,ρ d=.bp t 0∧ρ t=.bx cs)):
  ∃A',cV nt w I A' (set (dG d (set (dG t ρ) t .any)) d (eH d (eH t (ρ t)))) a∧e8 w I A w I A':=by
 have hown:bX (ρ t)=true:=by rcases h with ⟨e,z,xs,_,h⟩|⟨cs,_,h⟩<;>rw[h]<;>rfl
 have hsd:=hs.slot d hd;have hx:cZ w I A t (ρ t) (a.tmps.getD d undef):=by
  generalize a.tmps.getD d undef=x at hsd ⊢;rcases h with ⟨e,z,xs,k1,k2⟩|⟨cs,k1,k2⟩
  ·rw[k1] at hsd;rw[k2];have hsd:bN w I A (.own t xs.length) x:=hsd;cases hsd with
   |own _ _ _ B' c' b q3 hb=>exact ⟨B',c',q3,b,hb,rfl⟩
  rw[k1] at hsd;rw[k2];have hsd:bN w I A (.bp t 0) x:=hsd;cases hsd with
  |bp _ _ _ g' c' q3=>exact ⟨g',c',q3,rfl⟩
 obtain ⟨A',h1,h2⟩:=hs.moveOwn' hd ht hne hown hx;rw[aMm (by rw[hs.size];exact hd) rfl] at h1;exact ⟨A',h1,h2⟩
def cE:DV→List DV
 | .agg cs=>cs
 | .v (.agg _)=>[]
 | .v (.tuple _)=>[]
 | .v x=>[.v x]
 | .sl z n f=>[.sl z n f]
 | .dp cs=>[.dp cs]
 | .bp s o=>[.bp s o]
 | .own s n=>[.own s n]
 | .rp s z i o=>[.rp s z i o]
 | .fn f a b=>[.fn f a b]
 | .iface t x=>[.iface t x]
 | .ez=>[.ez]
 |_=>[]
theorem nX {w:World} {I:Nat→Prop} {A:cY} {d:DV} {x:Value} (h:bN w I A d x) (hl:0<(cE d).length∨ ∃cs,d=.agg cs):
  (cE d).length=x.cells.size∧(∀u∈x.cells.toList,u.oneCell'=true)∧ ∀(j:Nat) (e:DV) (u:Value),(cE d)[j]?=some e→x.cells[j]?=some u→bN w I A e u:=by
 have one: ∀(e:DV) (y:Value),bN w I A e y→y.cells= #[y]→y.oneCell'=true→[e].length=y.cells.size∧(∀u∈y.cells.toList,u.oneCell'=true)∧
   ∀(j:Nat) (e':DV) (u:Value),[e][j]?=some e'→y.cells[j]?=some u→bN w I A e' u:=fun e y he hy hone=>by
  rw[hy];refine ⟨rfl,by simpa using hone,fun j e' u h1 h2=>?_⟩;cases j with
  |zero=>simp at h1 h2;subst h1;subst h2;exact he
  |succ j=>simp at h1
 cases h with
 |any=>rcases hl with h|⟨cs,h⟩<;>simp[cE] at h
 |v _ x=>
  cases x<;>first
   |exact one _ _ (.v A _) rfl rfl
   |(rcases hl with h|⟨cs,h⟩<;>simp[cE] at h)
 |agg _ cs vs hl' hone hrel=>exact ⟨hl',hone,hrel⟩
 |tup _ cs vs hl' hrel=>rcases hl with h|⟨cs,h⟩<;>simp[cE] at h
 |sl0 _ z f b c=>exact one _ _ (.sl0 A z f b c) rfl rfl
 |sl _ z n f b o c us hn hc hm hI hz hcell hone hrel=>exact one _ _ (.sl A z n f b o c us hn hc hm hI hz hcell hone hrel) rfl rfl
 |dp _ cs b o us hI hcell hone hrel=>exact one _ _ (.dp A cs b o us hI hcell hone hrel) rfl rfl
 |bp _ s off g c h=>exact one _ _ (.bp A s off g c h) rfl rfl
 |own _ s n B c b h hb=>exact one _ _ (.own A s n B c b h hb) rfl rfl
 |rp _ s z i off g c h=>exact one _ _ (.rp A s z i off g c h) rfl rfl
 |fn _ f fs cs us vs hf hc hfr hcr=>exact one _ _ (.fn A f fs cs us vs hf hc hfr hcr) rfl rfl
 |iface _ t d x h=>exact one _ _ (.iface A t d x h) rfl rfl
 |mr _ s g c h=>rcases hl with h|⟨cs,h⟩<;>simp[cE] at h
 |ez _ b=>exact one _ _ (.ez A b) rfl rfl
theorem cV.newBox {w:World} {I:Nat→Prop} {A:cY} {a:Act} (hs:cV nt w I A ρ a) {d:Nat} (hd:d<nt) {cs:List DV} {us:Array Value} (t:TypeId) (hl:cs.length=us.size)
  (hone: ∀u∈us.toList,u.oneCell'=true) (hr: ∀(j:Nat) (e:DV) (u:Value),cs[j]?=some e→us[j]?=some u→bN w I A e u):
  ∃A',cV nt (w.alloc (.cells us t)) I A' (set (dG d ρ) d (eH d (.bx cs))) (a.put (some d) (.pointer (some ⟨w.heap.size,0,none⟩)))∧e8 w I A (w.alloc (.cells us t)) I A':=by
 have hb:=hs.bound;have hgr:=mI.alloc hs.osim (.cells us t);have hs1:=hs.grow hgr;refine ⟨lA A d (some (some w.heap.size,0)),?_,?_⟩
 ·refine hs1.own hd (fun g hg=>?_) ?_ ?_
  ·cases hg;refine ⟨by simp,fun hi=>?_,fun s c' _ hc=>?_⟩
   ·have:=hs.osim.imm _ hi;omega
   have:=(hs.osim.sep s _ c' hc).1;omega
  ·unfold eH;split
   ·exact ⟨_,0,dA _ _ _,rfl⟩
   exact .any _ _
  unfold eH;split
  ·rename_i hk;refine ⟨w.heap.size,0,us,t,dA _ _ _,heap_alloc_new w _,hl.symm,hone,fun j e u he hu=>?_⟩;exact (hgr.rel hs.osim (hr j e u he hu)).congrA _ (e6 (by simpa[dI] using hk) he) fun s h=>eW A _ (by simpa using h)
  trivial
 have he:=hgr.ext hs.osim;refine ⟨rfl,⟨rfl,cCq _⟩,rfl,by simp,fun _ h=>h,fun g hg hA=>⟨hgr.heap g hg,fun h=>h,fun s c hc=>?_⟩,fun s g c hc hg hl'=>?_,fun s h=>eW A _ aN⟩
 ·rcases cK hc with ⟨_,h⟩|⟨_,h⟩
  ·simp only[cAx,bZo] at h;omega
  exact hA s c h
 rcases cK hc with ⟨_,h⟩|⟨_,h⟩
 ·simp only[cAx,bZo] at h;omega
 exact ⟨s,c,hl',h⟩
theorem bOt {o:Oper} {K:aV→Prop} {t:TypeId} {x:Operand} {d:Nat} (hop:o.op=.box t x) (hg:o.guard=none) (hdst:o.dst=some d) (hd:d<nt) (ho:dP nt o=true) (h:gd (ev ρ x))
  (hl:0<(cE (un (ev ρ x))).length∨ ∃cs,un (ev ρ x)=.agg cs) (hK:K (set (dG d ρ) d (eH d (.bx (cE (un (ev ρ x))))))):OW P nt ops o K ρ:=by
 refine fU hg fun I A a w hs=>?_;have hx:=hs.opd x (bO ho (by simp[hop,Op.operands])) h;obtain ⟨h1,h2,h3⟩:=nX hx hl;obtain ⟨A',k1,k2⟩:=hs.newBox hd t h1 h2 h3;exact ⟨.pointer (some ⟨w.heap.size,0,none⟩),_,I,A',_,by simp[execOp,hop,Instr.box,newVar,newRow],by rw[hdst];exact k1,k2,hK⟩
def eE (P:Program) (t:TypeId):Option (List Value):=
 match P.info? t with
 |some i=>match i.zero with
  |some z=>if z.cells.toList.all (·.oneCell') then some z.cells.toList else none
  |none=>none
 |none=>none
theorem eR {t:TypeId} {zs:List Value} (h:eE P t=some zs): ∃i z,P.info? t=some i∧i.zero=some z∧z.cells.toList=zs∧ ∀u∈zs,u.oneCell'=true:=by
 unfold eE at h;split at h<;>try cases h
 rename_i i hi;split at h<;>try cases h
 rename_i z hz;split at h<;>cases h;rename_i hall;exact ⟨i,z,hi,hz,rfl,cCk.1 hall⟩
theorem aZz {o:Oper} {K:aV→Prop} {t:TypeId} {zs:List Value} {d:Nat} (hop:o.op=.alloc t) (hg:o.guard=none) (hdst:o.dst=some d) (hd:d<nt) (hz:eE P t=some zs)
  (hK:K (set (dG d ρ) d (.bx (zs.map .v)))):OW P nt ops o K ρ:=by
 refine fU hg fun I A a w hs=>?_;obtain ⟨i,z,h1,h2,h3,h4⟩:=eR hz;have hkill:eH d (.bx (zs.map .v))=.bx (zs.map .v):=by
  unfold eH;rw[if_pos];simp only[dI];rw[lU];intro e he;simp at he;obtain ⟨v,_,rfl⟩:=he;rfl
 obtain ⟨A',k1,k2⟩:=hs.newBox hd (cs:=zs.map .v) (us:=z.cells) t (by simp[← h3]) (by rw[h3];exact h4) (fun j e u he hu=>by
  simp only[cDj,cBa,← h3,cAg] at he;obtain ⟨y,hy,rfl⟩:=he;rw[hu] at hy;cases hy;exact .v A _)
 rw[hkill] at k1;refine ⟨.pointer (some ⟨w.heap.size,0,none⟩),_,I,A',_,?_,by rw[hdst];exact k1,k2,hK⟩;simp[execOp,hop,Instr.alloc,zeroValue,typeInfo,h1,h2,newVar,newRow]
def spl (off:Nat) (cs old:List DV):List DV:=
 if cs.length=1 then old.set off (cs.headD .any) else if cs.length=old.length then cs else old.take off++cs++old.drop (off+cs.length)
theorem aJk {off:Nat} {cs old:List DV} (h:off+cs.length≤old.length):spl off cs old=old.take off++cs++old.drop (off+cs.length):=by
 unfold spl;split
 ·rename_i h1
  match cs,h1 with
  | [c],_=>
   simp only[List.headD_cons,bZp];rw[List.set_eq_take_append_cons_drop,if_pos (by simp at h;omega)];simp
 split
 ·rename_i h1;obtain rfl:off=0:=by omega
  simp[h1]
 rfl
def gQ (P:Program) (t:TypeId):Option Nat:=(P.info? t).map (·.size)
theorem qG {w:World} {t:TypeId} {n:Nat} (hz:gQ P t=some n) {x:Value} (hn:x.cells.size=n) {g o:Nat} {us:Array Value} {et:TypeId} (hg:w.heap[g]?=some (.cells us et (0,0)))
  (hl:o+n≤us.size) (hone: ∀u∈x.cells.toList,u.oneCell'=true):
  (Instr.storeAt t (.pointer (some ⟨g,o,none⟩)) x).run P w=.ok () (w.setRow g (us.toList.take o++x.cells.toList++us.toList.drop (o+n)).toArray):=by
 unfold gQ at hz;cases hi:P.info? t with
 |none=>rw[hi] at hz;cases hz
 |some i=>
  rw[hi] at hz;simp at hz;have:=run_storeCells_at (P:=P) g o et x.cells.toList 0 us w hg (by simp[hn];omega) hone;simp only[cAh,cCy,hn] at this;simp[Instr.storeAt,Instr.sureAddr,storeVar,run_sizeOf w hi,Program.cellsOf,hi,hz,hn,this]
theorem bFo {w:World} {I:Nat→Prop} {A:cY} {cs old:List DV} {us vs:Array Value} {off:Nat} (hl:old.length=us.size) (hc:cs.length=vs.size) (h:off+cs.length≤old.length)
  (hold: ∀(j:Nat) (e:DV) (u:Value),old[j]?=some e→us[j]?=some u→bN w I A e u) (hnew: ∀(j:Nat) (e:DV) (u:Value),cs[j]?=some e→vs[j]?=some u→bN w I A e u):
  ∀(j:Nat) (e:DV) (u:Value),(old.take off++cs++old.drop (off+cs.length))[j]?=some e→(us.toList.take off++vs.toList++us.toList.drop (off+cs.length))[j]?=some u→bN w I A e u:=by
 intro j e u he hu;rw[bZq,bZq] at he hu;simp only[cAb,cCw,cCy,← hl,← hc,cBx (show off≤old.length by omega)] at he hu;split at he
 ·rename_i h1;rw[if_pos h1] at hu;split at he
  ·rename_i h2;rw[if_pos h2] at hu;rw[cEl,if_pos h2] at he hu;rw[cAg] at hu;exact hold j e u he hu
  rename_i h2;rw[if_neg h2] at hu;rw[cAg] at hu;exact hnew _ e u he hu
 rename_i h1;rw[if_neg h1] at hu;rw[cCg] at he hu;rw[cAg] at hu;exact hold _ e u he hu
def stB (ρ:aV) (s off n:Nat) (cs:List DV) (c:DV) (K:aV→Prop):Prop:=
 match c with
 | .bx old=>cs.length=n∧off+n≤old.length∧(s<100000∨eQ (fun t=>decide (100000≤t)) cs=true)∧K (set ρ s (.bx (spl off cs old)))
 |_=>False
theorem bGr {p:Nat→Bool} {off:Nat} {cs old:List DV} (h:off+cs.length≤old.length) (h1:eQ p cs=true) (h2:eQ p old=true):eQ p (spl off cs old)=true:=by
 rw[aJk h,lU];rw[lU] at h1 h2;intro e he;simp only[cFe,cEh] at he;rcases he with he|he|he
 ·exact h2 e (cDo he)
 ·exact h1 e he
 exact h2 e (cCn he)
theorem aWu {o:Oper} {K:aV→Prop} {t:TypeId} {ad x:Operand} {n s off:Nat} (hop:o.op=.store t ad x) (hg:o.guard=none) (hdst:o.dst=none) (ho:dP nt o=true)
  (ha:ev ρ ad=.bp s off) (hx:gd (ev ρ x)) (hz:gQ P t=some n) (hl:0<n) (h:stB ρ s off n (cE (un (ev ρ x))) (ρ s) K):OW P nt ops o K ρ:=by
 refine z6 hg fun I A a w hs=>?_;have hxr:=hs.opd x (bO ho (by simp[hop,Op.operands])) hx;have hadr:=hs.opd ad (bO ho (by simp[hop,Op.operands])) (by rw[ha];trivial);rw[ha] at hadr;have hadr:bN w I A (.bp s off) (a.eval ad):=hadr;generalize hav:a.eval ad=av at*;cases hadr with
 |bp _ _ _ g c hA=>
  have hown:=hs.osim.own s;cases hρ:ρ s<;>rw[hρ] at h hown<;>simp only[stB] at h<;>try exact h.elim
  rename_i old;obtain ⟨h1,h2,h3,hK⟩:=h;obtain ⟨g',c',us,et,q1,q2,q3,q4,q5⟩:=hown;rw[hA] at q1;simp only[cAx,bZo] at q1;obtain ⟨rfl,rfl⟩:=q1;obtain ⟨k1,k2,k3⟩:=nX hxr (.inl aN);have hrun:=qG (P:=P) (w:=w) hz (x:=a.eval x) aN q2 (o:=off) aN k2;rw[← h1] at hrun;generalize hnew:(us.toList.take off++(a.eval x).cells.toList++us.toList.drop (off+(cE (un (ev ρ x))).length)).toArray=new at hrun;have hI: ∀{B:cY} {d:DV} {v:Value},bN w I B d v→bN (w.setRow g new) I B d v:=fun hr=>
   hr.mono fun g' hg'=>⟨hg',fun o=>dW (setRow_other w g g' _ (fun e=>(hs.osim.sep s g c hA).2 (e▸hg'))) o⟩
  refine ⟨w.setRow g new,I,A,_,?_,?_,e8.turn hA new,hK⟩
  ·simp only[execOp,hop,Sem.run_bind,hav,hrun,Result.andThen_ok,Sem.run_pure]
  rw[hdst];refine hs.turn hA q2 (fun v hv=>?_) ?_ fun hs'=>?_
  ·rw[hρ] at hv;exact hv
  ·rw[aJk aN];subst hnew;refine ⟨g,c,_,et,hA,setRow_heap w g us _ et _ q2,by simp;omega,fun u hu=>?_,fun j e u he hu=>hI (bFo q3.symm k1 aN q5 k3 j e u he (by simpa using hu))⟩;simp only[cFe,cEh] at hu;rcases hu with hu|hu|hu
   ·exact q4 u (cDo hu)
   ·exact k2 u hu
   exact q4 u (cCn hu)
  have:=hs.out s hs';rw[hρ] at this;refine show dI _ (.bx _)=true from ?_
  simp only[dI];exact bGr aN (h3.resolve_left aN) (by simpa[dH,dI] using this)
end
end Go.Sg
namespace Go.Sg
open Go.RowKit
def pT (P:Program) (t:TypeId):Option (TypeId×Nat×Nat):=
 match P.underlying t with
 |some (.slice e)=>(P.info? e).map fun i=>(e,i.size,i.bytes)
 |_=>none
section
variable {P:Program} {nt:Nat} {ρ:aV} {ops:Array Oper}
theorem gE {t:TypeId} {e:TypeId} {z b:Nat} (h:pT P t=some (e,z,b)):P.underlying t=some (.slice e)∧ ∃i,P.info? e=some i∧i.size=z∧i.bytes=b:=by
 unfold pT at h;split at h<;>try cases h
 rename_i e' hu;cases hi:P.info? e' with
 |none=>rw[hi] at h;cases h
 |some i=>
  rw[hi] at h;simp at h;obtain ⟨rfl,rfl,rfl⟩:=h;exact ⟨hu,i,hi,rfl,rfl⟩
theorem cV.newRow {w:World} {I:Nat→Prop} {A:cY} {a:Act} (hs:cV nt w I A ρ a) {d:Nat} (hd:d<nt) {e:TypeId} {z c:Nat} {xs:List (List DV)} {us:Array Value} (hu:us.size=c*z) (hc:c≤maxLen) (hx:xs.length≤c)
  (hr: ∀(i:Nat) (x:List DV),xs[i]?=some x→x.length=z∧ ∀(j:Nat) (d:DV) (u:Value),x[j]?=some d→us[i*z+j]?=some u→u.oneCell'=true∧bN w I cU d u):
  ∃A',cV nt (w.alloc (.cells us e)) I A' (set (dG d ρ) d (.row e z xs)) (a.put (some d) (.slice (some ⟨w.heap.size,0,none⟩) xs.length c))∧e8 w I A (w.alloc (.cells us e)) I A':=by
 have hb:=hs.bound;have hgr:=mI.alloc hs.osim (.cells us e);have hs1:=hs.grow hgr;refine ⟨lA A d (some (some w.heap.size,c)),?_,?_⟩
 ·refine hs1.own hd (fun g hg=>?_) ⟨_,c,dA _ _ _,_,aFs _,rfl⟩ ⟨_,c,dA _ _ _,us,heap_alloc_new w _,hu,hc,hx,fun i x hx=>⟨(hr i x hx).1,fun j d' u h1 h2=>⟨((hr i x hx).2 j d' u h1 h2).1,hgr.rel hs.osim ((hr i x hx).2 j d' u h1 h2).2⟩⟩⟩;cases hg;refine ⟨by simp,fun hi=>?_,fun s c' _ hc=>?_⟩
  ·have:=hs.osim.imm _ hi;omega
  have:=(hs.osim.sep s _ c' hc).1;omega
 refine ⟨rfl,⟨rfl,cCq _⟩,rfl,by simp,fun _ h=>h,fun g hg hA=>⟨hgr.heap g hg,fun h=>h,fun s c hc=>?_⟩,fun s g c hc hg hl'=>?_,fun s h=>eW A _ aN⟩
 ·rcases cK hc with ⟨_,h⟩|⟨_,h⟩
  ·simp only[cAx,bZo] at h;omega
  exact hA s c h
 rcases cK hc with ⟨_,h⟩|⟨_,h⟩
 ·simp only[cAx,bZo] at h;omega
 exact ⟨s,c,hl',h⟩
theorem cV.newData {w:World} {I:Nat→Prop} {A:cY} {a:Act} (hs:cV nt w I A ρ a) (e:TypeId) (us:Array Value):
  mI w I (w.alloc (.cells us e)) (fun g=>I g∨g=w.heap.size):=
 ⟨rfl,⟨rfl,cCq _⟩,rfl,by simp,fun g hg=>Below.heap_alloc w _ g hg,fun _ h=>.inl h,fun g h=>h.imp id fun e=>⟨by omega,by simp[e]⟩⟩
theorem aJd {o:Oper} {K:aV→Prop} {t:TypeId} {x y:Operand} {d:Nat} {e:TypeId} {z by_:Nat} {zs:List Value} {k k':IntKind} {n c:Int} (hop:o.op=.makeSlice t x y) (hg:o.guard=none) (hdst:o.dst=some d) (hd:d<nt)
  (ho:dP nt o=true) (hx:ev ρ x=.v (.int k n)) (hy:ev ρ y=.v (.int k' c)) (hs:pT P t=some (e,z,by_)) (hz:eE P e=some zs) (hzl:zs.length=z) (h0:0≤n) (h1:n≤c) (h2:c≤9223372036854775807)
  (h3:c*by_≤140737488355328) (hK:K (set (dG d ρ) d (.row e z (List.replicate n.toNat (zs.map .v))))):OW P nt ops o K ρ:=by
 obtain ⟨hu,i,hi,rfl,rfl⟩:=gE hs;obtain ⟨i',zv,hi',hzv,rfl,hone⟩:=eR hz;rw[hi] at hi';cases hi';refine fU hg fun I A a w hsim=>?_;have hxr:=hsim.opd x (bO ho (by simp[hop,Op.operands])) (by rw[hx];trivial);have hyr:=hsim.opd y (bO ho (by simp[hop,Op.operands])) (by rw[hy];trivial);rw[hx] at hxr;rw[hy] at hyr;have hxe:a.eval x=.int k n:=by
  have hxr:bN w I A (.v (.int k n)) (a.eval x):=hxr;generalize a.eval x=q at hxr ⊢;cases hxr;rfl
 have hye:a.eval y=.int k' c:=by
  have hyr:bN w I A (.v (.int k' c)) (a.eval y):=hyr;generalize a.eval y=q at hyr ⊢;cases hyr;rfl
 have hwn:IntKind.i64.wrap n=n:=IntWalk.i64_in n ⟨by omega,by omega⟩;have hwc:IntKind.i64.wrap c=c:=IntWalk.i64_in c ⟨by omega,by omega⟩;have hzs:zv.cells.size=i.size:=by simpa using hzl
 obtain ⟨us,husd⟩: ∃us:Array Value,us=(Array.range (c.toNat*i.size)).map (zv.cells[· %zv.cells.size]!):=⟨_,rfl⟩;have hus:us.size=c.toNat*i.size:=by simp[husd]
 have hget: ∀m r,m<c.toNat→r<i.size→us[m*i.size+r]?=zv.cells[r]?:=fun m r hm hr=>by
  have hlt:m*i.size+r<c.toNat*i.size:=by
   have:(m+1)*i.size≤c.toNat*i.size:=cEr _ aN;rw[cBb] at this;omega
  have e1:(m*i.size+r)%zv.cells.size=r:=by rw[hzs,bZx,Nat.mul_add_mod,cCd hr]
  simp only[husd,cDv,Array.getElem?_range,hlt,if_true,cBj,e1];rw[cAt aN,cFw _ _ aN]
 have hrun:(execOp a.eval o).run P w=.ok (.value (.slice (some ⟨w.heap.size,0,none⟩) n.toNat c.toNat)) (w.alloc (.cells us e)):=by
  simp only[execOp,hop,hxe,hye,Instr.makeSlice,asInt,asIntOf,Sem.run_bind,run_underlying hu,Result.andThen_ok,Sem.run_pure,run_typeInfo w hi,hwn,hwc,run_askRoom,run_sizeOf w hi,Program.cellsOf,hi,cBj,bZy];have hcond:(decide (c<0)||decide ((i.bytes:Int)*c>2^48)||decide (n<0)||decide (n>c))=false:=by
   have hc48:(i.bytes:Int)*c≤140737488355328:=by rw[Int.mul_comm];exact h3
   have e48:(2:Int)^48=281474976710656:=by decide
   simp only[cCb,cFu,e48];omega
  rw[hcond,if_neg b7];simp only[Sem.run_bind,run_askRoom,Result.andThen_ok,run_sizeOf w hi,Program.cellsOf,hi,cBj,bZy];by_cases hzero:c.toNat*i.size=0
  ·have he:us= #[]:=by
    apply cFo;rw[hus,hzero]
   rw[if_pos hzero,he];simp[newRow,hzero,Array.range_zero']
  rw[if_neg hzero];simp[zeroValue,run_typeInfo w hi,hzv,newRow,husd]
 obtain ⟨A',k1,k2⟩:=hsim.newRow hd (e:=e) (z:=i.size) (c:=c.toNat) (xs:=List.replicate n.toNat (zv.cells.toList.map .v)) (us:=us) hus (by unfold maxLen;omega) (by simp;omega) (fun m x hx=>by
  rw[List.getElem?_replicate] at hx;split at hx<;>cases hx;rename_i hm;refine ⟨by simp[hzs],fun r dv u hd hu=>?_⟩;simp only[cDj,cBa,cAg] at hd;obtain ⟨q,hq,rfl⟩:=hd;have hr:r<i.size:=by
   rw[← hzs];rcases cBd r zv.cells.size with h|h
   ·exact h
   rw[cDy h] at hq;cases hq
  rw[hget m r aN hr,hq] at hu;cases hu;exact ⟨hone _ (by simpa using cBu hq),.v _ _⟩)
 refine ⟨_,_,I,A',_,hrun,?_,k2,hK⟩;rw[hdst];simpa using k1
def bsL (ρ:aV) (parts:List (Nat×Operand)):List (List DV):=parts.map fun p=>cE (un (ev ρ p.2))
def aAv (ρ:aV) (z:Nat):Nat→List (Nat×Operand)→Prop
 |_,[]=>True
 |k,p::l=>p.1=k∧gd (ev ρ p.2)∧(cE (un (ev ρ p.2))).length=z∧eQ (fun _=>false) (cE (un (ev ρ p.2)))=true∧aAv ρ z (k+1) l
theorem l3 {z:Nat}: ∀{parts:List (Nat×Operand)} {k:Nat},aAv ρ z k parts→ ∀(j:Nat) (p:Nat×Operand),parts[j]?=some p→
  p.1=k+j∧gd (ev ρ p.2)∧(cE (un (ev ρ p.2))).length=z∧eQ (fun _=>false) (cE (un (ev ρ p.2)))=true
 | [],_,_,j,p,hp=>by simp at hp
 |q::l,k,h,j,p,hp=>by
  obtain ⟨h1,h2,h3,h4,h5⟩:=h;cases j with
  |zero=>simp at hp;subst hp;exact ⟨by omega,h2,h3,h4⟩
  |succ j=>
   have:=l3 h5 j p (by simpa using hp);exact ⟨by omega,this.2⟩
theorem wQ (off:Nat) (xs:List Value): ∀(cs:Array Value) (k:Nat),off+k+xs.length≤cs.size→
  ((xs.zipIdx k).foldl (fun cs (p:Value×Nat)=>cs.setIfInBounds (off+p.2) p.1) cs).size=cs.size∧
  ∀q,((xs.zipIdx k).foldl (fun cs (p:Value×Nat)=>cs.setIfInBounds (off+p.2) p.1) cs)[q]?=if off+k≤q∧q<off+k+xs.length then xs[q-(off+k)]? else cs[q]?:=by
 induction xs with
 |nil=>intro cs k h;exact ⟨rfl,fun q=>by rw[if_neg b7];rfl⟩
 |cons x xs ih=>
  intro cs k h;simp only[cDx] at h;obtain ⟨h1,h2⟩:=ih (cs.setIfInBounds (off+k) x) (k+1) (by simp;omega);rw[List.zipIdx_cons,cAm];refine ⟨by rw[h1];simp,fun q=>?_⟩;rw[h2 q,cDx,cEi];by_cases hq:q=off+k
  ·subst hq;rw[if_neg aN,if_pos rfl,if_pos aN,if_pos aN];simp
  by_cases h3:off+(k+1)≤q∧q<off+(k+1)+xs.length
  ·rw[if_pos h3,if_pos aN];obtain ⟨m,rfl⟩: ∃m,q=off+k+1+m:=⟨q-(off+k+1),by omega⟩;rw[show off+k+1+m-(off+k)=m+1 from by omega,show off+k+1+m-(off+(k+1))=m from by omega];simp
  rw[if_neg h3,if_neg (fun e=>hq e.symm),if_neg aN]
theorem xV (place:Nat→Option (Nat×Nat)): ∀(parts:List (Nat×Value)) (cells:Array Value),
  (∀(j i:Nat) (v:Value),parts[j]?=some (i,v)→ ∃off,place i=some (off,v.cells.size)∧off+v.cells.size≤cells.size)→
  ∃out,Instr.fill place cells parts=some out∧out.size=cells.size∧
   ∀q,(∃(j i:Nat) (v:Value) (off:Nat),parts[j]?=some (i,v)∧place i=some (off,v.cells.size)∧off≤q∧q<off+v.cells.size∧out[q]?=v.cells[q-off]?)∨
    ((∀(j i:Nat) (v:Value) (off:Nat),parts[j]?=some (i,v)→place i=some (off,v.cells.size)→ ¬(off≤q∧q<off+v.cells.size))∧out[q]?=cells[q]?)
 | [],cells,_=>⟨cells,rfl,rfl,fun q=>.inr ⟨by simp,rfl⟩⟩
 |(i,v)::rest,cells,h=>by
  obtain ⟨off,hp,hl⟩:=h 0 i v b7;obtain ⟨f1,f2⟩:=wQ off v.cells.toList cells 0 (by simp;omega);simp only[cAh,cCy] at f1 f2;have hzip:(v.cells.zipIdx.foldl (fun cs (p:Value×Nat)=>cs.setIfInBounds (off+p.2) p.1) cells)=(v.cells.toList.zipIdx 0).foldl (fun cs (p:Value×Nat)=>cs.setIfInBounds (off+p.2) p.1) cells:=by
   rw[← cFn,Array.toList_zipIdx]
  obtain ⟨out,o1,o2,o3⟩:=xV place rest ((v.cells.toList.zipIdx 0).foldl (fun cs (p:Value×Nat)=>cs.setIfInBounds (off+p.2) p.1) cells) (fun j i' v' hj=>by
   obtain ⟨off',k1,k2⟩:=h (j+1) i' v' (by simpa using hj);exact ⟨off',k1,by rw[f1];exact k2⟩)
  refine ⟨out,?_,o2.trans f1,fun q=>?_⟩
  ·unfold Instr.fill;simp only[hp];rw[if_neg (by simp;omega)];rw[← hzip] at o1;exact o1
  rcases o3 q with ⟨j,i',v',off',k1,k2,k3,k4,k5⟩|⟨k1,k2⟩
  ·exact .inl ⟨j+1,i',v',off',by simpa using k1,k2,k3,k4,k5⟩
  rw[k2,f2 q];by_cases hq:off≤q∧q<off+v.cells.size
  ·rw[if_pos hq];exact .inl ⟨0,i,v,off,by simp,hp,hq.1,hq.2,by simp⟩
  rw[if_neg hq];refine .inr ⟨fun j i' v' off' hj hp'=>?_,rfl⟩;cases j with
  |zero=>
   simp at hj;obtain ⟨rfl,rfl⟩:=hj;rw[hp] at hp';simp at hp';subst hp';exact hq
  |succ j=>exact k1 j i' v' off' (by simpa using hj) hp'
theorem jS {z i q:Nat} (hz:0<z) (h1:i*z≤q) (h2:q<i*z+z):q/z=i:=by
 obtain ⟨r,rfl⟩: ∃r,q=i*z+r:=⟨q-i*z,by omega⟩;rw[bZj,Nat.add_mul_div_right _ _ hz,Nat.div_eq_of_lt aN];omega
theorem aOl {o:Oper} {K:aV→Prop} {t:TypeId} {n:Nat} {parts:Array (Nat×Operand)} {d:Nat} {e:TypeId} {z by_:Nat} {zs:List Value} (hop:o.op=.buildSlice t n parts) (hg:o.guard=none) (hdst:o.dst=some d) (hd:d<nt)
  (ho:dP nt o=true) (hs:pT P t=some (e,z,by_)) (hz:eE P e=some zs) (hz0:0<z) (hn0:0<n) (hn:n*z≤16777216) (hl:parts.toList.length=n) (hp:aAv ρ z 0 parts.toList)
  (hK:K (set ρ d (.sl z n fun i=>(bsL ρ parts.toList).getD i []))):OW P nt ops o K ρ:=by
 obtain ⟨hu,i,hi,rfl,rfl⟩:=gE hs;obtain ⟨i',zv,hi',hzv,rfl,_⟩:=eR hz;rw[hi] at hi';cases hi';refine fU hg fun I A a w hsim=>?_
 have hpart: ∀(j:Nat) (p:Nat×Operand),parts.toList[j]?=some p→p.1=j∧(a.eval p.2).cells.size=i.size∧(∀u∈(a.eval p.2).cells.toList,u.oneCell'=true)∧
   ∀(r:Nat) (x:DV) (u:Value),(cE (un (ev ρ p.2)))[r]?=some x→(a.eval p.2).cells[r]?=some u→bN w I cU x u:=fun j p hj=>by
  obtain ⟨h1,h2,h3,h4⟩:=l3 hp j p hj;have hx:=hsim.opd p.2 (bO ho (by
   simp only[hop,Op.operands];simp;exact ⟨p.1,by have:=cDb hj;simpa using this⟩)) h2
  obtain ⟨k1,k2,k3⟩:=nX hx (.inl aN);exact ⟨by omega,by omega,k2,fun r x u hx hu=>(k3 r x u hx hu).pure (e6 h4 hx)⟩
 let vparts:List (Nat×Value):=parts.toList.map fun p=>(p.1,a.eval p.2)
 have hv: ∀(j k:Nat) (v:Value),vparts[j]?=some (k,v)→ ∃p,parts.toList[j]?=some p∧p.1=k∧a.eval p.2=v:=fun j k v h=>by
  simp only[vparts,cDj,cBa] at h;obtain ⟨p,hp,he⟩:=h;simp at he;exact ⟨p,hp,he.1,he.2⟩
 obtain ⟨zero,hzero⟩: ∃zero:Array Value,zero=(Array.range (n*i.size)).map (zv.cells[· %zv.cells.size]!):=⟨_,rfl⟩;have hzsz:zero.size=n*i.size:=by simp[hzero]
 obtain ⟨out,o1,o2,o3⟩:=xV (fun k=>some (k*i.size,i.size)) vparts zero (fun j k v h=>by
  obtain ⟨p,hpj,rfl,rfl⟩:=hv j k v h;obtain ⟨h1,h2,_⟩:=hpart j p hpj;have hjn:j<n:=by
   rw[← hl];rcases cBd j parts.toList.length with h|h
   ·exact h
   rw[cAw h] at hpj;cases hpj
  refine ⟨p.1*i.size,by rw[h2],?_⟩;rw[hzsz,h2,h1];have:(j+1)*i.size≤n*i.size:=cEr _ hjn;rw[cBb] at this;exact this)
 rw[hzsz] at o2;have hout: ∀(j:Nat) (p:Nat×Operand) (r:Nat),parts.toList[j]?=some p→r<i.size→out[j*i.size+r]?=(a.eval p.2).cells[r]?:=fun j p r hj hr=>by
  obtain ⟨h1,h2,_⟩:=hpart j p hj;have hvj:vparts[j]?=some (p.1,a.eval p.2):=by simp only[vparts,cDj,hj];rfl
  rcases o3 (j*i.size+r) with ⟨j',k,v,off,k1,k2,k3,k4,k5⟩|⟨k1,_⟩
  ·obtain ⟨p',hp',rfl,rfl⟩:=hv j' k v k1;obtain ⟨h1',h2',_⟩:=hpart j' p' hp';simp only[cAx,bZo] at k2;obtain ⟨rfl,_⟩:=k2;have e1:=jS (z:=i.size) (i:=p'.1) hz0 k3 aN;have e2:=jS (z:=i.size) (i:=j) (q:=j*i.size+r) hz0 aN aN;have:j'=j:=by omega
   subst this;rw[hj] at hp';cases hp';rw[k5,h1];congr 1;omega
  exact absurd ⟨by rw[h1];omega,by rw[h1,h2];omega⟩ (k1 j p.1 _ (p.1*i.size) hvj (by rw[h2]))
 have hgr:=hsim.newData e out;refine ⟨.slice (some ⟨w.heap.size,0,none⟩) n n,_,_,A,_,?_,?_,hgr.ext hsim.osim,hK⟩
 ·have hne:n*i.size≠0:=by
   have:=Nat.mul_pos hn0 hz0;omega
  have hmap:(parts.map fun p=>(p.1,a.eval p.2)).toList=vparts:=by simp[vparts]
  have h24: ¬(n*i.size>2^24):=by
   have:(2:Nat)^24=16777216:=by decide
   omega
  simp only[execOp,hop,Instr.buildSlice,Sem.run_bind,run_underlying hu,Result.andThen_ok,run_sizeOf w hi,Program.cellsOf,hi,cBj,bZy,h24,cFv,hne,zeroValue,run_typeInfo w hi,hzv,Sem.run_pure,Sem.run_ite];simp only[hmap];rw[← hzero,o1];simp[newRow]
 rw[hdst];refine (hsim.grow hgr).put hd (.ofRel ?_) (.ofPure rfl);have hgetp: ∀m,m<n→ ∃p,parts.toList[m]?=some p∧(bsL ρ parts.toList).getD m []=cE (un (ev ρ p.2)):=fun m hm=>by
  have h1:parts.toList[m]?=some (parts.toList[m]'(by omega)):=cEn aN;exact ⟨_,h1,by simp only[bsL,cFk,cDj,h1];rfl⟩
 refine .sl A i.size n _ w.heap.size 0 n (fun m r=>out.getD (m*i.size+r) undef) hn0 (cCq _) ?_ (.inr rfl) (fun m hm=>?_) (fun m r hm hr=>?_) (fun m r hm hr=>?_) fun m r x hm hx=>?_
 ·unfold maxLen;have:n*1≤n*i.size:=cBh _ hz0;omega
 ·obtain ⟨p,hp1,hp2⟩:=hgetp m hm;rw[hp2];exact (l3 hp m p hp1).2.2.1
 ·obtain ⟨p,hp1,hp2⟩:=hgetp m hm;have hlt:m*i.size+r<out.size:=by
   rw[o2];have:(m+1)*i.size≤n*i.size:=cEr _ hm;rw[cBb] at this;omega
  rw[cFa,World.cell?_alloc_new];simp[cAt hlt]
 ·obtain ⟨p,hp1,hp2⟩:=hgetp m hm;obtain ⟨_,h2,h3,_⟩:=hpart m p hp1;have:=hout m p r hp1 hr;rw[cAt (show r<(a.eval p.2).cells.size by omega)] at this;simp only[cBt,this,bZy];exact h3 _ b7
 obtain ⟨p,hp1,hp2⟩:=hgetp m hm;rw[hp2] at hx;obtain ⟨_,h2,_,h4⟩:=hpart m p hp1;have hr:r<i.size:=by
  rw[← (l3 hp m p hp1).2.2.1];rcases cBd r (cE (un (ev ρ p.2))).length with h|h
  ·exact h
  rw[cAw h] at hx;cases hx
 have:=hout m p r hp1 hr;rw[cAt (show r<(a.eval p.2).cells.size by omega)] at this;simp only[cBt,this,bZy];exact hgr.rel hsim.osim (h4 r x _ hx (by simp[cAt (show r<(a.eval p.2).cells.size by omega)]))
theorem bLx {o:Oper} {K:aV→Prop} {t:TypeId} {x y:Operand} {d:Nat} {e:TypeId} {z by_:Nat} {zs:List Value} {k k':IntKind} {n c:Int} (hop:o.op=.makeSlice t x y) (hg:o.guard=none) (hdst:o.dst=some d) (hd:d<nt)
  (ho:dP nt o=true) (hx:ev ρ x=.v (.int k n)) (hy:ev ρ y=.v (.int k' c)) (hs:pT P t=some (e,z,by_)) (hz:eE P e=some zs) (hzl:zs.length=z) (h0:0≤n) (h1:n≤c) (h2:c≤9223372036854775807)
  (h3:c*by_≤140737488355328) (hK:K (set ρ d (.sl z n.toNat fun _=>zs.map .v))):OW P nt ops o K ρ:=by
 obtain ⟨hu,i,hi,rfl,rfl⟩:=gE hs;obtain ⟨i',zv,hi',hzv,rfl,hone⟩:=eR hz;rw[hi] at hi';cases hi';refine fU hg fun I A a w hsim=>?_;have hxr:=hsim.opd x (bO ho (by simp[hop,Op.operands])) (by rw[hx];trivial);have hyr:=hsim.opd y (bO ho (by simp[hop,Op.operands])) (by rw[hy];trivial);rw[hx] at hxr;rw[hy] at hyr;have hxe:a.eval x=.int k n:=by
  have hxr:bN w I A (.v (.int k n)) (a.eval x):=hxr;generalize a.eval x=q at hxr ⊢;cases hxr;rfl
 have hye:a.eval y=.int k' c:=by
  have hyr:bN w I A (.v (.int k' c)) (a.eval y):=hyr;generalize a.eval y=q at hyr ⊢;cases hyr;rfl
 have hwn:IntKind.i64.wrap n=n:=IntWalk.i64_in n ⟨by omega,by omega⟩;have hwc:IntKind.i64.wrap c=c:=IntWalk.i64_in c ⟨by omega,by omega⟩;have hzs:zv.cells.size=i.size:=by simpa using hzl
 obtain ⟨us,husd⟩: ∃us:Array Value,us=(Array.range (c.toNat*i.size)).map (zv.cells[· %zv.cells.size]!):=⟨_,rfl⟩;have hus:us.size=c.toNat*i.size:=by simp[husd]
 have hget: ∀m r,m<c.toNat→r<i.size→us[m*i.size+r]?=zv.cells[r]?:=fun m r hm hr=>by
  have hlt:m*i.size+r<c.toNat*i.size:=by
   have:(m+1)*i.size≤c.toNat*i.size:=cEr _ aN;rw[cBb] at this;omega
  have e1:(m*i.size+r)%zv.cells.size=r:=by rw[hzs,bZx,Nat.mul_add_mod,cCd hr]
  simp only[husd,cDv,Array.getElem?_range,hlt,if_true,cBj,e1];rw[cAt aN,cFw _ _ aN]
 have hrun:(execOp a.eval o).run P w=.ok (.value (.slice (some ⟨w.heap.size,0,none⟩) n.toNat c.toNat)) (w.alloc (.cells us e)):=by
  simp only[execOp,hop,hxe,hye,Instr.makeSlice,asInt,asIntOf,Sem.run_bind,run_underlying hu,Result.andThen_ok,Sem.run_pure,run_typeInfo w hi,hwn,hwc,run_askRoom,run_sizeOf w hi,Program.cellsOf,hi,cBj,bZy];have hcond:(decide (c<0)||decide ((i.bytes:Int)*c>2^48)||decide (n<0)||decide (n>c))=false:=by
   have hc48:(i.bytes:Int)*c≤140737488355328:=by rw[Int.mul_comm];exact h3
   have e48:(2:Int)^48=281474976710656:=by decide
   simp only[cCb,cFu,e48];omega
  rw[hcond,if_neg b7];simp only[Sem.run_bind,run_askRoom,Result.andThen_ok,run_sizeOf w hi,Program.cellsOf,hi,cBj,bZy];by_cases hzero:c.toNat*i.size=0
  ·have he:us= #[]:=by
    apply cFo;rw[hus,hzero]
   rw[if_pos hzero,he];simp[newRow,hzero,Array.range_zero']
  rw[if_neg hzero];simp[zeroValue,run_typeInfo w hi,hzv,newRow,husd]
 have hgr:=hsim.newData e us;refine ⟨_,_,_,A,_,hrun,?_,hgr.ext hsim.osim,hK⟩;rw[hdst];refine (hsim.grow hgr).put hd (.ofRel ?_) (.ofPure rfl);rcases bZl n.toNat with h00|h00
 ·rw[h00];exact .sl0 A _ _ _ _
 refine .sl A i.size n.toNat _ w.heap.size 0 c.toNat (fun m r=>us.getD (m*i.size+r) undef) h00 aN (by unfold maxLen;omega) (.inr rfl) (fun m hm=>by simp[hzs]) (fun m r hm hr=>?_) (fun m r hm hr=>?_) fun m r x hm hx=>?_
 ·have hlt:m*i.size+r<us.size:=by
   rw[hus];have:(m+1)*i.size≤c.toNat*i.size:=cEr _ aN;rw[cBb] at this;omega
  rw[cFa,World.cell?_alloc_new];simp[cAt hlt]
 ·have:=hget m r aN hr;simp only[cBt,this];rw[cAt aN];exact hone _ b7
 have hr:r<i.size:=by
  have:=(cBz.1 hx).1;simpa[hzs] using this
 have:=hget m r aN hr;simp only[cBt,this];simp only[cDj,cBa,cAg] at hx;obtain ⟨q,hq,rfl⟩:=hx;rw[hq];exact .v _ _
theorem bJg {o:Oper} {K:aV→Prop} {t:TypeId} {d:Nat} {e:TypeId} {z by_:Nat} (hop:o.op=.buildSlice t 0 #[]) (hg:o.guard=none) (hdst:o.dst=some d) (hd:d3 nt o=true)
  (hs:pT P t=some (e,z,by_)) (hK:K (set ρ d .ez)):OW P nt ops o K ρ:=by
 obtain ⟨hu,i,hi,rfl,rfl⟩:=gE hs;refine fU hg fun I A a w hsim=>?_;have hgr:=mI.alloc hsim.osim (.cells #[] e);have hs1:=hsim.grow hgr;refine ⟨.slice (some ⟨w.heap.size,0,none⟩) 0 0,w.alloc (.cells #[] e),I,A,_,?_,hs1.putV hd (.ez A _),hgr.ext hsim.osim,by rw[hdst];exact hK⟩;simp[execOp,hop,Instr.buildSlice,run_underlying hu,run_sizeOf w hi,Program.cellsOf,hi,Instr.fill,newRow,Array.range_zero']
theorem bGq {o:Oper} {K:aV→Prop} {t:TypeId} {d:Nat} {e:TypeId} {z by_:Nat} (hop:o.op=.buildSlice t 0 #[]) (hg:o.guard=none) (hdst:o.dst=some d) (hd:d<nt)
  (hs:pT P t=some (e,z,by_)) (hK:K (set (dG d ρ) d (.row e z []))):OW P nt ops o K ρ:=by
 obtain ⟨hu,i,hi,rfl,rfl⟩:=gE hs;refine fU hg fun I A a w hsim=>?_;obtain ⟨A',k1,k2⟩:=hsim.newRow hd (e:=e) (z:=i.size) (c:=0) (xs:=[]) (us:= #[]) b7 (by unfold maxLen;omega) b7 (fun m x hx=>by simp at hx);refine ⟨.slice (some ⟨w.heap.size,0,none⟩) 0 0,_,I,A',_,?_,by rw[hdst];exact k1,k2,hK⟩;simp[execOp,hop,Instr.buildSlice,run_underlying hu,run_sizeOf w hi,Instr.fill,newRow,Array.range_zero']
end
end Go.Sg
namespace Go.Sg
open Go.RowKit
def fV (P:Program) (t:TypeId) (i:Nat):Option (Nat×Nat):=
 match P.underlying t with
 |some (.struct fs)=>match fs[i]? with
  |some f=>match P.info? f.type with
   |some x=>some (f.offset,x.size)
   |none=>none
  |none=>none
 |some (.array _ e)=>match P.info? e with
  |some x=>some (i*x.size,x.size)
  |none=>none
 |_=>none
def mD (P:Program) (t:TypeId):Bool:=
 match P.underlying t with
 |some (.struct fs)=>fs.toList.all fun f=>(P.info? f.type).isSome
 |some (.array _ e)=>(P.info? e).isSome
 |_=>false
def kN (P:Program) (ρ:aV) (t:TypeId):List (Nat×Operand)→List DV→Prop×List DV
 | [],cs=>(True,cs)
 |p::l,cs=>match fV P t p.1 with
  |some (off,s)=>(gd (ev ρ p.2)∧(cE (un (ev ρ p.2))).length=s∧0<s∧off+s≤cs.length∧(kN P ρ t l (spl off (cE (un (ev ρ p.2))) cs)).1,(kN P ρ t l (spl off (cE (un (ev ρ p.2))) cs)).2)
  |none=>(False,cs)
theorem cGu (P:Program) (ρ:aV) (t:TypeId) (cs:List DV):kN P ρ t [] cs=(True,cs):=rfl
theorem aPp (P:Program) (ρ:aV) (t:TypeId) (i:Nat) (x:Operand) (l:List (Nat×Operand)) (cs:List DV) {off s:Nat} (h:fV P t i=some (off,s)):kN P ρ t ((i,x)::l) cs=
  (gd (ev ρ x)∧(cE (un (ev ρ x))).length=s∧0<s∧off+s≤cs.length∧(kN P ρ t l (spl off (cE (un (ev ρ x))) cs)).1,(kN P ρ t l (spl off (cE (un (ev ρ x))) cs)).2):=by
 conv=>lhs;unfold kN
 simp only[h]
def wD (P:Program) (ρ:aV) (t:TypeId) (parts:List (Nat×Operand)):Prop×DV:=
 match eE P t with
 |some zs=>(mD P t=true∧(kN P ρ t parts (zs.map .v)).1,.agg (kN P ρ t parts (zs.map .v)).2)
 |none=>(False,.any)
section
variable {P:Program} {nt:Nat} {ρ:aV} {ops:Array Oper}
def CR (w:World) (I:Nat→Prop) (A:cY) (cs:List DV) (us:Array Value):Prop:=
 cs.length=us.size∧(∀u∈us.toList,u.oneCell'=true)∧ ∀(j:Nat) (d:DV) (u:Value),cs[j]?=some d→us[j]?=some u→bN w I A d u
theorem aAj {w:World} {I:Nat→Prop} {A:cY} {a:Act} (hs:cV nt w I A ρ a) {t:TypeId} (place:Nat→Option (Nat×Nat)) (hp: ∀i p,fV P t i=some p→place i=some p): ∀(parts:List (Nat×Operand)) (cs:List DV) (us:Array Value),
  (∀p∈parts,iE nt p.2=true)→CR w I A cs us→(kN P ρ t parts cs).1→ ∃out,Instr.fill place us (parts.map fun p=>(p.1,a.eval p.2))=some out∧CR w I A (kN P ρ t parts cs).2 out
 | [],cs,us,_,hc,_=>⟨us,rfl,hc⟩
 |(i,x)::l,cs,us,ho,hc,h=>by
  cases hpl:fV P t i with
  |none=>unfold kN at h;simp only[hpl] at h
  |some q=>
   obtain ⟨off,s⟩:=q;rw[aPp P ρ t i x l cs hpl] at h ⊢;obtain ⟨h1,h2,h3,h4,h5⟩:=h;have hx:=hs.opd x (ho (i,x) b7) h1;obtain ⟨k1,k2,k3⟩:=nX hx (.inl aN);have hsz:(a.eval x).cells.size=s:=by omega
   obtain ⟨c1,c2,c3⟩:=hc;obtain ⟨f1,f2⟩:=wQ off (a.eval x).cells.toList us 0 (by simp;omega);simp only[cAh,cCy] at f1 f2;have hzip:((a.eval x).cells.zipIdx.foldl (fun cs (p:Value×Nat)=>cs.setIfInBounds (off+p.2) p.1) us)=((a.eval x).cells.toList.zipIdx 0).foldl (fun cs (p:Value×Nat)=>cs.setIfInBounds (off+p.2) p.1) us:=by
    rw[← cFn,Array.toList_zipIdx]
   generalize hnew:((a.eval x).cells.toList.zipIdx 0).foldl (fun cs (p:Value×Nat)=>cs.setIfInBounds (off+p.2) p.1) us=us' at*;have hc':CR w I A (spl off (cE (un (ev ρ x))) cs) us':=by
    have hle:off+(cE (un (ev ρ x))).length≤cs.length:=by omega
    rw[aJk hle];refine ⟨by simp only[cAb,cCw,cEk];omega,fun u hu=>?_,fun j d u hd hu=>?_⟩
    ·obtain ⟨q,hq⟩:=cAe hu;rw[cAg,f2] at hq;split at hq
     ·exact k2 u (cDb hq)
     exact c2 u (by simpa using cBu hq)
    rw[f2] at hu;rw[bZq,bZq] at hd;simp only[cAb,cCw,cBx (show off≤cs.length by omega)] at hd;by_cases e1:j<off
    ·rw[if_pos aN,if_pos e1,cEl,if_pos e1] at hd;rw[if_neg aN] at hu;exact c3 j d u hd hu
    by_cases e2:j<off+s
    ·rw[if_pos aN,if_neg e1] at hd;rw[if_pos aN] at hu;exact k3 _ d u hd (by simpa using hu)
    rw[if_neg aN,cCg] at hd;rw[if_neg aN] at hu;rw[show off+(cE (un (ev ρ x))).length+(j-(off+(cE (un (ev ρ x))).length))=j by omega] at hd;exact c3 j d u hd hu
   obtain ⟨out,o1,o2⟩:=aAj hs place hp l _ us' (fun p hp'=>ho p (by simp[hp'])) hc' h5;refine ⟨out,?_,o2⟩;rw[cEb];unfold Instr.fill;rw[hp i _ hpl];simp only;rw[if_neg (by simp[hsz];omega),hzip];exact o1
theorem tI {α β:Type} {w:World} (f:α→Sem β): ∀(l:List α) (vs:List β),l.length=vs.length→(∀(j:Nat) (x:α) (v:β),l[j]?=some x→vs[j]?=some v→(f x).run P w=.ok v w)→
  (l.mapM f).run P w=.ok vs w
 | [],[],_,_=>rfl
 |x::l,v::vs,hl,h=>by
  have h0:=h 0 x v b7 b7;have ih:=tI f l vs (by simpa using hl) fun j y u hy hu=>h (j+1) y u (by simpa using hy) (by simpa using hu);simp[cDd,h0,ih]
 | [],_::_,hl,_=>by simp at hl
 |_::_,[],hl,_=>by simp at hl
theorem aTr {w:World} {I:Nat→Prop} {A:cY} {a:Act} (hs:cV nt w I A ρ a) {t:TypeId} {parts:Array (Nat×Operand)} (ho: ∀p∈parts.toList,iE nt p.2=true) (h:(wD P ρ t parts.toList).1):
  ∃x,(Instr.build t (parts.map fun (i,x)=>(i,a.eval x))).run P w=.ok x w∧bN w I A (wD P ρ t parts.toList).2 x:=by
 unfold wD at h ⊢;cases hz:eE P t with
 |none=>rw[hz] at h;exact h.elim
 |some zs=>
  rw[hz] at h;obtain ⟨h1,h2⟩:=h;simp only;obtain ⟨i,zv,hi,hzv,hzc,hone⟩:=eR hz;have h1':=h1;unfold mD at h1';split at h1'
  ·rename_i fs hu;rw[cCk] at h1'
   let places:Array (Nat×Nat):=fs.map fun f=>(f.offset,P.cellsOf f.type)
   have hpl: ∀k p,fV P t k=some p→places[k]?=some p:=fun k p hk=>by
    unfold fV at hk;rw[hu] at hk;simp only at hk;split at hk<;>try cases hk
    rename_i f hf;split at hk<;>try cases hk
    rename_i x hx;simp only[places,cDv,hf,cBj,Program.cellsOf,hx,bZy]
   have hrunp:(fs.mapM fun f=>(do pure (f.offset,← sizeOf f.type):Sem (Nat×Nat))).run P w=.ok places w:=by
    have:=tI (P:=P) (w:=w) (fun f:Field=>(do pure (f.offset,← sizeOf f.type):Sem (Nat×Nat))) fs.toList places.toList (by simp[places]) (fun j f v hf hv=>by
     have hf':f∈fs.toList:=cDb hf;obtain ⟨x,hx⟩:=cAu.1 (h1' f hf');have:v=(f.offset,P.cellsOf f.type):=by
      simp only[places,Array.toList_map,cDj,hf,cBj,cAx] at hv;exact hv.symm
     subst this;simp[run_sizeOf w hx,Program.cellsOf,hx])
    have e:fs=fs.toList.toArray:=by simp
    rw[e,cAp,Sem.run_map,this];show Result.ok places.toList.toArray w=Result.ok places w;rw[Array.toArray_toList]
   have hc0:CR w I A (zs.map .v) zv.cells:=⟨by rw[cAr,← hzc];simp,by rw[hzc];exact hone,fun j d u hd hu=>by
    rw[cDj,cBa] at hd;obtain ⟨y,hy,rfl⟩:=hd;rw[← hzc,cAg,hu] at hy;cases hy;exact .v A _⟩
   obtain ⟨out,o1,o2⟩:=aAj (P:=P) hs (fun k=>places[k]?) hpl parts.toList _ _ ho hc0 h2;refine ⟨.agg out,?_,?_⟩
   ·have hm:(parts.map fun (i,x)=>(i,a.eval x)).toList=parts.toList.map fun p=>(p.1,a.eval p.2):=by simp
    have e2:(fun f:Field=>(do pure (f.offset,← sizeOf f.type):Sem (Nat×Nat)))=fun f=>Functor.map (Prod.mk f.offset) (sizeOf f.type):=by funext f;simp
    rw[e2] at hrunp;unfold Instr.build;simp[zeroValue,run_typeInfo w hi,hzv,run_underlying hu,hrunp,hm,o1]
   exact .agg A _ out o2.1 o2.2.1 o2.2.2
  ·rename_i n e hu;obtain ⟨x,hx⟩:=cAu.1 h1';have hpl: ∀k p,fV P t k=some p→(fun k=>some (k*x.size,x.size)) k=some p:=fun k p hk=>by
    unfold fV at hk;rw[hu] at hk;simp only[hx] at hk;exact hk
   have hc0:CR w I A (zs.map .v) zv.cells:=⟨by rw[cAr,← hzc];simp,by rw[hzc];exact hone,fun j d u hd hu=>by
    rw[cDj,cBa] at hd;obtain ⟨y,hy,rfl⟩:=hd;rw[← hzc,cAg,hu] at hy;cases hy;exact .v A _⟩
   obtain ⟨out,o1,o2⟩:=aAj (P:=P) hs (fun k=>some (k*x.size,x.size)) hpl parts.toList _ _ ho hc0 h2;refine ⟨.agg out,?_,?_⟩
   ·have hm:(parts.map fun (i,x)=>(i,a.eval x)).toList=parts.toList.map fun p=>(p.1,a.eval p.2):=by simp
    unfold Instr.build;simp[zeroValue,run_typeInfo w hi,hzv,run_underlying hu,run_sizeOf w hx,Program.cellsOf,hx,hm,o1]
   exact .agg A _ out o2.1 o2.2.1 o2.2.2
  cases h1'
theorem aKv {o:Oper} {K:aV→Prop} {t:TypeId} {parts:Array (Nat×Operand)} (hop:o.op=.build t parts) (hg:o.guard=none) (ho:dP nt o=true) (hd:d3 nt o=true) (h:(wD P ρ t parts.toList).1)
  (hK:K (putD ρ o.dst (wD P ρ t parts.toList).2)):OW P nt ops o K ρ:=
 fU hg fun I A a w hs=>by
  obtain ⟨x,h1,h2⟩:=aTr (P:=P) hs (fun p hp=>bO ho (x:=p.2) (by
   simp only[hop,Op.operands];simp;exact ⟨p.1,by simpa using hp⟩)) h
  exact ⟨x,w,I,A,_,by simp[execOp,hop,h1],hs.putV hd h2,e8.refl _ _ _,hK⟩
end
end Go.Sg
namespace Go.Sg
open Go.RowKit
section
variable {P:Program} {nt:Nat} {ρ:aV} {ops:Array Oper}
def iS (ρ:aV):DV→List (List DV)
 | .sl _ m f=>(List.range m).map f
 | .own s m=>match ρ s with
  | .row _ _ xs=>xs.take m
  |_=>[]
 |_=>[]
def vM (ρ:aV) (z:Nat):DV→Prop
 | .sl z' _ _=>z'=z
 | .own s m=> ∃e xs,ρ s=.row e z xs∧m≤xs.length
 | .v (.slice none 0 _)=>True
 | .ez=>True
 |_=>False
theorem aOx {w:World} {I:Nat→Prop} {A:cY} {a:Act} (hs:cV nt w I A ρ a) {z:Nat} {d:DV} {u:Value} (h:bN w I A d u) (ho:vM ρ z d):
  ∃b m c,u=.slice b m c∧(iS ρ d).length=m∧((b=none∧m=0)∨ ∃(ad:Addr) (news:List Value),b=some ad∧news.length=m*z∧(∀j v,news[j]?=some v→w.cell? (ad.add j)=some v)∧(∀v∈news,v.oneCell'=true)∧
   ∀(i:Nat) (x:List DV),(iS ρ d)[i]?=some x→x.length=z∧ ∀(j:Nat) (e:DV) (v:Value),x[j]?=some e→news[i*z+j]?=some v→bN w I cU e v):=by
 have mk: ∀(bk o m:Nat) (us:Nat→Nat→Value) (src:List (List DV)),src.length=m→
   (∀i j,i<m→j<z→w.cell? ⟨bk,o+(i*z+j),none⟩=some (us i j))→(∀i j,i<m→j<z→(us i j).oneCell'=true)→
   (∀(i:Nat) (x:List DV),src[i]?=some x→x.length=z∧ ∀(j:Nat) (e:DV),x[j]?=some e→bN w I cU e (us i j))→
   ∃(news:List Value),news.length=m*z∧(∀j v,news[j]?=some v→w.cell? ((⟨bk,o,none⟩:Addr).add j)=some v)∧(∀v∈news,v.oneCell'=true)∧
    ∀(i:Nat) (x:List DV),src[i]?=some x→x.length=z∧ ∀(j:Nat) (e:DV) (v:Value),x[j]?=some e→news[i*z+j]?=some v→bN w I cU e v:=by
  intro bk o m us src hl hcell hone hrel;have hdm: ∀j,j<m*z→j/z<m∧j%z<z:=fun j hj=>by
   have hz:0<z:=by
    rcases bZl z with h|h
    ·subst h;simp at hj
    exact h
   exact ⟨Nat.div_lt_of_lt_mul (by rwa [bZx] at hj),Nat.mod_lt _ hz⟩
  refine ⟨(List.range (m*z)).map fun j=>us (j/z) (j%z),by simp,fun j v hj=>?_,fun v hv=>?_,fun i x hx=>⟨(hrel i x hx).1,fun j e v he hv=>?_⟩⟩
  ·simp only[cDj,cBa] at hj;obtain ⟨q,hq,rfl⟩:=hj;have hlt:j<m*z:=by
    rcases cBd j (m*z) with h|h
    ·exact h
    rw[cAw (by simpa using h)] at hq;cases hq
   rw[cBs hlt] at hq;cases hq;obtain ⟨h1,h2⟩:=hdm j hlt;rw[Addr.add_lit,← hcell _ _ h1 h2];congr 3;rw[bZx];exact (Nat.div_add_mod j z).symm
  ·simp only[cAy,cCc] at hv;obtain ⟨j,hj,rfl⟩:=hv;exact hone _ _ (hdm j hj).1 (hdm j hj).2
  simp only[cDj,cBa] at hv;obtain ⟨q,hq,rfl⟩:=hv;have hi:i<m:=by
   rw[← hl];rcases cBd i src.length with h|h
   ·exact h
   rw[cAw h] at hx;cases hx
  have hj:j<z:=by
   rw[← (hrel i x hx).1];rcases cBd j x.length with h|h
   ·exact h
   rw[cAw h] at he;cases he
  have hlt:i*z+j<m*z:=by
   have:(i+1)*z≤m*z:=cEr _ hi;rw[cBb] at this;omega
  rw[cBs hlt] at hq;cases hq;have e1:=jS (z:=z) (i:=i) (q:=i*z+j) aN aN aN;have e2:(i*z+j)%z=j:=by rw[bZx,Nat.mul_add_mod,cCd hj]
  rw[e1,e2];exact (hrel i x hx).2 j e he
 cases h with
 |sl0 _ z' f b c=>
  refine ⟨b,0,c,rfl,rfl,?_⟩;cases b with
  |none=>exact .inl ⟨rfl,rfl⟩
  |some ad=>exact .inr ⟨ad,[],rfl,by simp,by simp,by simp,fun i x hx=>by simp[iS] at hx⟩
 |sl _ z' n f b o c us hn hc hm hI hzz hcell hone hrel=>
  obtain rfl:z'=z:=ho;refine ⟨_,n,c,rfl,by simp[iS],.inr ?_⟩;have hget: ∀(i:Nat) (x:List DV),((List.range n).map f)[i]?=some x→i<n∧x=f i:=fun i x hx=>by
   simp only[cDj,cBa] at hx;obtain ⟨q,hq,rfl⟩:=hx;have hlt:i<n:=by
    rcases cBd i n with h|h
    ·exact h
    rw[cAw (by simpa using h)] at hq;cases hq
   rw[cBs hlt] at hq;cases hq;exact ⟨hlt,rfl⟩
  obtain ⟨news,h1,h2,h3,h4⟩:=mk b o n us ((List.range n).map f) b7 hcell hone fun i x hx=>by
   obtain ⟨hi,rfl⟩:=hget i x hx;exact ⟨hzz i hi,fun j e he=>hrel i j e hi he⟩
  exact ⟨_,news,rfl,h1,h2,h3,h4⟩
 |ez _ b=>
  refine ⟨b,0,0,rfl,rfl,?_⟩;cases b with
  |none=>exact .inl ⟨rfl,rfl⟩
  |some ad=>exact .inr ⟨ad,[],rfl,by simp,by simp,by simp,by simp[iS]⟩
 |own _ s n B c b hA hb=>
  obtain ⟨e',xs,hρ,hle⟩:=ho;have hown:=hs.osim.own s;rw[hρ] at hown;obtain ⟨B',c',hA',hrow⟩:=hown;rw[hA] at hA';simp only[cAx,bZo] at hA';obtain ⟨rfl,rfl⟩:=hA';simp only[iS,hρ];cases B with
  |none=>
   obtain ⟨rfl,_⟩:=hrow;simp at hle;subst hle;refine ⟨b,0,c,rfl,by simp,?_⟩;cases b with
   |none=>exact .inl ⟨rfl,rfl⟩
   |some ad=>exact .inr ⟨ad,[],rfl,by simp,by simp,by simp,by simp⟩
  |some g=>
   obtain ⟨us,q1,q2,q3,q4,q5⟩:=hrow;have hx: ∀i,i<n→xs[i]?=some (xs.getD i []):=fun i hi=>by rw[cFk,cEn aN];rfl
   have hin: ∀i j,i<n→j<z→i*z+j<us.size:=fun i j hi hj=>by
    rw[q2];have:(i+1)*z≤c*z:=cEr _ aN;rw[cBb] at this;omega
   have hus: ∀i j,i<n→j<z→us[i*z+j]?=some (us.getD (i*z+j) undef):=fun i j hi hj=>by simp[cAt (hin i j hi hj)]
   obtain ⟨news,h1,h2,h3,h4⟩:=mk g 0 n (fun i j=>us.getD (i*z+j) undef) (xs.take n) (by simp;omega)
    (fun i j hi hj=>by unfold World.cell?;simp only[q1,cFa];simpa using hus i j hi hj)
    (fun i j hi hj=>by
     obtain ⟨k1,k2⟩:=q5 i _ (hx i hi);exact (k2 j _ _ (cEn aN) (hus i j hi hj)).1)
    (fun i x hx'=>by
     rw[cEl] at hx';split at hx'<;>try cases hx'
     rename_i hi;obtain ⟨k1,k2⟩:=q5 i x hx';refine ⟨k1,fun j e he=>?_⟩;have hj:j<z:=by
      rw[← k1];rcases cBd j x.length with h|h
      ·exact h
      rw[cAw h] at he;cases he
     exact (k2 j e _ he (hus i j hi hj)).2)
   exact ⟨_,n,c,rfl,by simp;omega,.inr ⟨_,news,iZ hb,h1,h2,h3,h4⟩⟩
 |v _ x=>
  cases u<;>try exact ho.elim
  rename_i b n c;cases b<;>cases n<;>try exact ho.elim
  exact ⟨none,0,c,rfl,rfl,.inl ⟨rfl,rfl⟩⟩
 |_=>exact ho.elim
theorem cV.steady {w w':World} {I:Nat→Prop} {A:cY} {a:Act} (hs:cV nt w I A ρ a) (h1: ∀g,I g→w'.heap[g]?=w.heap[g]?) (h2: ∀s g c,A s=some (some g,c)→w'.heap[g]?=w.heap[g]?)
  (h3:w.heap.size≤w'.heap.size):cV nt w' I A ρ a:=by
 have hrel: ∀B d x,bN w I B d x→bN w' I B d x:=fun B d x hr=>hr.mono fun g hg=>⟨hg,fun o=>dW (h1 g hg) o⟩;refine ⟨⟨fun s=>(hs.osim.own s).keep (fun g c hg=>h2 s g c hg) hrel,hs.osim.inj,fun s g c hA=>⟨cDi (hs.osim.sep s g c hA).1 h3,(hs.osim.sep s g c hA).2⟩,hs.osim.imm.step (fun g hg=>cDi (hs.osim.imm g hg) h3) fun g hg=>⟨hg,h1 g hg⟩⟩,hs.size,hs.bound,fun i hi=>?_,hs.out⟩;have hsl:=hs.slot i hi;generalize a.tmps.getD i undef=x at*;cases hd:ρ i with
 |bx cs=>rw[hd] at hsl;exact hsl
 |row e z xs=>rw[hd] at hsl;exact hsl
 |cond g y=>rw[hd] at hsl;exact ⟨fun hg=>hrel _ _ _ (hsl.1 hg),hsl.2⟩
 |any=>exact .any A x
 |v y=>rw[hd] at hsl;exact hrel _ _ _ hsl
 |sl z n f=>rw[hd] at hsl;exact hrel _ _ _ hsl
 |agg cs=>rw[hd] at hsl;exact hrel _ _ _ hsl
 |tup cs=>rw[hd] at hsl;exact hrel _ _ _ hsl
 |dp cs=>rw[hd] at hsl;exact hrel _ _ _ hsl
 |bp t o=>rw[hd] at hsl;exact hrel _ _ _ hsl
 |own t n=>rw[hd] at hsl;exact hrel _ _ _ hsl
 |rp t z i o=>rw[hd] at hsl;exact hrel _ _ _ hsl
 |fn f b c=>rw[hd] at hsl;exact hrel _ _ _ hsl
 |iface t y=>rw[hd] at hsl;exact hrel _ _ _ hsl
 |mr t=>rw[hd] at hsl;exact hrel _ _ _ hsl
 |ez=>rw[hd] at hsl;exact hrel _ _ _ hsl
 |mo es=>rw[hd] at hsl;exact hsl
theorem tL {w:World} (base:Nat) (t ty e:TypeId) (i:TypeInfo) (size:Nat) (ht:P.underlying t=some (.slice e)) (hi:P.info? e=some i)
  (v:Value) (n:Nat) (xs:List Value) (hown:w.ownsRow base e size v n xs) (c:Nat):(Builtin.append_ #[t,t] ty #[v,.slice none 0 c]).run P w=.ok v w:=by
 rcases hown.2 with ⟨rfl,rfl⟩|⟨g,cap,cur,rfl,_,_,hnc,_⟩
 ·simp[Builtin.append_,run_underlying ht,sizeOf,typeInfo,hi,Builtin.lenOf,Builtin.firstCells]
 simp[Builtin.append_,run_underlying ht,sizeOf,typeInfo,hi,Builtin.lenOf,Builtin.firstCells,hnc,storeCells]
theorem rL {w:World} {I:Nat→Prop} {A A1:cY} {a:Act} {ρ1:aV} (hs1:cV nt w I A1 ρ1 a) {d:Nat} (hd:d<nt) {t ty e:TypeId} {z by_:Nat} {zs:List Value} (hsl:pT P t=some (e,z,by_)) (hz:eE P e=some zs) (hz0:0<z) (hzl:zs.length=z)
  {v:Value} {n:Nat} {xs:List (List DV)} {xsV:List Value} (hown:w.ownsRow 0 e z v n xsV) (hxl:xs.length=n)
  (hxr: ∀(i:Nat) (x:List DV),xs[i]?=some x→x.length=z∧ ∀(j:Nat) (d:DV) (u:Value),x[j]?=some d→xsV[i*z+j]?=some u→u.oneCell'=true∧bN w I cU d u)
  {src:List (List DV)} {b:Option Addr} {m c:Nat} (hsrcl:src.length=m)
  (hsrc:(b=none∧m=0)∨ ∃(ad:Addr) (news:List Value),b=some ad∧news.length=m*z∧(∀j v,news[j]?=some v→w.cell? (ad.add j)=some v)∧(∀v∈news,v.oneCell'=true)∧
   ∀(i:Nat) (x:List DV),src[i]?=some x→x.length=z∧ ∀(j:Nat) (e:DV) (v:Value),x[j]?=some e→news[i*z+j]?=some v→bN w I cU e v)
  (hb1:n+m≤9223372036854775807) (hb2:(n+m)*by_≤140737488355328)
  (hfree: ∀g,v.ownBlock=some g→g<w.heap.size∧ ¬I g∧ ∀s c,A1 s≠some (some g,c)) (hA1: ∀s y,A1 s=some y→A s=some y)
  (hAv: ∀g,v.ownBlock=some g→ ∃s c,s<100000∧A s=some (some g,c)) (hout: ∀s,100000≤s→A1 s=A s):
  ∃x w' A',(Builtin.append_ #[t,t] ty #[v,.slice b m c]).run P w=.ok x w'∧cV nt w' I A' (set (dG d ρ1) d (.row e z (xs++src))) (a.put (some d) x)∧e8 w I A w' I A':=by
 obtain ⟨hu,i,hi,rfl,rfl⟩:=gE hsl;obtain ⟨i',zv,hi',hzv,rfl,_⟩:=eR hz;rw[hi] at hi';cases hi';have hbnd:=hs1.bound
 obtain ⟨x,w',news,hrun,hown',hgr,hat,hnr⟩: ∃x w' news,(Builtin.append_ #[t,t] ty #[v,.slice b m c]).run P w=.ok x w'∧w'.ownsRow 0 e i.size x (n+m) (xsV++news)∧w.grownBy w' v.ownBlock∧
   (x.ownBlock=v.ownBlock∨x.ownBlock=some w.heap.size)∧(∀(k:Nat) (y:List DV),src[k]?=some y→y.length=i.size∧ ∀(j:Nat) (e:DV) (u:Value),y[j]?=some e→news[k*i.size+j]?=some u→u.oneCell'=true∧bN w I cU e u):=by
  rcases hsrc with ⟨rfl,rfl⟩|⟨ad,news,rfl,h1,h2,h3,h4⟩
  ·obtain rfl:src=[]:=cEj hsrcl;exact ⟨v,w,[],tL 0 t ty e i i.size hu hi v n xsV hown c,by simpa using hown,⟨rfl,rfl,rfl,cCq _,fun _ _ _=>rfl⟩,.inl rfl,by simp⟩
  obtain ⟨x,w',k1,k2,k3,_,k5⟩:=run_append_own_at (P:=P) w 0 t ty e i zv i.size i.bytes hu hi hzv rfl rfl (by simpa using hzl) hz0 v n xsV hown ad m c news h1 h2 h3 (by unfold maxLen;omega) hb2 (bZt _);exact ⟨x,w',news,k1,k2,k3,k5,fun k y hy=>⟨(h4 k y hy).1,fun j e u he hu=>⟨h3 u (cDb hu),(h4 k y hy).2 j e u he hu⟩⟩⟩
 have hblk: ∀g,g<w.heap.size→some g≠v.ownBlock→w'.heap[g]?=w.heap[g]?:=hgr.block
 have hs2:cV nt w' I A1 ρ1 a:=hs1.steady (fun g hg=>hblk g (hs1.osim.imm g hg) fun e=>(hfree g e.symm).2.1 hg)
  (fun s g c hA=>hblk g (hs1.osim.sep s g c hA).1 fun e=>(hfree g e.symm).2.2 s c hA) hgr.size
 have hrel: ∀d y,bN w I cU d y→bN w' I cU d y:=fun d y hr=>hr.mono fun g hg=>⟨hg,fun o=>dW (hblk g (hs1.osim.imm g hg) fun e=>(hfree g e.symm).2.1 hg) o⟩;have hlen:xsV.length=n*i.size:=hown.1
 have helem: ∀(cur:List Value),cur.take ((n+m)*i.size)=xsV++news→ ∀(k:Nat) (y:List DV),(xs++src)[k]?=some y→y.length=i.size∧ ∀(j:Nat) (e:DV) (u:Value),y[j]?=some e→cur[k*i.size+j]?=some u→
   u.oneCell'=true∧bN w' I cU e u:=fun cur hcur k y hy=>by
  have hk:k<n+m:=by
   rw[← hxl,← hsrcl,← cAb];rcases cBd k (xs++src).length with h|h
   ·exact h
   rw[cAw h] at hy;cases hy
  have hcg: ∀j,j<i.size→cur[k*i.size+j]?=(xsV++news)[k*i.size+j]?:=fun j hj=>by
   rw[← hcur,cEl,if_pos];have:(k+1)*i.size≤(n+m)*i.size:=cEr _ hk;rw[cBb] at this;omega
  rw[bZq,hxl] at hy;split at hy
  ·rename_i hkn;obtain ⟨k1,k2⟩:=hxr k y hy;refine ⟨k1,fun j e u he hu=>?_⟩;have hj:j<i.size:=by
    rw[← k1];rcases cBd j y.length with h|h
    ·exact h
    rw[cAw h] at he;cases he
   rw[hcg j hj,bZq,if_pos (by
    rw[hlen];have:(k+1)*i.size≤n*i.size:=cEr _ hkn;rw[cBb] at this;omega)] at hu
   exact ⟨(k2 j e u he hu).1,hrel _ _ (k2 j e u he hu).2⟩
  rename_i hkn;obtain ⟨k1,k2⟩:=hnr (k-n) y hy;refine ⟨k1,fun j e u he hu=>?_⟩;have hj:j<i.size:=by
   rw[← k1];rcases cBd j y.length with h|h
   ·exact h
   rw[cAw h] at he;cases he
  have hge:n*i.size≤k*i.size:=cEr _ aN;rw[hcg j hj,bZq,if_neg (by rw[hlen];omega),hlen] at hu;have e1:k*i.size+j-n*i.size=(k-n)*i.size+j:=by rw[Nat.sub_mul];omega
  rw[e1] at hu;exact ⟨(k2 j e u he hu).1,hrel _ _ (k2 j e u he hu).2⟩
 have hext: ∀(B:Option Nat) (cap:Nat),B=x.ownBlock→e8 w I A w' I (lA A1 d (some (B,cap))):=fun B cap hB=>by
  have hin: ∀g,B=some g→g<w.heap.size→v.ownBlock=some g:=fun g hg hlt=>by
   subst hg;rcases hat with h|h
   ·rw[← h,← hB]
   rw[← hB] at h;cases h;omega
  refine ⟨hgr.os,⟨hgr.tape,dR _ hrun⟩,hgr.output,hgr.size,fun _ h=>h,fun g hg hA=>⟨hblk g hg fun e=>?_,fun h=>h,fun s c' hc=>?_⟩,fun s g c' hc hg hl=>?_,fun s hs'=>?_⟩
  ·obtain ⟨s,c',_,hAs⟩:=hAv g e.symm;exact hA s c' hAs
  ·rcases cK hc with ⟨_,h⟩|⟨_,h⟩
   ·simp only[cAx,bZo] at h;obtain ⟨s',c2,_,hAs⟩:=hAv g (hin g h.1 hg);exact hA s' c2 hAs
   exact hA s c' (hA1 s _ h)
  ·rcases cK hc with ⟨_,h⟩|⟨_,h⟩
   ·simp only[cAx,bZo] at h;obtain ⟨s',c2,hs',hAs⟩:=hAv g (hin g h.1 hg);exact ⟨s',c2,hs',hAs⟩
   exact ⟨s,c',hl,hA1 s _ h⟩
  rw[eW _ _ aN,hout s hs']
 have hxlen:(xs++src).length=n+m:=by rw[cAb,hxl,hsrcl]
 rcases hown'.2 with ⟨rfl,h0⟩|⟨g,cap,cur,rfl,_,hg,hnc,hcm,hcs,htake⟩
 ·have hx0:xs=[]:=cEj aN;have hs0:src=[]:=cEj aN;refine ⟨.slice none 0 0,w',lA A1 d (some (none,0)),hrun,?_,hext none 0 rfl⟩;refine hs2.own hd (fun g hg=>by cases hg) ⟨none,0,dA _ _ _,none,kG _,by simp[hx0,hs0]⟩ ⟨none,0,dA _ _ _,?_⟩;exact ⟨by simp[hx0,hs0],rfl⟩
 refine ⟨.slice (some ⟨g,0,none⟩) (n+m) cap,w',lA A1 d (some (some g,cap)),hrun,?_,hext (some g) cap rfl⟩;refine hs2.own hd (fun g' hg'=>?_) ⟨some g,cap,dA _ _ _,_,aFs _,by rw[hxlen]⟩ ⟨some g,cap,dA _ _ _,cur,hg,hcs,hcm,by rw[hxlen];exact hnc,fun k y hy=>?_⟩
 ·cases hg';have hlt:g<w'.heap.size:=by
   rcases cBd g w'.heap.size with h|h
   ·exact h
   rw[cDy h] at hg;cases hg
  rcases hat with h|h
  ·have h:some g=v.ownBlock:=h;obtain ⟨q1,q2,q3⟩:=hfree g h.symm;exact ⟨hlt,q2,fun s c' _=>q3 s c'⟩
  have h:some g=some w.heap.size:=h;cases h;exact ⟨hlt,fun hI=>by have:=hs1.osim.imm _ hI;omega,fun s c' _ hc=>by have:=(hs1.osim.sep s _ c' hc).1;omega⟩
 obtain ⟨k1,k2⟩:=helem cur.toList htake k y hy;exact ⟨k1,fun j e u he hu=>k2 j e u he (by rw[cAg];exact hu)⟩
theorem zJ {w:World} {t ty e:TypeId} {i:TypeInfo} (ht:P.underlying t=some (.slice e)) (hi:P.info? e=some i) (b0 b:Option Addr) (m c:Nat) (hm:0<m) (hb:m*i.bytes≤140737488355328) (hb1:m≤9223372036854775807):
  (Builtin.append_ #[t,t] ty #[.slice b0 0 0,.slice b m c]).run P w=(Builtin.append_ #[t,t] ty #[.slice none 0 0,.slice b m c]).run P w:=by
 have h1: ¬m=0:=by omega
 have h4: ¬(9223372036854775807:Int)<(m:Int):=by omega
 have h2:Builtin.nextslicecap m 0=m:=by unfold Builtin.nextslicecap;rw[if_pos aN]
 have h3: ¬281474976710656<m*i.bytes:=by omega
 cases b0 with
 |none=>rfl
 |some a=>simp[Builtin.append_,run_underlying ht,sizeOf,run_typeInfo w hi,hi,Builtin.lenOf,Builtin.firstCells,h1,h2,h3,h4,loadCells,loadCellsFrom]
theorem vR {w:World} {I:Nat→Prop} {A A1:cY} {a:Act} {ρ1:aV} (hs1:cV nt w I A1 ρ1 a) {d:Nat} (hd:d<nt) {t ty e:TypeId} {z by_:Nat} {zs:List Value} (hsl:pT P t=some (e,z,by_)) (hz:eE P e=some zs) (hz0:0<z) (hzl:zs.length=z)
  (b0:Option Addr) {src:List (List DV)} {b:Option Addr} {m c:Nat} (hsrcl:src.length=m)
  (hsrc:(b=none∧m=0)∨ ∃(ad:Addr) (news:List Value),b=some ad∧news.length=m*z∧(∀j v,news[j]?=some v→w.cell? (ad.add j)=some v)∧(∀v∈news,v.oneCell'=true)∧
   ∀(i:Nat) (x:List DV),src[i]?=some x→x.length=z∧ ∀(j:Nat) (e:DV) (v:Value),x[j]?=some e→news[i*z+j]?=some v→bN w I cU e v)
  (hb1:m≤9223372036854775807) (hb2:m*by_≤140737488355328) (hA1: ∀s y,A1 s=some y→A s=some y) (hout: ∀s,100000≤s→A1 s=A s):
  ∃x w' A',(Builtin.append_ #[t,t] ty #[.slice b0 0 0,.slice b m c]).run P w=.ok x w'∧cV nt w' I A' (set (dG d ρ1) d (.row e z src)) (a.put (some d) x)∧e8 w I A w' I A':=by
 obtain ⟨hu,i,hi,he1,he2⟩:=gE hsl;have hbnd:=hs1.bound;rcases bZl m with h0|h0
 ·subst h0;obtain rfl:src=[]:=cEj hsrcl;refine ⟨.slice b0 0 0,w,lA A1 d (some (none,0)),?_,?_,?_⟩
  ·rcases hsrc with ⟨rfl,_⟩|⟨ad,news,rfl,_⟩<;>cases b0<;>simp[Builtin.append_,run_underlying hu,sizeOf,run_typeInfo w hi,hi,Builtin.lenOf,Builtin.firstCells,loadCells,loadCellsFrom,storeCells]
  ·exact hs1.own hd (fun g hg=>by cases hg) ⟨none,0,dA _ _ _,b0,kG _,rfl⟩ ⟨none,0,dA _ _ _,⟨rfl,rfl⟩⟩
  refine ⟨rfl,⟨rfl,cCq _⟩,rfl,cCq _,fun _ h=>h,fun g hg hA=>⟨rfl,fun h=>h,fun s c' hc=>?_⟩,fun s g c' hc hg hl=>?_,fun s hs'=>?_⟩
  ·rcases cK hc with ⟨_,h⟩|⟨_,h⟩
   ·cases h
   exact hA s c' (hA1 s _ h)
  ·rcases cK hc with ⟨_,h⟩|⟨_,h⟩
   ·cases h
   exact ⟨s,c',hl,hA1 s _ h⟩
  rw[eW _ _ aN,hout s hs']
 obtain ⟨x,w',A',k1,k2,k3⟩:=rL (P:=P) (A:=A) (A1:=A1) (ty:=ty) hs1 hd hsl hz hz0 hzl (v:=.slice none 0 0) (n:=0) (xs:=[]) (xsV:=[]) (World.ownsRow_nil w 0 e z) rfl b7 (c:=c) hsrcl hsrc aN (by simpa using hb2)
  (fun g h=>by cases h) hA1 (fun g h=>by cases h) hout
 refine ⟨x,w',A',?_,by simpa using k2,k3⟩;rw[zJ hu hi b0 b m c h0 (by rw[he2];exact hb2) hb1];exact k1
theorem aTs {o:Oper} {K:aV→Prop} {t:TypeId} {x y:Operand} {d s n:Nat} {e:TypeId} {z by_:Nat} {zs:List Value} {xs:List (List DV)} (hop:o.op=.call ⟨.builtin .append,#[x,y],#[t,t]⟩) (hg:o.guard=none) (hdst:o.dst=some d) (hd:d<nt)
  (ho:dP nt o=true) (hx:ev ρ x=.own s n) (hρ:ρ s=.row e z xs) (hs:s<100000) (hn:n≤xs.length) (hy:gd (ev ρ y)) (hsl:pT P t=some (e,z,by_)) (hz:eE P e=some zs) (hz0:0<z) (hzl:zs.length=z)
  (hsrc:vM ρ z (un (ev ρ y))) (hb1:n+(iS ρ (un (ev ρ y))).length≤9223372036854775807) (hb2:(n+(iS ρ (un (ev ρ y))).length)*by_≤140737488355328)
  (hK:K (set (dG d (set (dG s ρ) s .any)) d (.row e z (xs.take n++iS ρ (un (ev ρ y)))))):OW P nt ops o K ρ:=by
 refine fU hg fun I A a w hsim=>?_;have hxr:=hsim.opd x (bO ho (by simp[hop,Op.operands,Call.operands])) (by rw[hx];trivial);rw[hx] at hxr;have hxr:bN w I A (.own s n) (a.eval x):=hxr;have hyr:=hsim.opd y (bO ho (by simp[hop,Op.operands,Call.operands])) hy;obtain ⟨b,m,c,hye,hsl',hsrc'⟩:=aOx hsim hyr hsrc;rw[hsl'] at hb1 hb2;generalize hxe:a.eval x=v at hxr;have hown:=hsim.osim.own s;rw[hρ] at hown;obtain ⟨B,cc,hA,hrow⟩:=hown;cases hxr with
 |own _ _ _ B' c' b' hA' hb'=>
  rw[hA] at hA';simp only[cAx,bZo] at hA';obtain ⟨rfl,rfl⟩:=hA';have hs1:=hsim.disown hs;have huu:=gE hsl;have hA1: ∀s' y',lA A s none s'=some y'→A s'=some y':=fun s' y' h=>by
   rcases cK h with ⟨_,h⟩|⟨_,h⟩
   ·cases h
   exact h
  have fin: ∀q w' A',(Builtin.append_ #[t,t] o.type #[.slice b' n cc,.slice b m c]).run P w=.ok q w'→cV nt w' I A' (set (dG d (set (dG s ρ) s .any)) d (.row e z (xs.take n++iS ρ (un (ev ρ y))))) (a.put (some d) q)→e8 w I A w' I A'→
    ∃v w' I' A' ρ',(execOp a.eval o).run P w=.ok (.value v) w'∧cV nt w' I' A' ρ' (a.put o.dst v)∧e8 w I A w' I' A'∧K ρ':=fun q w' A' k1 k2 k3=>by
   refine ⟨q,w',I,A',_,?_,by rw[hdst];exact k2,k3,hK⟩;simp only[execOp,hop,resolve,Sem.run_bind,Sem.run_pure,Result.andThen_ok,invoke,builtin,List.map_toArray,cEb,cDk,hxe,hye];rw[k1];rfl
  cases B with
  |none=>
   obtain ⟨rfl,rfl⟩:=hrow;obtain rfl:n=0:=by simpa using hn
   obtain ⟨q,w',A',k1,k2,k3⟩:=vR (P:=P) (A:=A) (ty:=o.type) hs1 hd hsl hz hz0 hzl b' (c:=c) hsl' hsrc' aN (by simpa using hb2) hA1 (fun s' h=>eW A _ aN);exact fin q w' A' k1 (by simpa using k2) k3
  |some g=>
   obtain rfl:=iZ hb';obtain ⟨us,q1,q2,q3,q4,q5⟩:=hrow
   obtain ⟨xsV,hov,hov2⟩: ∃xsV,w.ownsRow 0 e z (.slice (some ⟨g,0,none⟩) n cc) n xsV∧
     ∀(i:Nat) (q:List DV),(xs.take n)[i]?=some q→q.length=z∧ ∀(j:Nat) (d:DV) (u:Value),q[j]?=some d→xsV[i*z+j]?=some u→u.oneCell'=true∧bN w I cU d u:=by
    refine ⟨us.toList.take (n*z),⟨?_,.inr ⟨g,cc,us,rfl,bZt _,q1,by omega,q3,q2,rfl⟩⟩,fun i q hq=>?_⟩
    ·rw[cCw,cCy,q2,cBx];exact cEr _ aN
    rw[cEl] at hq;split at hq<;>try cases hq
    rename_i hi;obtain ⟨k1,k2⟩:=q5 i q hq;refine ⟨k1,fun j d u hd hu=>?_⟩;rw[cEl] at hu;split at hu<;>try cases hu
    rw[cAg] at hu;exact k2 j d u hd hu
   have hfree: ∀g',(Value.slice (some ⟨g,0,none⟩) n cc).ownBlock=some g'→g'=g:=fun g' h=>by
    simp[Value.ownBlock] at h;exact h.symm
   obtain ⟨q,w',A',k1,k2,k3⟩:=rL (P:=P) (A:=A) (ty:=o.type) hs1 hd hsl hz hz0 hzl hov (by simp;omega) hov2 (c:=c) hsl' hsrc' hb1 hb2
    (fun g' h=>by
     obtain rfl:=hfree g' h;refine ⟨(hsim.osim.sep s _ cc hA).1,(hsim.osim.sep s _ cc hA).2,fun s' c' hc=>?_⟩;rcases cK hc with ⟨_,h⟩|⟨h1,h2⟩
     ·cases h
     exact h1 (hsim.osim.inj s' s _ c' cc h2 hA))
    hA1
    (fun g' h=>by obtain rfl:=hfree g' h;exact ⟨s,cc,hs,hA⟩)
    (fun s' h=>eW A _ aN)
   exact fin q w' A' k1 k2 k3
theorem aPi {o:Oper} {K:aV→Prop} {t:TypeId} {x y:Operand} {d:Nat} {e:TypeId} {z by_:Nat} {zs:List Value} (hop:o.op=.call ⟨.builtin .append,#[x,y],#[t,t]⟩) (hg:o.guard=none) (hdst:o.dst=some d) (hd:d<nt)
  (ho:dP nt o=true) (hx:ev ρ x=.ez) (hy:gd (ev ρ y)) (hsl:pT P t=some (e,z,by_)) (hz:eE P e=some zs) (hz0:0<z) (hzl:zs.length=z)
  (hsrc:vM ρ z (un (ev ρ y))) (hb1:(iS ρ (un (ev ρ y))).length≤9223372036854775807) (hb2:(iS ρ (un (ev ρ y))).length*by_≤140737488355328)
  (hK:K (set (dG d ρ) d (.row e z (iS ρ (un (ev ρ y)))))):OW P nt ops o K ρ:=by
 refine fU hg fun I A a w hsim=>?_;have hxr:=hsim.opd x (bO ho (by simp[hop,Op.operands,Call.operands])) (by rw[hx];trivial);rw[hx] at hxr;have hxr:bN w I A .ez (a.eval x):=hxr;have hyr:=hsim.opd y (bO ho (by simp[hop,Op.operands,Call.operands])) hy;obtain ⟨b,m,c,hye,hsl',hsrc'⟩:=aOx hsim hyr hsrc;rw[hsl'] at hb1 hb2;generalize hxe:a.eval x=v at hxr;cases hxr with
 |ez _ b'=>
  obtain ⟨q,w',A',k1,k2,k3⟩:=vR (P:=P) (A:=A) (A1:=A) (ty:=o.type) hsim hd hsl hz hz0 hzl b' (c:=c) hsl' hsrc' hb1 hb2 (fun _ _ h=>h) (fun _ _=>rfl);refine ⟨q,w',I,A',_,?_,by rw[hdst];exact k2,k3,hK⟩;simp only[execOp,hop,resolve,Sem.run_bind,Sem.run_pure,Result.andThen_ok,invoke,builtin,List.map_toArray,cEb,cDk,hxe,hye];rw[k1];rfl
theorem aPm {o:Oper} {K:aV→Prop} {t:TypeId} {x y:Operand} {d:Nat} {e:TypeId} {z by_:Nat} {zs:List Value} (hop:o.op=.call ⟨.builtin .append,#[x,y],#[t,t]⟩) (hg:o.guard=none) (hdst:o.dst=some d) (hd:d<nt)
  (ho:dP nt o=true) (hx:ev ρ x=.v (.slice none 0 0)) (hy:gd (ev ρ y)) (hsl:pT P t=some (e,z,by_)) (hz:eE P e=some zs) (hz0:0<z) (hzl:zs.length=z)
  (hsrc:vM ρ z (un (ev ρ y))) (hb1:(iS ρ (un (ev ρ y))).length≤9223372036854775807) (hb2:(iS ρ (un (ev ρ y))).length*by_≤140737488355328)
  (hK:K (set (dG d ρ) d (.row e z (iS ρ (un (ev ρ y)))))):OW P nt ops o K ρ:=by
 refine fU hg fun I A a w hsim=>?_;have hxr:=hsim.opd x (bO ho (by simp[hop,Op.operands,Call.operands])) (by rw[hx];trivial);rw[hx] at hxr;have hxr:bN w I A (.v (.slice none 0 0)) (a.eval x):=hxr;have hyr:=hsim.opd y (bO ho (by simp[hop,Op.operands,Call.operands])) hy;obtain ⟨b,m,c,hye,hsl',hsrc'⟩:=aOx hsim hyr hsrc;rw[hsl'] at hb1 hb2;generalize hxe:a.eval x=v at hxr;cases hxr
 obtain ⟨q,w',A',k1,k2,k3⟩:=rL (P:=P) (A:=A) (A1:=A) (ty:=o.type) hsim hd hsl hz hz0 hzl (v:=.slice none 0 0) (n:=0) (xs:=[]) (xsV:=[]) (World.ownsRow_nil w 0 e z) rfl b7 (c:=c) hsl' hsrc' aN (by simpa using hb2)
  (fun g h=>by cases h) (fun _ _ h=>h) (fun g h=>by cases h) (fun _ _=>rfl)
 refine ⟨q,w',I,A',_,?_,by rw[hdst];exact k2,k3,by simpa using hK⟩;simp only[execOp,hop,resolve,Sem.run_bind,Sem.run_pure,Result.andThen_ok,invoke,builtin,List.map_toArray,cEb,cDk,hxe,hye];rw[k1];rfl
end
end Go.Sg
namespace Go.Sg
open Go.RowKit
def aHl:Value→Option ByteArray
 | .string s=>some s
 |_=>none
theorem aAg {v:Value} {s:ByteArray}:aHl v=some s↔v=.string s:=by cases v<;>simp[aHl]
def aVq:List (Value×Value)→ByteArray→Value→Value
 | [],_,z=>z
 |e::es,s,z=>if aHl e.1=some s then e.2 else aVq es s z
def bWf (es:List (Value×Value)):Prop:=(∀e∈es,(aHl e.1).isSome=true)∧(es.map (·.1)).Nodup
def bXf (es:List (Value×Value)) (s:ByteArray):Prop:=(∀e∈es,(aHl e.1).isSome=true)∧ ∀e∈es,e.1≠ .string s
theorem aJv: ∀{es:List (Value×Value)},(es.map (·.1)).Nodup→ ∀{s:ByteArray} {v z:Value},(.string s,v)∈es→aVq es s z=v
 | [],_,s,v,z,h=>by cases h
 |e::es,hn,s,v,z,h=>by
  rw[cEb,cCu] at hn;unfold aVq;rcases cDt.1 h with rfl|h
  ·rw[if_pos (aAg.2 rfl)]
  rw[if_neg]
  ·exact aJv hn.2 h
  intro he;rw[aAg] at he;exact hn.1 (cAy.2 ⟨_,h,he.symm⟩)
theorem aKx: ∀{es:List (Value×Value)} {s:ByteArray} {z:Value},(∀e∈es,e.1≠ .string s)→aVq es s z=z
 | [],_,_,_=>rfl
 |e::es,s,z,h=>by
  unfold aVq;rw[if_neg fun he=>h e b7 (aAg.1 he)];exact aKx fun e' he'=>h e' (by simp[he'])
def aVs (P:Program) (t:TypeId):Option Value:=
 match P.underlying t with
 |some (.map kt e)=>(match P.underlying kt,P.info? e with
  |some .string,some i=>i.zero
  |_,_=>none)
 |_=>none
theorem aFn {P:Program} {t:TypeId} {z:Value} (h:aVs P t=some z): ∃kt e i,P.underlying t=some (.map kt e)∧P.underlying kt=some .string∧P.info? e=some i∧i.zero=some z:=by
 unfold aVs at h;split at h<;>try cases h
 rename_i kt e hu;split at h<;>try cases h
 rename_i hk hi;exact ⟨kt,e,_,hu,hk,hi,h⟩
theorem aLh {P:Program} {kt:TypeId} (hu:P.underlying kt=some .string) (w:World) (s:ByteArray) (vs:List MapEntry) (h: ∀e∈vs,(aHl e.key).isSome=true):
  ((Instr.findKey kt (.string s) vs).run P w=.ok none w∧ ∀e∈vs,e.key≠ .string s)∨ ∃j e,(Instr.findKey kt (.string s) vs).run P w=.ok (some (j,e.val)) w∧vs[j]?=some e∧e.key=.string s:=by
 rcases MapKept.findNow_spec (d:=.string) (k:=.string s) (show MapKept.IsKey .string (.string s) from trivial) vs 0 (fun e he=>by
   have:=h e he;cases hk:e.key<;>rw[hk] at this<;>first|trivial|(simp[aHl] at this)) with ⟨h1,h2⟩|⟨j,e,h1,h2,h3⟩
 ·exact .inl ⟨MapKept.run_findKey hu h1,h2⟩
 exact .inr ⟨j,e,by rw[MapKept.run_findKey hu h1,cFa],h2,h3⟩
section
variable {P:Program} {nt:Nat} {ρ:aV} {ops:Array Oper}
theorem cV.turnO {w w':World} {I:Nat→Prop} {A:cY} {a:Act} (hs:cV nt w I A ρ a) {s g c:Nat} (hA:A s=some (some g,c)) (hoth: ∀g',g'≠g→w'.heap[g']?=w.heap[g']?) (hsz:w'.heap.size=w.heap.size) {v:DV}
  (hsl: ∀x,cZ w I A s (ρ s) x→cZ w' I A s v x) (ho:d8 w' I A s v) (hout:100000≤s→dH v):cV nt w' I A (set ρ s v) a:=by
 have hI:=(hs.osim.sep s g c hA).2;have hne: ∀g',I g'→g'≠g:=fun g' h e=>hI (e▸h);have hrel: ∀B d x,bN w I B d x→bN w' I B d x:=fun B d x hr=>hr.mono fun g' hg'=>⟨hg',fun o=>dW (hoth g' (hne g' hg')) o⟩;have hslot: ∀t d x,cZ w I A t d x→cZ w' I A t d x:=fun t d x hr=>by
  cases d with
  |bx cs=>exact hr
  |row e z xs=>exact hr
  |cond g y=>exact ⟨fun hg=>hrel _ _ _ (hr.1 hg),hr.2⟩
  |any=>exact .any A x
  |v y=>exact hrel _ _ _ hr
  |sl z n f=>exact hrel _ _ _ hr
  |agg cs=>exact hrel _ _ _ hr
  |tup cs=>exact hrel _ _ _ hr
  |dp cs=>exact hrel _ _ _ hr
  |bp t o=>exact hrel _ _ _ hr
  |own t n=>exact hrel _ _ _ hr
  |rp t z i o=>exact hrel _ _ _ hr
  |fn f b c=>exact hrel _ _ _ hr
  |iface t y=>exact hrel _ _ _ hr
  |mr t=>exact hrel _ _ _ hr
  |ez=>exact hrel _ _ _ hr
  |mo es=>exact hr
 refine ⟨⟨fun t=>?_,hs.osim.inj,fun t g' c' h'=>?_,hs.osim.imm.step (fun g' h'=>by rw[hsz];exact hs.osim.imm g' h') fun g' h'=>⟨h',hoth g' (hne g' h')⟩⟩,hs.size,hs.bound,fun i hi=>?_,fun t ht=>?_⟩
 ·unfold set;split
  ·rename_i e;rw[e];exact ho
  rename_i e;exact (hs.osim.own t).keep (fun g' c' h'=>hoth g' fun e'=>e (hs.osim.inj t s g c' c (e'▸h') hA)) hrel
 ·rw[hsz];exact hs.osim.sep t g' c' h'
 ·unfold set;split
  ·rename_i e;rw[e] at hi ⊢;exact hsl _ (hs.slot s hi)
  exact hslot i _ _ (hs.slot i hi)
 unfold set;split
 ·rename_i e;exact hout (e▸ht)
 exact hs.out t ht
theorem e8.turnO {w w':World} {I:Nat→Prop} {A:cY} {s g c:Nat} (hA:A s=some (some g,c)) (hoth: ∀g',g'≠g→w'.heap[g']?=w.heap[g']?) (hsz:w'.heap.size=w.heap.size) (h1:w'.os=w.os) (h2:w'.tape=w.tape∧w.drawn≤w'.drawn) (h3:w'.output=w.output):e8 w I A w' I A where
 os:=h1
 tape:=h2
 output:=h3
 size:=by rw[hsz];exact cCq _
 imm:=fun _ h=>h
 old:=fun g' _ h'=>⟨hoth g' fun e=>h' s c (e▸hA),fun h=>h,h'⟩
 loc:=fun s g c hA _ hs=>⟨s,c,hs,hA⟩
 outA:=fun _ _=>rfl
def lkG (ρ:aV) (dst:Option Nat) (z:Option Value) (x k:DV) (K:aV→Prop):Prop:=
 match z,x,k with
 |some z,.mr s,.v (.string q)=>(match ρ s with
  | .mo es=>bWf es∧K (putD ρ dst (.v (aVq es q z)))
  |_=>False)
 |_,_,_=>False
def upG (ρ:aV) (z:Option Value) (x k v:DV) (K:aV→Prop):Prop:=
 match z,x,k,v with
 |some _,.mr s,.v (.string q),.v y=>(match ρ s with
  | .mo es=>bXf es q∧K (set ρ s (.mo (es++[(.string q,y)])))
  |_=>False)
 |_,_,_,_=>False
theorem aUr {o:Oper} {K:aV→Prop} {t:TypeId} {x k:Operand} (hop:o.op=.lookup t x k false) (hg:o.guard=none) (ho:dP nt o=true) (hd:d3 nt o=true)
  (h:lkG ρ o.dst (aVs P t) (ev ρ x) (ev ρ k) K):OW P nt ops o K ρ:=by
 unfold lkG at h;split at h
 ·rename_i _ _ _ z s q hz hx hk;split at h
  ·rename_i es hes;obtain ⟨⟨Z1,Z2⟩,hK⟩:=h;refine fU hg fun I A a w hs=>?_;obtain ⟨kt,e,i,u1,u2,u3,u4⟩:=aFn hz;have hxr:=hs.opd x (bO ho (by simp[hop,Op.operands])) (by rw[hx];trivial);have hkr:=hs.opd k (bO ho (by simp[hop,Op.operands])) (by rw[hk];trivial);rw[hx] at hxr;rw[hk] at hkr;have hxr:bN w I A (.mr s) (a.eval x):=hxr;have hkr:bN w I A (.v (.string q)) (a.eval k):=hkr;generalize hav:a.eval x=av at*;generalize hkv:a.eval k=kv at*;cases hkr;cases hxr with
   |mr _ _ g c hA=>
    have hown:=hs.osim.own s;rw[hes] at hown;obtain ⟨g',c',vs,cl,q1,q2,q3⟩:=hown;rw[hA] at q1;simp only[cAx,bZo] at q1;obtain ⟨rfl,rfl⟩:=q1;have hks: ∀e∈vs,(aHl e.key).isSome=true:=fun m hm=>Z1 (m.key,m.val) (by rw[← q3];exact cAy.2 ⟨m,hm,rfl⟩);have hck: ∀em,(Instr.checkKey em 10000 kt (.string q)).run P w=.ok () w:=fun em=>MapKept.run_checkKey u2 (show MapKept.IsKey .string (.string q) from trivial) em 9999;rcases aLh u2 w q vs hks with ⟨f1,f2⟩|⟨j,m,f1,f2,f3⟩
    ·refine ⟨z,w,I,A,_,?_,hs.putV hd ?_,e8.refl _ _ _,hK⟩
     ·simp[execOp,hop,hav,hkv,Instr.lookup,run_underlying u1,MapKept.run_getObj_map q2,hck,f1,zeroValue,typeInfo,u3,u4]
     rw[aKx fun e he=>by
      rw[← q3] at he;obtain ⟨m,hm,rfl⟩:=cAy.1 he;exact f2 m hm]
     exact .v _ _
    refine ⟨m.val,w,I,A,_,?_,hs.putV hd ?_,e8.refl _ _ _,hK⟩
    ·simp[execOp,hop,hav,hkv,Instr.lookup,run_underlying u1,MapKept.run_getObj_map q2,hck,f1]
    rw[aJv Z2 (v:=m.val) (by rw[← q3,← f3];exact cAy.2 ⟨m,cDb f2,rfl⟩)];exact .v _ _
  exact h.elim
 exact h.elim
theorem aHq {o:Oper} {K:aV→Prop} {t:TypeId} {x k y:Operand} (hop:o.op=.mapUpdate t x k y) (hg:o.guard=none) (hdst:o.dst=none) (ho:dP nt o=true)
  (h:upG ρ (aVs P t) (ev ρ x) (ev ρ k) (ev ρ y) K):OW P nt ops o K ρ:=by
 unfold upG at h;split at h
 ·rename_i _ _ _ _ z s q v hz hx hk hy;split at h
  ·rename_i es hes;obtain ⟨⟨Z1,Z2⟩,hK⟩:=h;refine z6 hg fun I A a w hs=>?_;obtain ⟨kt,e,i,u1,u2,u3,u4⟩:=aFn hz;have hxr:=hs.opd x (bO ho (by simp[hop,Op.operands])) (by rw[hx];trivial);have hkr:=hs.opd k (bO ho (by simp[hop,Op.operands])) (by rw[hk];trivial);have hyr:=hs.opd y (bO ho (by simp[hop,Op.operands])) (by rw[hy];trivial);rw[hx] at hxr;rw[hk] at hkr;rw[hy] at hyr;have hxr:bN w I A (.mr s) (a.eval x):=hxr;have hkr:bN w I A (.v (.string q)) (a.eval k):=hkr;have hyr:bN w I A (.v v) (a.eval y):=hyr;generalize hav:a.eval x=av at*;generalize hkv:a.eval k=kv at*;generalize hyv:a.eval y=yv at*;cases hkr;cases hyr;cases hxr with
   |mr _ _ g c hA=>
    have hown:=hs.osim.own s;rw[hes] at hown;obtain ⟨g',c',vs,cl,q1,q2,q3⟩:=hown;rw[hA] at q1;simp only[cAx,bZo] at q1;obtain ⟨rfl,rfl⟩:=q1;have hks: ∀e∈vs,(aHl e.key).isSome=true:=fun m hm=>Z1 (m.key,m.val) (by rw[← q3];exact cAy.2 ⟨m,hm,rfl⟩);have hck: ∀em,(Instr.checkKey em 10000 kt (.string q)).run P w=.ok () w:=fun em=>MapKept.run_checkKey u2 (show MapKept.IsKey .string (.string q) from trivial) em 9999;have hst:(Instr.keyThatStays (.string q) (.string q)).run P w=.ok (.string q) w:=MapKept.run_keyThatStays (show MapKept.IsKey .string (.string q) from trivial);rcases aLh u2 w q vs hks with ⟨f1,f2⟩|⟨j,m,f1,f2,f3⟩
    ·have hset:=MapKept.heap_set (o':=.map (vs++[({key:=.string q,val:=v,born:=cl}:MapEntry)]).toArray (cl+1)) q2;refine ⟨{w with heap:=w.heap.setIfInBounds g (.map (vs++[({key:=.string q,val:=v,born:=cl}:MapEntry)]).toArray (cl+1))},I,A,_,?_,?_,e8.turnO hA hset.2 b7 rfl ⟨rfl,cCq _⟩ rfl,hK⟩
     ·simp[execOp,hop,hav,hkv,hyv,Instr.mapUpdate,run_underlying u1,MapKept.run_getObj_map q2,hck,f1,MapKept.run_setObj_map _ q2]
     rw[hdst];refine hs.turnO hA hset.2 b7 (fun x' hx'=>?_) ⟨g,c,_,_,hA,hset.1,by rw[cAl,q3];rfl⟩ fun _=>rfl;rw[hes] at hx';exact hx'
    exact absurd f3 (Z2 (m.key,m.val) (by rw[← q3];exact cAy.2 ⟨m,cDb f2,rfl⟩))
  exact h.elim
 exact h.elim
theorem aOv {o:Oper} {K:aV→Prop} {t:TypeId} {d:Nat} (hop:o.op=.makeMap t none) (hg:o.guard=none) (hdst:o.dst=some d) (hd:d<nt) (hK:K (set (dG d ρ) d (.mo []))):OW P nt ops o K ρ:=by
 refine fU hg fun I A a w hs=>?_;have hb:=hs.bound;have hgr:=mI.alloc hs.osim (.map #[] 0);have hs1:=hs.grow hgr;refine ⟨.map (some w.heap.size),w.alloc (.map #[] 0),I,lA A d (some (some w.heap.size,0)),_,by simp[execOp,hop,Instr.makeMap,newObj,Sem.run],?_,?_,hK⟩
 ·rw[hdst];refine hs1.own hd (fun g hg=>?_) ⟨_,0,dA _ _ _,rfl⟩ ⟨w.heap.size,0,[],0,dA _ _ _,(MapKept.heap_alloc w _).1,rfl⟩;cases hg;refine ⟨by simp,fun hi=>?_,fun s c' _ hc=>?_⟩
  ·have:=hs.osim.imm _ hi;omega
  have:=(hs.osim.sep s _ c' hc).1;omega
 refine ⟨rfl,⟨rfl,cCq _⟩,rfl,by simp,fun _ h=>h,fun g hg hA=>⟨hgr.heap g hg,fun h=>h,fun s c hc=>?_⟩,fun s g c hc hg hl'=>?_,fun s h=>eW A _ aN⟩
 ·rcases cK hc with ⟨_,h⟩|⟨_,h⟩
  ·simp only[cAx,bZo] at h;omega
  exact hA s c h
 rcases cK hc with ⟨_,h⟩|⟨_,h⟩
 ·simp only[cAx,bZo] at h;omega
 exact ⟨s,c,hl',h⟩
end
end Go.Sg
namespace Go.Sg
open Go.RowKit
def bEo (ρ:aV) (d t:Nat) (c:DV) (K:aV→Prop):Prop:=
 match bX c with
 |true=>t≠d∧K (set (dG d (set (dG t ρ) t .any)) d (eH d (eH t c)))
 |false=>gd c∧K (set ρ d (un c))
def bRo (ρ:aV) (d:Nat) (c:DV) (K:aV→Prop):Prop:=
 gd c∧(0<(cE (un c)).length∨ ∃cs,un c=.agg cs)∧K (set (dG d ρ) d (eH d (.bx (cE (un c)))))
def aIu (ρ:aV) (d:Nat) (zs:Option (List Value)) (K:aV→Prop):Prop:=
 match zs with
 |some zs=>K (set (dG d ρ) d (.bx (zs.map .v)))
 |none=>False
def stR (ρ:aV) (s z i off n:Nat) (cs:List DV) (c:DV) (K:aV→Prop):Prop:=
 match c with
 | .row e z' xs=>z=z'∧cs.length=n∧i<xs.length∧off+n≤z∧eQ (fun _=>false) cs=true∧K (set ρ s (.row e z (xs.set i (spl off cs (xs.getD i [])))))
 |_=>False
def stG (ρ:aV) (n:Option Nat) (ad:DV) (x:DV) (K:aV→Prop):Prop:=
 match n with
 |none=>False
 |some n=>
  match ad with
  | .bp s off=>gd x∧0<n∧stB ρ s off n (cE (un x)) (ρ s) K
  | .rp s z i off=>gd x∧0<n∧stR ρ s z i off n (cE (un x)) (ρ s) K
  |_=>False
def mkG (P:Program) (ρ:aV) (d:Nat) (sl:Option (TypeId×Nat×Nat)) (x y:DV) (K:aV→Prop):Prop:=
 match sl,x,y with
 |some (e,z,by_),.v (.int _ n),.v (.int _ c)=>
  (match eE P e with
  |some zs=>zs.length=z∧0≤n∧n≤c∧c≤9223372036854775807∧c*by_≤140737488355328∧K (set (dG d ρ) d (.row e z (List.replicate n.toNat (zs.map .v))))
  |none=>False)
 |_,_,_=>False
def bEn (P:Program) (ρ:aV) (d:Nat) (sl:Option (TypeId×Nat×Nat)) (n:Nat) (parts:List (Nat×Operand)) (K:aV→Prop):Prop:=
 match sl with
 |some (e,z,_)=>
  (match parts with
  | []=>n=0∧K (set (dG d ρ) d (.row e z []))
  |parts=>(eE P e).isSome=true∧0<z∧0<n∧n*z≤16777216∧parts.length=n∧aAv ρ z 0 parts∧K (set ρ d (.sl z n fun i=>(bsL ρ parts).getD i [])))
 |none=>False
def aEq (ρ:aV) (d s n e z by_:Nat) (src:DV) (c:DV) (K:aV→Prop):Prop:=
 match c with
 | .row e' z' xs=>e'=e∧z'=z∧s<100000∧n≤xs.length∧vM ρ z src∧n+(iS ρ src).length≤9223372036854775807∧(n+(iS ρ src).length)*by_≤140737488355328∧
   K (set (dG d (set (dG s ρ) s .any)) d (.row e z (xs.take n++iS ρ src)))
 |_=>False
def aOj (P:Program) (ρ:aV) (d:Nat) (sl:Option (TypeId×Nat×Nat)) (x y:DV) (K:aV→Prop):Prop:=
 match sl with
 |some (e,z,by_)=>gd y∧0<z∧(eE P e).map List.length=some z∧
  (match x with
  | .own s n=>aEq ρ d s n e z by_ (un y) (ρ s) K
  | .v (.slice none 0 0)=>vM ρ z (un y)∧(iS ρ (un y)).length≤9223372036854775807∧(iS ρ (un y)).length*by_≤140737488355328∧K (set (dG d ρ) d (.row e z (iS ρ (un y))))
  | .ez=>vM ρ z (un y)∧(iS ρ (un y)).length≤9223372036854775807∧(iS ρ (un y)).length*by_≤140737488355328∧K (set (dG d ρ) d (.row e z (iS ρ (un y))))
  |_=>False)
 |none=>False
def gdL (ρ:aV):List Operand→Prop
 | []=>True
 |x::l=>gd (ev ρ x)∧gdL ρ l
theorem aTe (ρ:aV) (l:List Operand):gdL ρ l↔ ∀x∈l,gd (ev ρ x):=by
 induction l with
 |nil=>simp[gdL]
 |cons x l ih=>simp[gdL,ih]
def evL (ρ:aV) (l:List Operand):List DV:=l.map fun x=>un (ev ρ x)
def bNj (P:Program) (ρ:aV) (d:Nat) (f:Option (FuncId×List DV)) (K:aV→Prop):Prop:=
 match f with
 |some (f,l)=>aRk P ρ f l (fun O' r=>(bX r=true→eH d r=r)∧K (bCa O' d r)) ⟨⟩
 |none=>False
def aPe (P:Program) (f:Option (FuncId×List DV)):Prop:=
 match f with
 |some (f,_)=>aO P f=true
 |none=>False
def cbG (P:Program) (ρ:aV) (b:Builtin) (args:List Operand) (ts:List TypeId) (d:Option Nat) (K:aV→Prop):Prop:=
 match b,args,ts,d with
 | .append,[x,y],[t,t'],some d=>t=t'∧aOj P ρ d (pT P t) (ev ρ x) (ev ρ y) K
 |b,args,ts,d=>(aNm P ρ b args ts).1∧K (putD ρ d (aNm P ρ b args ts).2)
def aHn:Operand→Bool
 | .const (.slice none _ _)=>true
 |_=>false
def bAn:BinOp→Bool
 | .eql=>true
 |_=>false
def bTh (P:Program) (ρ:aV) (t:TypeId) (x:DV) (dst:Option Nat) (K:aV→Prop):Prop:=
 tk P t=2∧(match x with
  | .sl _ n _=> ∀b:Bool,(0<n→b=false)→K (putD ρ dst (.v (.bool b)))
  | .v (.slice a _ _)=>K (putD ρ dst (.v (.bool a.isNone)))
  |_=>False)
def bIn (P:Program) (ρ:aV) (b:BinOp) (t:TypeId) (x y:Operand) (dst:Option Nat) (K:aV→Prop):Prop:=
 bif bAn b&&aHn y then gd (ev ρ x)∧bTh P ρ t (un (ev ρ x)) dst K
 else ((gd (ev ρ x)∧gd (ev ρ y))∧(aCz (qR P t) (tk P t) b (un (ev ρ x)) (un (ev ρ y))).1)∧K (putD ρ dst (aCz (qR P t) (tk P t) b (un (ev ρ x)) (un (ev ρ y))).2)
def aEk (P:Program) (ρ:aV) (op:Op) (dst:Option Nat) (K:aV→Prop):Prop:=
 match op,dst with
 | .assign (.tmp t),some d=>bEo ρ d t (ρ t) K
 | .assign x,dst=>gd (ev ρ x)∧K (putD ρ dst (un (ev ρ x)))
 | .binOp b t x y _,dst=>bIn P ρ b t x y dst K
 | .build t parts,dst=>(wD P ρ t parts.toList).1∧K (putD ρ dst (wD P ρ t parts.toList).2)
 | .box _ x,some d=>bRo ρ d (ev ρ x) K
 | .alloc t,some d=>aIu ρ d (eE P t) K
 | .store t ad x,none=>stG ρ (gQ P t) (ev ρ ad) (ev ρ x) K
 | .makeSlice t x y,some d=>mkG P ρ d (pT P t) (ev ρ x) (ev ρ y) K
 | .buildSlice t n parts,some d=>bEn P ρ d (pT P t) n parts.toList K
 | .lookup t x k false,dst=>lkG ρ dst (aVs P t) (ev ρ x) (ev ρ k) K
 | .mapUpdate t x k y,none=>upG ρ (aVs P t) (ev ρ x) (ev ρ k) (ev ρ y) K
 | .makeMap _ none,some d=>K (set (dG d ρ) d (.mo []))
 | .call c,dst=>
  (match c.callee with
  | .value f=>(match dst with
   |some d=>gd (ev ρ f)∧gdL ρ c.args.toList∧aPe P (callee (un (ev ρ f)) (evL ρ c.args.toList))∧bNj P ρ d (callee (un (ev ρ f)) (evL ρ c.args.toList)) K
   |none=>False)
  | .builtin b=>cbG P ρ b c.args.toList c.argTypes.toList dst K
  |_=>False)
 |op,dst=>(oI P ρ op).1∧K (putD ρ dst (oI P ρ op).2)
section
variable {P:Program} {nt:Nat} {ρ:aV} {ops:Array Oper}
theorem aDh {off:Nat} {cs old:List DV} (h:off+cs.length≤old.length):(spl off cs old).length=old.length:=by
 unfold spl;split
 ·rw[cDr]
 split
 ·assumption
 simp only[cAb,cCw,cEk];omega
theorem aUe {o:Oper} {K:aV→Prop} {t:TypeId} {ad x:Operand} {n s z i off:Nat} (hop:o.op=.store t ad x) (hg:o.guard=none) (hdst:o.dst=none) (ho:dP nt o=true)
  (ha:ev ρ ad=.rp s z i off) (hx:gd (ev ρ x)) (hz:gQ P t=some n) (hl:0<n) (h:stR ρ s z i off n (cE (un (ev ρ x))) (ρ s) K):OW P nt ops o K ρ:=by
 refine z6 hg fun I A a w hs=>?_;have hxr:=hs.opd x (bO ho (by simp[hop,Op.operands])) hx;have hadr:=hs.opd ad (bO ho (by simp[hop,Op.operands])) (by rw[ha];trivial);rw[ha] at hadr;have hadr:bN w I A (.rp s z i off) (a.eval ad):=hadr;generalize hav:a.eval ad=av at*;cases hadr with
 |rp _ _ _ _ _ g c hA=>
  have hown:=hs.osim.own s;cases hρ:ρ s<;>rw[hρ] at h hown<;>simp only[stR] at h<;>try exact h.elim
  rename_i e z' xs;obtain ⟨rfl,h1,h2,h3,h4,hK⟩:=h;obtain ⟨B,c',q1,q2⟩:=hown;rw[hA] at q1;simp only[cAx,bZo] at q1;obtain ⟨rfl,rfl⟩:=q1;obtain ⟨us,q2,q3,q4,q5,q6⟩:=q2;obtain ⟨k1,k2,k3⟩:=nX hxr (.inl aN);have hxi:xs[i]?=some (xs.getD i []):=by rw[cFk,cEn h2];rfl
  have hol:=(q6 i _ hxi).1;have hbound: ∀i' r,i'<xs.length→r<z→i'*z+r<us.size:=fun i' r hi' hr=>by
   rw[q3];have:(i'+1)*z≤c*z:=cEr _ aN;rw[cBb] at this;omega
  have hcsl:(cE (un (ev ρ x))).length=n:=h1;have hfit:i*z+off+n≤us.size:=by
   rw[q3];have:(i+1)*z≤c*z:=cEr _ aN;rw[cBb] at this;omega
  have hrun:=qG (P:=P) (w:=w) hz (x:=a.eval x) aN q2 (o:=i*z+off) hfit k2;generalize hnew:(us.toList.take (i*z+off)++(a.eval x).cells.toList++us.toList.drop (i*z+off+n)).toArray=new at hrun;have hI: ∀{B:cY} {d:DV} {v:Value},bN w I B d v→bN (w.setRow g new) I B d v:=fun hr=>
   hr.mono fun g' hg'=>⟨hg',fun o=>dW (setRow_other w g g' _ (fun e=>(hs.osim.sep s g c hA).2 (e▸hg'))) o⟩
  have hnsz:new.size=us.size:=by subst hnew;simp;omega
  have hget: ∀q,new[q]?=if i*z+off≤q∧q<i*z+off+n then (a.eval x).cells[q-(i*z+off)]? else us[q]?:=fun q=>by
   subst hnew;simp only[cEu];rw[bZq,bZq];simp only[cAb,cCw,cCy,← k1,hcsl,cBx (show i*z+off≤us.size by omega)];by_cases c1:q<i*z+off
   ·rw[if_pos aN,if_pos c1,if_neg aN,cEl,if_pos c1,cAg]
   by_cases c2:q<i*z+off+n
   ·rw[if_pos c2,if_neg c1,if_pos aN,cAg]
   rw[if_neg c2,if_neg aN,cCg,cAg];congr 1;omega
  refine ⟨w.setRow g new,I,A,_,?_,?_,e8.turn hA new,hK⟩
  ·simp only[execOp,hop,Sem.run_bind,hav,hrun,Result.andThen_ok,Sem.run_pure]
  rw[hdst];refine hs.turn hA q2 (fun v hv=>?_) ?_ fun hs'=>rfl
  ·rw[hρ] at hv;obtain ⟨B,c2,r1,r2⟩:=hv;exact ⟨B,c2,r1,by rw[cDr];exact r2⟩
  refine ⟨some g,c,hA,new,setRow_heap w g us _ e _ q2,by rw[hnsz,q3],q4,by rw[cDr];exact q5,fun i' y hy=>?_⟩;rw[List.getElem?_set] at hy;split at hy
  ·rename_i hii;subst hii;cases hy;refine ⟨by rw[aDh aN];exact hol,fun j d u hd hu=>?_⟩;have hj:j<z:=by
    have:(spl off (cE (un (ev ρ x))) (xs.getD i [])).length=z:=by rw[aDh aN];exact hol
    rw[← this];rcases cBd j (spl off (cE (un (ev ρ x))) (xs.getD i [])).length with h|h
    ·exact h
    rw[cAw h] at hd;cases hd
   rw[hget] at hu;rw[aJk aN,bZq,bZq] at hd;simp only[cAb,cCw,cBx (show off≤(xs.getD i []).length by omega),hcsl] at hd;by_cases c1:j<off
   ·rw[if_pos aN,if_pos c1,cEl,if_pos c1] at hd;rw[if_neg aN] at hu;obtain ⟨r1,r2⟩:=(q6 i _ hxi).2 j d u hd hu;exact ⟨r1,hI r2⟩
   by_cases c2:j<off+n
   ·rw[if_pos c2,if_neg c1] at hd;rw[if_pos aN] at hu;have e1:i*z+j-(i*z+off)=j-off:=by omega
    rw[e1] at hu;exact ⟨k2 u (by simpa using cBu hu),hI ((k3 _ d u hd hu).pure (e6 h4 hd))⟩
   rw[if_neg c2,cCg] at hd;rw[if_neg aN] at hu;have e1:off+n+(j-(off+n))=j:=by omega
   rw[e1] at hd;obtain ⟨r1,r2⟩:=(q6 i _ hxi).2 j d u hd hu;exact ⟨r1,hI r2⟩
  rename_i hii;obtain ⟨r1,r2⟩:=q6 i' y hy;refine ⟨r1,fun j d u hd hu=>?_⟩;have hj:j<z:=by
   rw[← r1];rcases cBd j y.length with h|h
   ·exact h
   rw[cAw h] at hd;cases hd
  rw[hget,if_neg (by
   intro ⟨a1,a2⟩;have e1:=jS (z:=z) (i:=i') (q:=i'*z+j) aN aN aN;have e2:=jS (z:=z) (i:=i) (q:=i'*z+j) aN aN aN;omega)] at hu
  exact ⟨(r2 j d u hd hu).1,hI (r2 j d u hd hu).2⟩
theorem cC {o:Oper} {K:aV→Prop} (hg:o.guard=none) (ho:dP nt o=true) (hd:d3 nt o=true) (h:aEk P ρ o.op o.dst K):OW P nt ops o K ρ:=by
 have hdn: ∀d,o.dst=some d→d<nt:=fun d e=>by unfold d3 at hd;rw[e] at hd;simpa using hd
 cases hop:o.op with
 |assign x=>
  rw[hop] at h;cases hdst:o.dst with
  |none=>
   rw[hdst] at h;have h':gd (ev ρ x)∧K (putD ρ none (un (ev ρ x))):=by cases x<;>exact h
   exact nV hop hg ho hd h'.1 (by rw[hdst];exact h'.2)
  |some d=>
   rw[hdst] at h;cases x with
   |tmp t=>
    have ht:t<nt:=by
     have:=bO ho (x:=.tmp t) (by simp[hop,Op.operands]);simpa[iE] using this
    have h:bEo ρ d t (ρ t) K:=h;unfold bEo at h;cases hown:bX (ρ t) with
    |true=>
     rw[hown] at h;exact aKq hop hg hdst (hdn d hdst) ht h.1 hown h.2
    |false=>
     rw[hown] at h;have e1:ev ρ (.tmp t)=ρ t:=by
      rw[p9];cases hc:ρ t<;>first|rfl|(rw[hc] at hown;cases hown)
     exact nV hop hg ho hd (by rw[e1];exact h.1) (by rw[hdst,e1];exact h.2)
   |const v=>exact nV hop hg ho hd h.1 (by rw[hdst];exact h.2)
   |global g=>exact nV hop hg ho hd h.1 (by rw[hdst];exact h.2)
   |func f=>exact nV hop hg ho hd h.1 (by rw[hdst];exact h.2)
 |box t x=>
  rw[hop] at h;cases hdst:o.dst with
  |none=>rw[hdst] at h;exact h.1.elim
  |some d=>
   rw[hdst] at h;obtain ⟨h1,h2,h3⟩:=h;exact bOt hop hg hdst (hdn d hdst) ho h1 h2 h3
 |alloc t=>
  rw[hop] at h;cases hdst:o.dst with
  |none=>rw[hdst] at h;exact h.1.elim
  |some d=>
   rw[hdst] at h;have h:aIu ρ d (eE P t) K:=h;unfold aIu at h;split at h
   ·rename_i zs hz;exact aZz hop hg hdst (hdn d hdst) hz h
   exact h.elim
 |lookup t x k ok=>
  rw[hop] at h;cases ok with
  |false=>exact aUr hop hg ho hd h
  |true=>exact vA hg ho hd (by rw[hop];exact h.1) (by rw[hop];exact h.2)
 |mapUpdate t x k y=>
  rw[hop] at h;cases hdst:o.dst with
  |some d=>rw[hdst] at h;exact h.1.elim
  |none=>rw[hdst] at h;exact aHq hop hg hdst ho h
 |makeMap t hint=>
  rw[hop] at h;cases hdst:o.dst with
  |none=>rw[hdst] at h;cases hint<;>exact h.1.elim
  |some d=>
   rw[hdst] at h;cases hint with
   |none=>exact aOv hop hg hdst (hdn d hdst) h
   |some x=>exact h.1.elim
 |store t ad x=>
  rw[hop] at h;cases hdst:o.dst with
  |some d=>rw[hdst] at h;exact h.1.elim
  |none=>
   rw[hdst] at h;have h:stG ρ (gQ P t) (ev ρ ad) (ev ρ x) K:=h;unfold stG at h;split at h
   ·exact h.elim
   rename_i n hn;split at h
   ·rename_i s off ha;exact aWu hop hg hdst ho ha h.1 hn h.2.1 h.2.2
   ·rename_i s z i off ha;exact aUe hop hg hdst ho ha h.1 hn h.2.1 h.2.2
   exact h.elim
 |makeSlice t x y=>
  rw[hop] at h;cases hdst:o.dst with
  |none=>rw[hdst] at h;exact h.1.elim
  |some d=>
   rw[hdst] at h;have h:mkG P ρ d (pT P t) (ev ρ x) (ev ρ y) K:=h;unfold mkG at h;split at h
   ·rename_i e z by_ k n k' c hs hx hy;split at h
    ·rename_i zs hz;obtain ⟨h1,h2,h3,h4,h5,h6⟩:=h;exact aJd hop hg hdst (hdn d hdst) ho hx hy hs hz h1 h2 h3 h4 h5 h6
    exact h.elim
   exact h.elim
 |buildSlice t n parts=>
  rw[hop] at h;cases hdst:o.dst with
  |none=>rw[hdst] at h;exact h.1.elim
  |some d=>
   rw[hdst] at h;have h:bEn P ρ d (pT P t) n parts.toList K:=h;unfold bEn at h;split at h
   ·rename_i e z by_ hs;split at h
    ·rename_i hp;obtain ⟨rfl,hK⟩:=h;obtain rfl:parts= #[]:=by apply cCh;simpa using hp
     exact bGq hop hg hdst (hdn d hdst) hs hK
    obtain ⟨h1,h2,h3,h4,h5,h6,h7⟩:=h;obtain ⟨zs,hz⟩:=cAu.1 h1;exact aOl hop hg hdst (hdn d hdst) ho hs hz h2 h3 h4 h5 h6 h7
   exact h.elim
 |call c=>
  rw[hop] at h;obtain ⟨cl,args,ts⟩:=c;cases cl with
  |value f=>
   cases hdst:o.dst with
   |none=>rw[hdst] at h;exact h.elim
   |some d=>
    rw[hdst] at h;have h:gd (ev ρ f)∧gdL ρ args.toList∧aPe P (callee (un (ev ρ f)) (evL ρ args.toList))∧bNj P ρ d (callee (un (ev ρ f)) (evL ρ args.toList)) K:=h;obtain ⟨h1,h2,h3,h4⟩:=h;cases hc:callee (un (ev ρ f)) (evL ρ args.toList) with
    |none=>rw[hc] at h3;exact h3.elim
    |some p=>
     obtain ⟨g,l⟩:=p;rw[hc] at h3 h4;exact aTa (t:=⟨⟩) hop hg hdst (hdn d hdst) ho h1 ((aTe ρ _).1 h2) hc h3 h4
  |builtin b=>
   have hcb:cbG P ρ b args.toList ts.toList o.dst K:=h;clear h;unfold cbG at hcb;split at hcb
   ·rename_i x y t t' d hargs hts hdst;obtain rfl:args= #[x,y]:=by apply cCh;simpa using hargs
    obtain ⟨rfl,h⟩:=hcb;obtain rfl:ts= #[t,t]:=by apply cCh;simpa using hts
    unfold aOj at h;split at h
    ·rename_i e z by_ hs;obtain ⟨h1,h2,h3,h4⟩:=h;cases hz:eE P e with
     |none=>rw[hz] at h3;cases h3
     |some zs=>
      rw[hz] at h3;have hzl:zs.length=z:=by simpa using h3
      split at h4
      ·rename_i s n hx;unfold aEq at h4;split at h4
       ·rename_i e' z' xs hρ;obtain ⟨rfl,rfl,k1,k2,k3,k4,k5,k6⟩:=h4;exact aTs hop hg hdst (hdn d hdst) ho hx hρ k1 k2 h1 hs hz h2 hzl k3 k4 k5 k6
       exact h4.elim
      ·rename_i hx;obtain ⟨k1,k2,k3,k4⟩:=h4;exact aPm hop hg hdst (hdn d hdst) ho hx h1 hs hz h2 hzl k1 k2 k3 k4
      ·rename_i hx;obtain ⟨k1,k2,k3,k4⟩:=h4;exact aPi hop hg hdst (hdn d hdst) ho hx h1 hs hz h2 hzl k1 k2 k3 k4
      exact h4.elim
    exact h.elim
   refine vA hg ho hd ?_ ?_
   ·rw[hop];exact hcb.1
   rw[hop];exact hcb.2
  |invoke r m=>exact h.elim
 |build t parts=>
  rw[hop] at h;have h:(wD P ρ t parts.toList).1∧K (putD ρ o.dst (wD P ρ t parts.toList).2):=h;exact aKv hop hg ho hd h.1 h.2
 |binOp b t x y t'=>
  rw[hop] at h;have h:bIn P ρ b t x y o.dst K:=h;unfold bIn at h;cases hc:bAn b&&aHn y with
  |false=>
   rw[hc] at h;refine vA hg ho hd ?_ ?_
   ·rw[hop];exact h.1
   rw[hop];exact h.2
  |true=>
   rw[hc] at h;obtain ⟨h1,h2,h3⟩:=h;rw[bZi] at hc;obtain ⟨c1,c2⟩:=hc;obtain rfl:b=.eql:=by cases b<;>first|rfl|cases c1
   obtain ⟨n',c',rfl⟩: ∃n' c',y=.const (.slice none n' c'):=by
    unfold aHn at c2;split at c2
    ·exact ⟨_,_,rfl⟩
    cases c2
   obtain ⟨e,he⟩: ∃e,P.underlying t=some (.slice e):=by
    unfold tk at h2;split at h2<;>first|exact ⟨_,by assumption⟩|omega
   refine fU hg fun I A a w hs=>?_;have hr:=hs.opd x (bO ho (x:=x) (by rw[hop];simp[Op.operands])) h1;have hrun: ∀(b:Option Addr) n c,a.eval x=.slice b n c→(execOp a.eval o).run P w=.ok (.value (.bool b.isNone)) w:=fun b n c hx=>by
    have hb:execOp a.eval o=(do pure (.value (← (eqGuard .eql t x (.const (.slice none n' c')) (a.eval x) (.slice none n' c')>>=fun _=>binOp .eql t (a.eval x) (.slice none n' c'))))):=by unfold execOp;rw[hop];rfl
    have hg:eqGuard .eql t x (.const (.slice none n' c')) (.slice b n c) (.slice none n' c')=(pure ():Sem Unit):=by unfold eqGuard;rfl
    rw[hb,hx,hg,Sem.run_bind];show Result.andThen ((binOp .eql t (.slice b n c) (.slice none n' c')).run P w) _=_;rw[Lib.run_eql_slice_nil w t e b n c n' c' he];rfl
   generalize un (ev ρ x)=d at*;cases d with
   |sl z n f=>
    generalize hx:a.eval x=v at hr;cases hr with
    |sl0 _ _ _ b c=>exact ⟨_,w,I,A,_,hrun b 0 c hx,hs.putV hd (.v A _),e8.refl _ _ _,h3 _ aN⟩
    |sl _ _ _ _ b o c us hn hc hm hI hz hcell hone hrel=>exact ⟨_,w,I,A,_,hrun _ n c hx,hs.putV hd (.v A _),e8.refl _ _ _,h3 _ fun _=>rfl⟩
   |v y=>
    cases y with
    |slice b n c=>
     generalize hx:a.eval x=v at hr;cases hr;exact ⟨_,w,I,A,_,hrun b n c hx,hs.putV hd (.v A _),e8.refl _ _ _,h3⟩
    |_=>exact h3.elim
   |_=>exact h3.elim
 |_=>
  rw[hop] at h;refine vA hg ho hd ?_ ?_
  ·rw[hop];exact h.1
  rw[hop];exact h.2
end
end Go.Sg
namespace Go.Sg
open Go.RowKit
open Go.Rv (FR)
def dT:Op→Bool
 | .call c=>match c.callee with
  | .value _=>true
  | .builtin .len=>true
  | .builtin .max=>true
  | .builtin .min=>true
  |_=>false
 | .assign _| .move _| .pick .. | .load .. | .nilCheck _| .binOp .. | .unOp .. | .convert .. | .fieldAddr .. | .indexAddr .. | .index .. | .slice .. | .extract .. | .makeFunc .. =>true
 | .buildSlice _ _ _=>true
 | .build _ _=>true
 | .makeSlice .. =>true
 |_=>false
def aTw (P:Program) (ρ:aV) (sl:Option (TypeId×Nat×Nat)) (n:Nat) (parts:List (Nat×Operand)):Prop×DV:=
 match sl with
 |some (e,z,_)=>if n=0 then (parts=[],.ez) else ((eE P e).isSome=true∧0<z∧0<n∧n*z≤16777216∧parts.length=n∧aAv ρ z 0 parts,.sl z n fun i=>(bsL ρ parts).getD i [])
 |none=>(False,.any)
def mkP (P:Program) (sl:Option (TypeId×Nat×Nat)) (x y:DV):Prop×DV:=
 match sl,x,y with
 |some (e,z,by_),.v (.int _ n),.v (.int _ c)=>
  (match eE P e with
  |some zs=>(zs.length=z∧0≤n∧n≤c∧c≤9223372036854775807∧c*by_≤140737488355328,.sl z n.toNat fun _=>zs.map .v)
  |none=>(False,.any))
 |_,_,_=>(False,.any)
def gR (P:Program) (ρ:aV):Op→Prop×DV
 | .buildSlice t n parts=>aTw P ρ (pT P t) n parts.toList
 | .build t parts=>wD P ρ t parts.toList
 | .makeSlice t x y=>mkP P (pT P t) (ev ρ x) (ev ρ y)
 |op=>oI P ρ op
def prP (P:Program) (ρ:aV) (op:Op) (d:DV):Prop:=
 match op with
 | .call ⟨.value f,args,_⟩=>gd (ev ρ f)∧gdL ρ args.toList∧ ∃g l,callee (un (ev ρ f)) (evL ρ args.toList)=some (g,l)∧aO P g=true∧bB P ρ g l d
 |op=>(gR P ρ op).1∧d=(gR P ρ op).2
def gY (P:Program) (all:List Oper) (ρ:aV) (o:Oper) (d:DV):Prop:=
 bX d=false∧(∀k,o.dst=some k→bX (ρ k)=false)∧
 match o.guard with
 |none=>prP P ρ o.op d
 |some (j,want)=> ∃g d',gAt all ρ j want=some g∧d=.cond g d'∧lO d'=true∧(g=true→prP P ρ o.op d')
section
variable {P:Program} {nt:Nat} {ρ:aV}
theorem aNc {d:DV} (h:lO d=true):bX d=false:=by cases d<;>first|rfl|(cases h)
theorem aZj {ops:Array Oper} {o:Oper} {d:DV} {K:aV→Prop} (hg:o.guard=none) (ho:dP nt o=true) (hd:d3 nt o=true) (hi:bX d=false) (hdst:o.dst.isSome=true) (h:prP P ρ o.op d) (hK:K (putD ρ o.dst d)):OW P nt ops o K ρ:=by
 obtain ⟨k,hk⟩:=cAu.1 hdst;have hkn:k<nt:=by unfold d3 at hd;rw[hk] at hd;simpa using hd
 have gen:(∀t n parts,o.op≠ .buildSlice t n parts)→(oI P ρ o.op).1∧d=(oI P ρ o.op).2→OW P nt ops o K ρ:=fun _ h=>vA hg ho hd h.1 (by rw[← h.2];exact hK);cases hop:o.op with
 |call c=>
  obtain ⟨cl,args,ts⟩:=c;rw[hop] at h;cases cl with
  |value f=>
   obtain ⟨h1,h2,g,l,h3,h4,h5⟩:=h;refine aTa (t:=⟨⟩) hop hg hk hkn ho h1 ((aTe ρ _).1 h2) h3 h4 ⟨_,h5,?_⟩;rintro O' r ⟨rfl,rfl⟩;refine ⟨?_,?_⟩
   ·intro h;rw[hi] at h;cases h
   rw[hk] at hK;unfold bCa;rw[if_neg (by simp[hi])];exact hK
  |_=>exact gen (by simp[hop]) (by rw[hop];exact h)
 |buildSlice t n parts=>
  rw[hop] at h;obtain ⟨h1,rfl⟩:=h;simp only[gR] at h1 hK;unfold aTw at h1 hK;split at h1
  ·rename_i e z by_ hs;rw[hs] at hK;split at h1
   ·rename_i hn0;simp only[if_pos hn0] at hK;have h1:parts.toList=[]:=h1;obtain rfl:parts= #[]:=by apply cCh;simpa using h1
    subst hn0;exact bJg hop hg hk hd hs (by rw[hk] at hK;exact hK)
   rename_i hn0;simp only[if_neg hn0] at hK;obtain ⟨q1,q2,q3,q4,q5,q6⟩:=h1;obtain ⟨zs,hz⟩:=cAu.1 q1;rw[hk] at hK;exact aOl hop hg hk hkn ho hs hz q2 q3 q4 q5 q6 hK
  exact h1.elim
 |build t parts=>
  rw[hop] at h;obtain ⟨h1,rfl⟩:=h;exact aKv hop hg ho hd h1 hK
 |makeSlice t x y=>
  rw[hop] at h;obtain ⟨h1,rfl⟩:=h;simp only[gR] at h1 hK;unfold mkP at h1 hK;split at h1
  ·rename_i e z by_ k' n k'' c hs hx hy;split at h1
   ·rename_i zs hz;rw[hs,hx,hy] at hK;simp only[hz] at hK;obtain ⟨q1,q2,q3,q4,q5⟩:=h1;rw[hk] at hK;exact bLx hop hg hk hkn ho hx hy hs hz q1 q2 q3 q4 q5 hK
   exact h1.elim
  exact h1.elim
 |_=>exact gen (by simp[hop]) (by rw[hop];rw[hop] at h;exact h)
def aCf (k:Nat) (op:Op):Prop:= ∀x∈op.operands,x≠ .tmp k
theorem eJ {k:Nat} {u:DV} {x:Operand} (h:x≠ .tmp k):ev (set ρ k u) x=ev ρ x:=by
 cases x with
 |tmp t=>
  have:t≠k:=fun e=>h (by rw[e]);rw[p9,p9,bC,if_neg this]
 |_=>rfl
theorem aGg {ld:Option Nat} {off:Nat} {c:DV} (h:bX c=false):aFy ld off c=(False,.any):=by cases c<;>first|rfl|(cases h)
theorem aGd {ld:Option Nat} {z i off:Nat} {c:DV} (h:bX c=false):tA ld z i off c=(False,.any):=by cases c<;>first|rfl|(cases h)
theorem aVf {k:Nat} {u:DV} (hu:bX u=false) (hk:bX (ρ k)=false) (ld:Option (Option Nat)) (d:DV):l7 (set ρ k u) ld d=l7 ρ ld d:=by
 unfold l7;cases ld with
 |none=>rfl
 |some ld=>
  cases d<;>try rfl
  ·rename_i s off;simp only[bC];split
   ·rename_i e;subst e;rw[aGg hu,aGg hk]
   rfl
  rename_i s z i off;simp only[bC];split
  ·rename_i e;subst e;rw[aGd hu,aGd hk]
  rfl
theorem aQm {k s:Nat} {u:DV} (hu:bX u=false) (hk:bX (ρ k)=false) (e:TypeId) (z:Nat) (xs:List (List DV)):(set ρ k u s=.row e z xs)=(ρ s=.row e z xs):=by
 rw[bC];split
 ·rename_i h;subst h;apply propext;constructor
  ·intro h;rw[h] at hu;cases hu
  intro h;rw[h] at hk;cases hk
 rfl
theorem aWy {k:Nat} {u:DV} (hu:bX u=false) (hk:bX (ρ k)=false) (el:Option (Option Nat×Nat)) (d i:DV):tE (set ρ k u) el d i=tE ρ el d i:=by
 unfold tE;simp only[aQm hu hk]
theorem aZm {k:Nat} {u:DV} (hu:bX u=false) (hk:bX (ρ k)=false) (el:Option (Option Nat×Nat)) (t:Nat) (d:DV) (lo hi:Option DV):zV (set ρ k u) el t d lo hi=zV ρ el t d lo hi:=by
 unfold zV;simp only[aQm hu hk]
theorem aTq {k:Nat} {u:DV}: ∀{l:List Operand},(∀x∈l,x≠ .tmp k)→gdL (set ρ k u) l=gdL ρ l
 | [],_=>rfl
 |x::l,h=>by
  have h1:=eJ (ρ:=ρ) (u:=u) (h x b7);have h2:=aTq (k:=k) (u:=u) (l:=l) fun y hy=>h y (by simp[hy]);simp only[gdL,h1,h2]
theorem bJb {k:Nat} {u:DV} {l:List Operand} (h: ∀x∈l,x≠ .tmp k):evL (set ρ k u) l=evL ρ l:=by
 unfold evL;apply cEe;intro x hx;rw[eJ (h x hx)]
theorem aCg {k z:Nat} {u:DV}: ∀{l:List (Nat×Operand)} {m:Nat},(∀p∈l,p.2≠ .tmp k)→aAv (set ρ k u) z m l=aAv ρ z m l
 | [],_,_=>rfl
 |p::l,m,h=>by
  have h1:=eJ (ρ:=ρ) (u:=u) (h p b7);have h2:=aCg (z:=z) (k:=k) (u:=u) (l:=l) (m:=m+1) fun y hy=>h y (by simp[hy]);simp only[aAv,h1,h2]
theorem aSy {k:Nat} {u:DV} {l:List (Nat×Operand)} (h: ∀p∈l,p.2≠ .tmp k):bsL (set ρ k u) l=bsL ρ l:=by
 unfold bsL;apply cEe;intro p hp;rw[eJ (h p hp)]
theorem yC {k:Nat} {t:TypeId} {u:DV}: ∀{l:List (Nat×Operand)} {cs:List DV},(∀p∈l,p.2≠ .tmp k)→kN P (set ρ k u) t l cs=kN P ρ t l cs
 | [],_,_=>rfl
 |p::l,cs,h=>by
  have h1:=eJ (ρ:=ρ) (u:=u) (h p b7);have h2:=fun cs=>yC (k:=k) (t:=t) (u:=u) (l:=l) (cs:=cs) fun y hy=>h y (by simp[hy]);unfold kN;simp only[h1,h2]
theorem aNp {k:Nat} {u:DV} {b:Builtin} {l:List Operand} {ts:List TypeId} (h: ∀x∈l,x≠ .tmp k):aNm P (set ρ k u) b l ts=aNm P ρ b l ts:=by
 unfold aNm;split
 ·rename_i x t;rw[eJ (h x b7)]
 ·rename_i x y;rw[eJ (h x b7),eJ (h y b7)]
 ·rename_i x y;rw[eJ (h x b7),eJ (h y b7)]
 rfl
theorem bIa {k:Nat} {u:DV} (hu:bX u=false) (hk:bX (ρ k)=false) {op:Op} (h:aCf k op):gR P (set ρ k u) op=gR P ρ op:=by
 have hx: ∀x∈op.operands,ev (set ρ k u) x=ev ρ x:=fun x hx=>eJ (h x hx);cases op with
 |buildSlice t n parts=>
  have hp: ∀p∈parts.toList,p.2≠ .tmp k:=fun p hp=>h p.2 (by simp[Op.operands];exact ⟨p.1,by simpa using hp⟩);simp only[gR,aTw,aCg hp,aSy hp]
 |build t parts=>
  have hp: ∀p∈parts.toList,p.2≠ .tmp k:=fun p hp=>h p.2 (by simp[Op.operands];exact ⟨p.1,by simpa using hp⟩);simp only[gR,wD,yC hp]
 |makeSlice t x y=>simp only[gR,hx x (by simp[Op.operands]),hx y (by simp[Op.operands])]
 |move x=>simp only[gR,oI,hx x (by simp[Op.operands])]
 |assign x=>simp only[gR,oI,hx x (by simp[Op.operands])]
 |pick c a b=>simp only[gR,oI,hx c (by simp[Op.operands]),hx a (by simp[Op.operands]),hx b (by simp[Op.operands])]
 |load t x=>simp only[gR,oI,hx x (by simp[Op.operands]),aVf hu hk]
 |nilCheck x=>simp only[gR,oI,hx x (by simp[Op.operands])]
 |binOp op t x y t'=>simp only[gR,oI,hx x (by simp[Op.operands]),hx y (by simp[Op.operands])]
 |unOp op t x=>simp only[gR,oI,hx x (by simp[Op.operands])]
 |convert s t x=>simp only[gR,oI,hx x (by simp[Op.operands])]
 |fieldAddr s x f=>simp only[gR,oI,hx x (by simp[Op.operands])]
 |indexAddr t x i=>simp only[gR,oI,hx x (by simp[Op.operands]),hx i (by simp[Op.operands]),aWy hu hk]
 |index t x i=>simp only[gR,oI,hx x (by simp[Op.operands]),hx i (by simp[Op.operands])]
 |slice t x lo hi mx=>
  cases mx with
  |some m=>rfl
  |none=>
   have hlo:lo.map (fun y=>un (ev (set ρ k u) y))=lo.map fun y=>un (ev ρ y):=by
    cases lo with
    |none=>rfl
    |some y=>simp[hx y (by simp[Op.operands])]
   have hhi:hi.map (fun y=>un (ev (set ρ k u) y))=hi.map fun y=>un (ev ρ y):=by
    cases hi with
    |none=>rfl
    |some y=>simp[hx y (by simp[Op.operands])]
   have glo:(∀y∈lo,gd (ev (set ρ k u) y))= ∀y∈lo,gd (ev ρ y):=by
    cases lo with
    |none=>simp
    |some y=>simp[hx y (by simp[Op.operands])]
   have ghi:(∀y∈hi,gd (ev (set ρ k u) y))= ∀y∈hi,gd (ev ρ y):=by
    cases hi with
    |none=>simp
    |some y=>simp[hx y (by simp[Op.operands])]
   simp only[gR,oI,hx x (by simp[Op.operands]),hlo,hhi,glo,ghi,aZm hu hk]
 |extract x i=>simp only[gR,oI,hx x (by simp[Op.operands])]
 |makeFunc fn first captured=>
  cases fn with
  |func f=>
   have h1: ∀x∈first.toList,ev (set ρ k u) x=ev ρ x:=fun x hx'=>hx x (by simp[Op.operands];exact .inl (by simpa using hx'))
   have h2: ∀x∈captured.toList,ev (set ρ k u) x=ev ρ x:=fun x hx'=>hx x (by simp[Op.operands];exact .inr (by simpa using hx'));have e1:(first.toList.map fun x=>un (ev (set ρ k u) x))=first.toList.map fun x=>un (ev ρ x):=cEe fun x hx'=>by rw[h1 x hx']
   have e2:(captured.toList.map fun x=>un (ev (set ρ k u) x))=captured.toList.map fun x=>un (ev ρ x):=cEe fun x hx'=>by rw[h2 x hx']
   have g1:(∀x∈first.toList,gd (ev (set ρ k u) x))= ∀x∈first.toList,gd (ev ρ x):=propext ⟨fun g x hx'=>by rw[← h1 x hx'];exact g x hx',fun g x hx'=>by rw[h1 x hx'];exact g x hx'⟩
   have g2:(∀x∈captured.toList,gd (ev (set ρ k u) x))= ∀x∈captured.toList,gd (ev ρ x):=propext ⟨fun g x hx'=>by rw[← h2 x hx'];exact g x hx',fun g x hx'=>by rw[h2 x hx'];exact g x hx'⟩;simp only[gR,oI,fnP,e1,e2,g1,g2]
  |_=>rfl
 |call c=>
  obtain ⟨cl,args,ts⟩:=c;cases cl with
  |builtin b=>
   have hb: ∀x∈args.toList,x≠ .tmp k:=fun x hx'=>h x (by simp[Op.operands,Call.operands];simpa using hx');simp only[gR,oI,aRg,aNp hb]
  |_=>rfl
 |_=>rfl
theorem bB.set {k:Nat} {u:DV} (hu:bX u=false) (hk:bX (ρ k)=false) {f:FuncId} {l:List DV} {d:DV} (h:bB P ρ f l d):bB P (Sg.set ρ k u) f l d:=by
 have key: ∀w I A,jX w I A (Sg.set ρ k u)↔jX w I A ρ:=fun w I A=>by
  have: ∀s,d8 w I A s (Sg.set ρ k u s)↔d8 w I A s (ρ s):=fun s=>by
   rw[bC];split
   ·rename_i e;subst e;exact ⟨fun _=>.ofPure hk,fun _=>.ofPure hu⟩
   exact Iff.rfl
  exact ⟨fun h=>⟨fun s=>(this s).1 (h.own s),h.inj,h.sep,h.imm⟩,fun h=>⟨fun s=>(this s).2 (h.own s),h.inj,h.sep,h.imm⟩⟩
 intro w I A vals h1 h2 h3;refine (h w I A vals ((key w I A).1 h1) h2 h3).mono ?_;rintro e w' ⟨v,I',O',r,k1,k2,k3,k4,k5,k6,rfl,rfl⟩;exact ⟨v,I',_,r,k1,(key w' I' A).2 k2,fun s=>fN.refl _,fun s h=>h,k5,k6,rfl,rfl⟩
theorem aBr {k:Nat} {u:DV}:Sg.set (Sg.set ρ k u) k (ρ k)=ρ:=by
 funext i;rw[bC,bC];split
 ·rename_i e;rw[e]
 rfl
theorem aSi {k:Nat} {u:DV} (hu:bX u=false) (hk:bX (ρ k)=false) {op:Op} {d:DV} (h:aCf k op) (hp:prP P ρ op d):prP P (set ρ k u) op d:=by
 have gen:(gR P ρ op).1∧d=(gR P ρ op).2→(gR P (set ρ k u) op).1∧d=(gR P (set ρ k u) op).2:=by rw[bIa hu hk h];exact id
 cases op with
 |call c=>
  obtain ⟨cl,args,ts⟩:=c;cases cl with
  |value f=>
   obtain ⟨h1,h2,g,l,h3,h4,h5⟩:=hp;have hf:ev (set ρ k u) f=ev ρ f:=eJ (h f (by simp[Op.operands,Call.operands]));have ha: ∀x∈args.toList,x≠ .tmp k:=fun x hx=>h x (by simp[Op.operands,Call.operands];exact .inr (by simpa using hx));refine ⟨by rw[hf];exact h1,by rw[aTq ha];exact h2,g,l,by rw[hf,bJb ha];exact h3,h4,h5.set hu hk⟩
  |_=>exact gen hp
 |_=>exact gen hp
theorem aQz {all:List Oper} {k j:Nat} {want:Bool} {u:DV} (h: ∀o,all[j]?=some o→o.dst≠some k):gAt all (set ρ k u) j want=gAt all ρ j want:=by
 unfold gAt;cases ho:all[j]? with
 |none=>rfl
 |some o=>
  simp only;cases hd:o.dst with
  |none=>rfl
  |some d=>
   have:d≠k:=fun e=>h o ho (by rw[hd,e]);simp only[bC,if_neg this]
theorem oK {l:List Oper} {o:Oper} {d:DV} {K:aV→Prop} (hall:l.all (d3 nt)=true) (ho:dP nt o=true) (hd:d3 nt o=true) (hdst:o.dst.isSome=true) (h:gY P l ρ o d) (hK:K (putD ρ o.dst d)):OW P nt l.toArray o K ρ:=by
 obtain ⟨h1,h2,h3⟩:=h;cases hg:o.guard with
 |none=>rw[hg] at h3;exact aZj hg ho hd h1 hdst h3 hK
 |some jw=>
  obtain ⟨j,want⟩:=jw;rw[hg] at h3;obtain ⟨g,d',k1,rfl,k3,k4⟩:=h3;obtain ⟨k,hk⟩:=cAu.1 hdst;have hkn:k<nt:=by unfold d3 at hd;rw[hk] at hd;simpa using hd
  intro ro ds I A a w hs hdf next Q' hn
  rw[nT hs hg hall k1];cases g with
  |true=>
   rw[if_pos rfl]
   have:=aZj (P:=P) (nt:=nt) (ρ:=ρ) (ops:=l.toArray) (o:={o with guard:=none}) (d:=d') (K:=fun ρ'=>ρ'=putD ρ o.dst d') rfl ho hd (aNc k3) hdst (k4 rfl) rfl ro ds I A a w hs hdf next Q'
    (fun I' A' a' w' ρ' q1 q2 q3 q4=>by
     subst q4;refine hn I' A' a' w' (putD ρ o.dst (.cond true d')) ?_ q2 q3 hK;rw[hk] at q1 ⊢;refine ⟨⟨fun s=>?_,q1.osim.inj,q1.osim.sep,q1.osim.imm⟩,q1.size,q1.bound,fun i hi=>?_,fun s hs'=>?_⟩
     ·have:=q1.osim.own s;simp only[cD,bC] at this ⊢;split
      ·trivial
      rename_i e;rw[if_neg e] at this;exact this
     ·have:=q1.slot i hi;simp only[cD,bC] at this ⊢;split
      ·rename_i e;rw[if_pos e] at this;refine ⟨fun _=>?_,fun h=>by cases h⟩;exact cZ.rel this k3
      rename_i e;rw[if_neg e] at this;exact this
     have:=q1.out s hs';simp only[cD,bC] at this ⊢;split
     ·rename_i e;exact absurd (cDi hkn q1.bound) (by rw[← e];exact Nat.not_lt.2 hs')
     rename_i e;rw[if_neg e] at this;exact this)
   rw[if_pos (by simp[Region.wanted])] at this;exact this
  |false=>
   rw[if_neg b7];rw[hk];exact ⟨fun _ _=>trivial,hn I A _ w _ (hs.put (v:=.cond false d') hkn ⟨(fun h=>by cases h),fun _=>rfl⟩ trivial) (by rw[d7];exact hdf) (e8.refl _ _ _) (by rw[hk] at hK;exact hK)⟩
theorem gX {ops:Array Oper} {o:Oper} {k:Nat} (h:k∉o.looksAt ops):aCf k o.op:=fun x hx e=>by
 subst e;apply h;unfold Oper.looksAt;simp only[cEh,List.mem_filterMap];exact .inl ⟨.tmp k,by simpa using hx,rfl⟩
theorem yR {l:List Oper} {o:Oper} {k j:Nat} {want:Bool} (h:k∉o.looksAt l.toArray) (hg:o.guard=some (j,want)): ∀q,l[j]?=some q→q.dst≠some k:=fun q hq e=>by
 apply h;unfold Oper.looksAt;simp only[hg,cEh];refine .inr ?_;simp[hq,e]
theorem nQ {l:List Oper} {o:Oper} {d u:DV} {k:Nat} (hu:bX u=false) (hk:bX (ρ k)=false) (hl:k∉o.looksAt l.toArray) (hne:o.dst≠some k) (h:gY P l ρ o d):gY P l (set ρ k u) o d:=by
 obtain ⟨h1,h2,h3⟩:=h;refine ⟨h1,fun m hm=>?_,?_⟩
 ·have:m≠k:=fun e=>hne (by rw[hm,e]);rw[bC,if_neg this];exact h2 m hm
 cases hg:o.guard with
 |none=>rw[hg] at h3;exact aSi hu hk (gX hl) h3
 |some jw=>
  obtain ⟨j,want⟩:=jw;rw[hg] at h3;obtain ⟨g,d',k1,k2,k3,k4⟩:=h3;exact ⟨g,d',by rw[aQz (yR hl hg)];exact k1,k2,k3,fun hgt=>aSi hu hk (gX hl) (k4 hgt)⟩
def sE (P:Program) (nt:Nat) (l:List Oper) (i:Nat) (K:aV→Prop) (ρ:aV):Prop:=
 match l[i]? with
 |none=>K ρ
 |some o=>if dT o.op&&o.dst.isSome then ∃d,gY P l ρ o d∧K (putD ρ o.dst d) else OW P nt l.toArray o K ρ
theorem bGf {l:List Oper} {i:Nat} {K K':aV→Prop} (h: ∀ρ,K ρ→K' ρ) (hh:sE P nt l i K ρ):sE P nt l i K' ρ:=by
 unfold sE at*;split
 ·rename_i hi;rw[hi] at hh;exact h _ hh
 rename_i o hi;rw[hi] at hh;simp only at hh;split
 ·rename_i hp;rw[if_pos hp] at hh;obtain ⟨d,h1,h2⟩:=hh;exact ⟨d,h1,h _ h2⟩
 rename_i hp;rw[if_neg hp] at hh;exact hh.mono h
def aOt (P:Program) (nt:Nat) (l:List Oper) (k:aV→Prop):Nat→Array Bool→aV→Prop
 |0,listed,ρ=>Region.ready .any l.toArray listed=[]∧k ρ
 |fuel+1,listed,ρ=>(Region.ready .any l.toArray listed=[]→k ρ)∧ ∀i∈Region.ready .any l.toArray listed,sE P nt l i (aOt P nt l k fuel (listed.setIfInBounds i true)) ρ
def kH (nt:Nat) (l:List Oper):Bool:=l.all fun o=>dP nt o&&d3 nt o
theorem lT {l:List Oper} (h:kH nt l=true):l.all (d3 nt)=true:=by
 unfold kH at h;rw[cCk] at h ⊢;exact fun o ho=>by have:=h o ho;simp at this;exact this.2
theorem e9 {l:List Oper} (h:kH nt l=true) {i:Nat} {o:Oper} (hi:l[i]?=some o):dP nt o=true∧d3 nt o=true:=by
 unfold kH at h;rw[cCk] at h;have:=h o (cDb hi);simpa using this
theorem aGl {ro:Option Nat} {ds:List Deferred} {l:List Oper} {k:aV→Prop} {Q':Exit→Act→World→Prop} (hr:kH nt l=true): ∀(fuel:Nat) (listed:Array Bool) (ρ:aV) (I:Nat→Prop) (A:cY) (a:Act) (w:World),
  aOt P nt l k fuel listed ρ→cV nt w I A ρ a→a.defers=ds→
  (∀I' A' a' w' ρ',cV nt w' I' A' ρ' a'→a'.defers=ds→e8 w I A w' I' A'→k ρ'→Q' .normal a' w')→wpAnyIn (FR ro) 0 P .any l.toArray Q' fuel listed a w
 |0,listed,ρ,I,A,a,w,h,hs,hd,hk=>⟨h.1,hk I A a w ρ hs hd (e8.refl _ _ _) h.2⟩
 |fuel+1,listed,ρ,I,A,a,w,h,hs,hd,hk=>by
  refine ⟨fun h0=>hk I A a w ρ hs hd (e8.refl _ _ _) (h.1 h0),fun i hi=>?_⟩;have h2:=h.2 i hi;have rec_: ∀I' A' a' w' ρ',cV nt w' I' A' ρ' a'→a'.defers=ds→e8 w I A w' I' A'→aOt P nt l k fuel (listed.setIfInBounds i true) ρ'→wpAnyIn (FR ro) 0 P .any l.toArray Q' fuel (listed.setIfInBounds i true) a' w':=
   fun I' A' a' w' ρ' q1 q2 q3 q4=>aGl hr fuel _ ρ' I' A' a' w' q4 q1 q2 fun I2 A2 a2 w2 ρ2 k1 k2 k3 k4=>hk I2 A2 a2 w2 ρ2 k1 k2 (q3.trans k3) k4
  unfold wpOpIn;unfold sE at h2;simp only[cEu];split
  ·rename_i ho;rw[ho] at h2;exact rec_ I A a w ρ hs hd (e8.refl _ _ _) h2
  rename_i o ho;rw[ho] at h2;have hOW:OW P nt l.toArray o (aOt P nt l k fuel (listed.setIfInBounds i true)) ρ:=by
   simp only at h2;split at h2
   ·rename_i hp;obtain ⟨d,k1,k2⟩:=h2;simp only[bZi] at hp;exact oK (lT hr) (e9 hr ho).1 (e9 hr ho).2 hp.2 k1 k2
   exact h2
  have:=hOW ro ds I A a w hs hd (wpAnyIn (FR ro) 0 P .any l.toArray Q' fuel (listed.setIfInBounds i true)) Q' rec_;split at this
  ·rename_i hw;rw[if_pos hw];exact this
  rename_i hw;rw[if_neg hw];exact this
theorem bPa {l:List Oper} {j:Nat} {oi oj:Oper} {d:DV} (hj:l[j]?=some oj) (hpj:(dT oj.op&&oj.dst.isSome)=true) {ki:Nat} (hki:oi.dst=some ki) (hap:oi.apart l.toArray oj=true) {K:aV→Prop}
  (hy:gY P l ρ oi d) (h:sE P nt l j K (putD ρ oi.dst d)):sE P nt l j (fun ρ'=>gY P l ρ' oi d∧K (putD ρ' oi.dst d)) ρ:=by
 obtain ⟨h1,h2,h3⟩:=Oper.apart_spec hap;unfold sE at h ⊢;rw[hj] at h ⊢;simp only[hpj,if_true] at h ⊢;obtain ⟨u,k1,k2⟩:=h;simp only[bZi] at hpj;obtain ⟨kj,hkj⟩:=cAu.1 hpj.2;have hne:kj≠ki:=fun e=>h2 ki hki (by rw[hkj,e]);have hdi:bX d=false:=hy.1;have hui:bX u=false:=k1.1;have hρi:bX (ρ ki)=false:=hy.2.1 ki hki;have hρj:bX (ρ kj)=false:=by
  have:=k1.2.1 kj hkj;rw[hki,cD,bC,if_neg hne] at this;exact this
 refine ⟨u,?_,?_,?_⟩
 ·have:=nQ (ρ:=putD ρ oi.dst d) (k:=ki) (u:=ρ ki) hρi (by rw[hki,cD,bC,if_pos rfl];exact hdi) (h1 ki hki) (fun e=>hne (by rw[hkj] at e;cases e;rfl)) k1;rw[hki,cD,aBr] at this;exact this
 ·rw[hkj,cD];exact nQ hui hρj (h3 kj hkj) (fun e=>hne (by rw[hki] at e;cases e;rfl)) hy
 rw[hki,hkj] at k2;rw[hki,hkj];have:putD (putD ρ (some kj) u) (some ki) d=putD (putD ρ (some ki) d) (some kj) u:=by
  funext i;simp only[cD,bC];by_cases e1:i=ki
  ·rw[if_pos e1,if_neg (by rw[e1];exact fun e=>hne e.symm),if_pos e1]
  simp only[if_neg e1]
 rw[this];exact k2
def bBt (l:List Oper) (listed:Array Bool) (i:Nat):Bool:=
 match l[i]? with
 |none=>false
 |some oi=>dT oi.op&&oi.dst.isSome&&(List.range l.length).all fun j=>
  j==i||listed.getD j true||match l[j]? with
   |none=>true
   |some oj=>oj.after.any (fun e=>Region.binds .any e&&e.on==i)||(dT oj.op&&oj.dst.isSome&&oi.apart l.toArray oj)
def aLe (l:List Oper):Nat→Nat→Array Bool→Bool
 |0,_,listed=>(Region.ready .any l.toArray listed).isEmpty
 |fuel+1,i,listed=>((Region.ready .any l.toArray listed).contains i&&bBt l listed i||Region.ready .any l.toArray listed==[i])&&aLe l fuel (i+1) (listed.setIfInBounds i true)
theorem aPs {l:List Oper} {k:aV→Prop} {i:Nat} {oi:Oper} {d:DV} (hi:l[i]?=some oi) (hpi:(dT oi.op&&oi.dst.isSome)=true):
  ∀(fuel:Nat) (listed:Array Bool) (ρ:aV),
   (∀j oj,l[j]?=some oj→j≠i→listed.getD j true=false→(∀e∈oj.after,Region.binds .any e=true→e.on≠i)→(dT oj.op&&oj.dst.isSome)=true∧oi.apart l.toArray oj=true)→
   i∈Region.ready .any l.toArray listed→gY P l ρ oi d→aOt P nt l k fuel (listed.setIfInBounds i true) (putD ρ oi.dst d)→aOt P nt l k (fuel+1) listed ρ:=by
 obtain ⟨ki,hki⟩:=cAu.1 (by simp only[bZi] at hpi;exact hpi.2);have take: ∀{K:aV→Prop} {ρ:aV},gY P l ρ oi d→K (putD ρ oi.dst d)→sE P nt l i K ρ:=fun h1 h2=>by
  unfold sE;rw[hi];simp only[hpi,if_true];exact ⟨d,h1,h2⟩
 intro fuel
 induction fuel with
 |zero=>
  intro listed ρ _ hr hy H;refine ⟨fun h=>(by rw[h] at hr;cases hr),fun j hj=>?_⟩;by_cases hji:j=i
  ·subst hji;exact take hy H
  have:=ready_mono hj hji;rw[H.1] at this;cases this
 |succ fuel ih=>
  intro listed ρ hfree hr hy H;refine ⟨fun h=>(by rw[h] at hr;cases hr),fun j hj=>?_⟩;by_cases hji:j=i
  ·subst hji;exact take hy H
  have h1:=H.2 j (ready_mono hj hji);obtain ⟨hjun,oj,hoj,hall⟩:=mem_ready.1 hj;have hoj':l[j]?=some oj:=by simpa using hoj
  have hnot: ∀e∈oj.after,Region.binds .any e=true→e.on≠i:=fun e he hb heq=>by
   have h1:=hall e he hb;have h0:=(mem_ready.1 hr).1;rw[heq] at h1;rcases cBd i listed.size with h'|h'
   ·simp[h'] at h0 h1;rw[h0] at h1;cases h1
   simp[cDy h'] at h1
  obtain ⟨hpj,hap⟩:=hfree j oj hoj' hji hjun hnot;have h2:=bPa hoj' hpj hki hap hy h1;have hfree': ∀m om,l[m]?=some om→m≠i→(listed.setIfInBounds j true).getD m true=false→(∀e∈om.after,Region.binds .any e=true→e.on≠i)→(dT om.op&&om.dst.isSome)=true∧oi.apart l.toArray om=true:=fun m om hm hmi hun hno=>by
   refine hfree m om hm hmi ?_ hno;by_cases hjm:j=m
   ·subst hjm;exact hjun
   rw[getD_set_ne true hjm] at hun;exact hun
  refine bGf (fun ρ' h3=>ih (listed.setIfInBounds j true) ρ' hfree' (ready_mono hr (bZv hji)) h3.1 ?_) h2;rw[cFl _ _ hji];exact h3.2
def aKt (P:Program) (nt:Nat) (l:List Oper) (k:aV→Prop):List Oper→aV→Prop
 | [],ρ=>k ρ
 |o::os,ρ=>if dT o.op&&o.dst.isSome then ∃d,gY P l ρ o d∧aKt P nt l k os (putD ρ o.dst d) else OW P nt l.toArray o (aKt P nt l k os) ρ
theorem aPl {l:List Oper} {listed:Array Bool} {i:Nat} {oi:Oper} (hi:l[i]?=some oi) (h:bBt l listed i=true):(dT oi.op&&oi.dst.isSome)=true∧
  ∀j oj,l[j]?=some oj→j≠i→listed.getD j true=false→(∀e∈oj.after,Region.binds .any e=true→e.on≠i)→(dT oj.op&&oj.dst.isSome)=true∧oi.apart l.toArray oj=true:=by
 unfold bBt at h;rw[hi] at h;simp only[bZi,cCk,cCc,cEx,cCe] at h;obtain ⟨h1,h2⟩:=h;refine ⟨by simpa using h1,fun j oj hj hne hun hno=>?_⟩;have hlt:j<l.length:=by
  rcases cBd j l.length with h|h
  ·exact h
  rw[cAw h] at hj;cases hj
 rcases h2 j hlt with (h3|h3)|h3
 ·exact absurd h3 hne
 ·rw[hun] at h3;cases h3
 rw[hj] at h3;simp only[cEx,Array.any_eq_true',bZi,cCe] at h3;rcases h3 with ⟨e,he,hb,hon⟩|h3
 ·exact absurd hon (hno e he hb)
 exact ⟨by simpa using h3.1,h3.2⟩
theorem uV {l:List Oper} {k:aV→Prop}: ∀(r:List Oper) (i:Nat) (listed:Array Bool) (ρ:aV),(∀j,r[j]?=l[i+j]?)→aLe l r.length i listed=true→aKt P nt l k r ρ→aOt P nt l k r.length listed ρ
 | [],_,_,_,_,hB,h=>⟨by simpa[aLe] using hB,h⟩
 |o::r,i,listed,ρ,hl,hB,h=>by
  have h0:l[i]?=some o:=by simpa using (hl 0).symm
  have hl': ∀j,r[j]?=l[i+1+j]?:=fun j=>by have:=hl (j+1);simpa[cCa,bZj 1 j] using this
  simp only[cDx,aLe,bZi,cEx] at hB;obtain ⟨hB1,hB2⟩:=hB;rcases hB1 with ⟨hr,hf⟩|hone
  ·obtain ⟨hp,hfree⟩:=aPl h0 hf;unfold aKt at h;rw[if_pos hp] at h;obtain ⟨d,k1,k2⟩:=h;exact aPs h0 hp r.length listed ρ hfree (by simpa using hr) k1 (uV r (i+1) _ _ hl' hB2 k2)
  have hone:Region.ready .any l.toArray listed=[i]:=by simpa using hone
  refine ⟨fun h=>(by rw[hone] at h;cases h),fun j hj=>?_⟩;rw[hone] at hj;obtain rfl:j=i:=by simpa using hj
  unfold sE;rw[h0];unfold aKt at h;simp only;split
  ·rename_i hp;rw[if_pos hp] at h;obtain ⟨d,k1,k2⟩:=h;exact ⟨d,k1,uV r (j+1) _ _ hl' hB2 k2⟩
  rename_i hp;rw[if_neg hp] at h;exact h.mono fun ρ' h'=>uV r (j+1) _ _ hl' hB2 h'
theorem bIl {id:Nat} {l:List Oper} {Q:Exit→aV→Prop} (hm:P.follows .mixedOrders=true) (hr:kH nt l=true) (hB:aLe l l.length 0 (Array.replicate l.length false)=true)
  (h:aKt P nt l (Q .normal) l ρ):AW P nt (.region id l.toArray true) Q ρ:=by
 intro ro ds I A a w hs hd;refine wpIn_region_any hm ?_;have h1:=uV (P:=P) (nt:=nt) l 0 (Array.replicate l.length false) ρ b7 hB h;have hgr:mI w I w.drew I:=⟨rfl,⟨rfl,cEq _⟩,rfl,cCq _,fun _ _=>rfl,fun _ h=>h,fun _ h=>.inl h⟩
 have:=aGl (ro:=ro) (Q':=fun e a' w'=> ∃I' A' ρ',cV nt w' I' A' ρ' a'∧a'.defers=ds∧e8 w I A w' I' A'∧Q e ρ') hr _ _ ρ I A a w.drew h1 (hs.grow hgr) hd
  fun I' A' a' w' ρ' q1 q2 q3 q4=>⟨I',A',ρ',q1,q2,(hgr.ext hs.osim).trans q3,q4⟩
 simpa using this
end
end Go.Sg
