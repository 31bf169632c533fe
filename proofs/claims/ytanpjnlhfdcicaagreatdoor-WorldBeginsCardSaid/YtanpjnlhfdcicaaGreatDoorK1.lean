/- Several texts as one. -/
import Derived.Test.YtanpjnlhfdcicaaGreatDoorK0
import Derived.IntWalk
import Derived.Lib.SliceRun
import Derived.MapKept
import Derived.Still
set_option linter.unusedSectionVars false
set_option linter.unusedVariables false
set_option linter.unusedSimpArgs false
namespace Go.Sg
open Go.RowKit
section
variable {P:Program} {nt:Nat} {ρ:aN} {ops:Array Oper}
theorem vQ {o:Oper} {K:aN->Prop} {x:Operand} (hop:o.op=.assign x) (hg:o.guard=none) (ho:eJ nt o=true) (hd:jH nt o=true) (h:gd (ev ρ x)) (hK:K (cO ρ o.dst (un (ev ρ x)))):OW P nt ops o K ρ:=
 iF hg fun I A a w hs=>by
  have:=hs.opd x (bM ho (by simp[hop,Op.operands])) h;exact⟨a.eval x,w,I,A,_,by simp[execOp,hop],hs.putV hd this,f8.refl _ _ _,hK⟩
theorem cZ {A:dD} {k s:Nat} {v:Option (Option Nat×Nat)} {y:Option Nat×Nat} (h:kC A k v s=some y):(s=k/\v=some y)\/(s≠k/\A s=some y):=by
 unfold kC at h;split at h
 ·rename_i e;exact .inl ⟨e,h⟩
 rename_i e;exact .inr ⟨e,h⟩
theorem dB.moveOwn' {w:World} {I:Nat->Prop} {A:dD} {a:Act} (hs:dB nt w I A ρ a) {t d:Nat} (hd:d<nt) (ht:t<nt) (hne:t≠d) (hown:cK (ρ t)=true) {x:Value} (hsl:eU w I A t (ρ t) x):
  ∃A',dB nt w I A' (set (d4 d (set (d4 t ρ) t .any)) d (iG d (iG t (ρ t)))) (a.put (some d) x)/\f8 w I A w I A':=by
 have hb:=hs.bound;have ho:=hs.osim.own t;have hAt: ∃B c,A t=some (B,c):=by
  cases hρ:ρ t<;>rw[hρ] at hsl hown<;>first
   |(cases hown;done)
   |(obtain⟨g,c,h1,_⟩:=hsl;exact⟨_,c,h1⟩)
   |(obtain⟨B,c,h1,_⟩:=hsl;exact⟨B,c,h1⟩)
 obtain⟨B,c,hA⟩:=hAt;have hs1:=hs.disown (d:=t) aV;have hc1: ∀s,(fun s=>s !=t) s=true->kC A t none s=A s:=fun s h=>fF A _ (by simpa using h);have hc2: ∀s,(fun s=>s !=d) s=true->kC (kC A t none) d (some (B,c)) s=kC A t none s:=fun s h=>fF _ _ (by simpa using h);have hs2:=hs1.own (d:=d) hd (B:=B) (c:=c) (v:=iG d (iG t (ρ t))) (x:=x) (fun g hg=>by
   subst hg;refine⟨(hs.osim.sep t g c hA).1,(hs.osim.sep t g c hA).2,fun s c' _ hc=>?_⟩;rcases cZ hc with ⟨_,h⟩|⟨h1,h2⟩
   ·cases h
   exact h1 (hs.osim.inj s t g c' c h2 hA))
  (by
   cases hρ:ρ t<;>rw[hρ] at hsl hown<;>try (cases hown;done)
   ·obtain⟨g,c',h1,h2⟩:=hsl;rw[hA] at h1;simp only[bX,cF] at h1;obtain⟨rfl,rfl⟩:=h1;unfold iG
    split<;>split<;>first
     |exact .any _ _
     |exact⟨g,c,dJ _ _ _,h2⟩
     |skip
   ·obtain⟨B',c',h1,h2⟩:=hsl;rw[hA] at h1;simp only[bX,cF] at h1;obtain⟨rfl,rfl⟩:=h1;exact⟨B,c,dJ _ _ _,h2⟩
   obtain⟨g,c',h1,h2⟩:=hsl;rw[hA] at h1;simp only[bX,cF] at h1;obtain⟨rfl,rfl⟩:=h1;exact⟨g,c,dJ _ _ _,h2⟩)
  (by
   cases hρ:ρ t<;>rw[hρ] at ho hown<;>try (cases hown;done)
   ·obtain⟨g,c',us,et,h1,h2,h3,h4,h5⟩:=ho;rw[hA] at h1;simp only[bX,cF] at h1;obtain⟨rfl,rfl⟩:=h1;unfold iG;split
    ·rename_i hk1;split
     ·rename_i hk2;exact⟨g,c,us,et,dJ _ _ _,h2,h3,h4,fun j e u he hu=>((h5 j e u he hu).congrA _ (gZ (by simpa[fL] using hk1) he) hc1).congrA _ (gZ (by simpa[fL] using hk2) he) hc2⟩
     trivial
    trivial
   ·obtain⟨B',c',h1,h2⟩:=ho;rw[hA] at h1;simp only[bX,cF] at h1;obtain⟨rfl,rfl⟩:=h1;exact⟨B,c,dJ _ _ _,h2⟩
   obtain⟨g,c',vs,cl,h1,h2,h3⟩:=ho;rw[hA] at h1;simp only[bX,cF] at h1;obtain⟨rfl,rfl⟩:=h1;exact⟨g,c,vs,cl,dJ _ _ _,h2,h3⟩)
 refine⟨_,hs2,⟨rfl,⟨rfl,bW _⟩,rfl,bW _,fun _ h=>h,fun g hg hAg=>⟨rfl,fun h=>h,fun s c' hc=>?_⟩,fun s g c' hc hg hl=>?_,fun s hs'=>?_⟩⟩
 ·rcases cZ hc with ⟨_,h⟩|⟨_,h⟩
  ·simp only[bX,cF] at h;obtain⟨rfl,rfl⟩:=h;exact hAg t c hA
  rcases cZ h with ⟨_,h⟩|⟨_,h⟩
  ·cases h
  exact hAg s c' h
 ·rcases cZ hc with ⟨_,h⟩|⟨_,h⟩
  ·simp only[bX,cF] at h;obtain⟨rfl,rfl⟩:=h;exact⟨t,c,by omega,hA⟩
  rcases cZ h with ⟨_,h⟩|⟨_,h⟩
  ·cases h
  exact⟨s,c',hl,h⟩
 rw[fF _ _ aV,fF _ _ aV]
theorem dB.moveOwn {w:World} {I:Nat->Prop} {A:dD} {a:Act} (hs:dB nt w I A ρ a) {t d:Nat} (hd:d<nt) (ht:t<nt) (hne:t≠d) (hown:cK (ρ t)=true):
  ∃A',dB nt w I A' (set (d4 d (set (d4 t ρ) t .any)) d (iG d (iG t (ρ t)))) (a.put (some d) (a.eval (.tmp t)))/\f8 w I A w I A':=hs.moveOwn' hd ht hne hown (hs.slot t ht)
theorem aVv {o:Oper} {K:aN->Prop} {t d:Nat} (hop:o.op=.assign (.tmp t)) (hg:o.guard=none) (hdst:o.dst=some d) (hd:d<nt) (ht:t<nt) (hne:t≠d) (hown:cK (ρ t)=true)
  (hK:K (set (d4 d (set (d4 t ρ) t .any)) d (iG d (iG t (ρ t))))):OW P nt ops o K ρ:=by
 refine iF hg fun I A a w hs=>?_;obtain⟨A',h1,h2⟩:=hs.moveOwn hd ht hne hown;exact⟨a.eval (.tmp t),w,I,A',_,by simp[execOp,hop],by rw[hdst];exact h1,h2,hK⟩
theorem aLd {a:Act} {d:Nat} {x:Value} (hd:d<a.tmps.size) (h:a.tmps.getD d undef=x):a.put (some d) x=a:=by
 have:a.tmps.setIfInBounds d x=a.tmps:=by
  apply Array.ext dH;intro i h1 h2;rw[Array.getElem_setIfInBounds];split
  ·rename_i e1;subst e1;rw[<- h,oB,iY hd];rfl
  rfl
 unfold Act.put;simp[this]
theorem dB.claim {w:World} {I:Nat->Prop} {A:dD} {a:Act} (hs:dB nt w I A ρ a) {t d:Nat} (hd:d<nt) (ht:t<nt) (hne:t≠d)
  (h:(∃e z xs,ρ d=.own t xs.length/\ρ t=.row e z xs)\/(∃cs,ρ d=.bp t 0/\ρ t=.bx cs)):
  ∃A',dB nt w I A' (set (d4 d (set (d4 t ρ) t .any)) d (iG d (iG t (ρ t)))) a/\f8 w I A w I A':=by
 have hown:cK (ρ t)=true:=by rcases h with ⟨e,z,xs,_,h⟩|⟨cs,_,h⟩<;>rw[h]<;>rfl
 have hsd:=hs.slot d hd;have hx:eU w I A t (ρ t) (a.tmps.getD d undef):=by
  generalize a.tmps.getD d undef=x at hsd ⊢;rcases h with ⟨e,z,xs,k1,k2⟩|⟨cs,k1,k2⟩
  ·rw[k1] at hsd;rw[k2];have hsd:bP w I A (.own t xs.length) x:=hsd;cases hsd with
   |own _ _ _ B' c' b q3 hb=>exact⟨B',c',q3,b,hb,rfl⟩
  rw[k1] at hsd;rw[k2];have hsd:bP w I A (.bp t 0) x:=hsd;cases hsd with
  |bp _ _ _ g' c' q3=>exact⟨g',c',q3,rfl⟩
 obtain⟨A',h1,h2⟩:=hs.moveOwn' hd ht hne hown hx;rw[aLd (by rw[hs.size];exact hd) rfl] at h1;exact⟨A',h1,h2⟩
def cW:DV->List DV
 | .agg cs=>cs
 | .v (.agg _)=>[]
 | .v (.tuple _)=>[]
 | .v x=>[.v x]
 | .sl z n f=>[.sl z n f]
 | .dp cs=>[.dp cs]
 | .bp s o=>[.bp s o]
 | .own s n=>[.own s n]
 | .rp s z i o=>[.rp s z i o]
 | .fn f a b=>[.fn f a b]
 | .iface t x=>[.iface t x]
 | .ez=>[.ez]
 |_=>[]
theorem tJ {w:World} {I:Nat->Prop} {A:dD} {d:DV} {x:Value} (h:bP w I A d x) (hl:0<(cW d).length\/ ∃cs,d=.agg cs):
  (cW d).length=x.cells.size/\(∀u∈x.cells.toList,u.oneCell'=true)/\ ∀(j:Nat) (e:DV) (u:Value),(cW d)[j]?=some e->x.cells[j]?=some u->bP w I A e u:=by
 have one: ∀(e:DV) (y:Value),bP w I A e y->y.cells= #[y]->y.oneCell'=true->[e].length=y.cells.size/\(∀u∈y.cells.toList,u.oneCell'=true)/\
   ∀(j:Nat) (e':DV) (u:Value),[e][j]?=some e'->y.cells[j]?=some u->bP w I A e' u:=fun e y he hy hone=>by
  rw[hy];refine⟨rfl,by simpa using hone,fun j e' u h1 h2=>?_⟩;cases j with
  |zero=>simp at h1 h2;subst h1;subst h2;exact he
  |succ j=>simp at h1
 cases h with
 |any=>rcases hl with h|⟨cs,h⟩<;>simp[cW] at h
 |v _ x=>
  cases x<;>first
   |exact one _ _ (.v A _) rfl rfl
   |(rcases hl with h|⟨cs,h⟩<;>simp[cW] at h)
 |agg _ cs vs hl' hone hrel=>exact⟨hl',hone,hrel⟩
 |tup _ cs vs hl' hrel=>rcases hl with h|⟨cs,h⟩<;>simp[cW] at h
 |sl0 _ z f b c=>exact one _ _ (.sl0 A z f b c) rfl rfl
 |sl _ z n f b o c us hn hc hm hI hz hcell hone hrel=>exact one _ _ (.sl A z n f b o c us hn hc hm hI hz hcell hone hrel) rfl rfl
 |dp _ cs b o us hI hcell hone hrel=>exact one _ _ (.dp A cs b o us hI hcell hone hrel) rfl rfl
 |bp _ s off g c h=>exact one _ _ (.bp A s off g c h) rfl rfl
 |own _ s n B c b h hb=>exact one _ _ (.own A s n B c b h hb) rfl rfl
 |rp _ s z i off g c h=>exact one _ _ (.rp A s z i off g c h) rfl rfl
 |fn _ f fs cs us vs hf hc hfr hcr=>exact one _ _ (.fn A f fs cs us vs hf hc hfr hcr) rfl rfl
 |iface _ t d x h=>exact one _ _ (.iface A t d x h) rfl rfl
 |mr _ s g c h=>rcases hl with h|⟨cs,h⟩<;>simp[cW] at h
 |ez _ b=>exact one _ _ (.ez A b) rfl rfl
theorem dB.newBox {w:World} {I:Nat->Prop} {A:dD} {a:Act} (hs:dB nt w I A ρ a) {d:Nat} (hd:d<nt) {cs:List DV} {us:Array Value} (t:TypeId) (hl:cs.length=us.size)
  (hone: ∀u∈us.toList,u.oneCell'=true) (hr: ∀(j:Nat) (e:DV) (u:Value),cs[j]?=some e->us[j]?=some u->bP w I A e u):
  ∃A',dB nt (w.alloc (.cells us t)) I A' (set (d4 d ρ) d (iG d (.bx cs))) (a.put (some d) (.pointer (some ⟨w.heap.size,0,none⟩)))/\f8 w I A (w.alloc (.cells us t)) I A':=by
 have hb:=hs.bound;have hgr:=oT.alloc hs.osim (.cells us t);have hs1:=hs.grow hgr;refine⟨kC A d (some (some w.heap.size,0)),?_,?_⟩
 ·refine hs1.own hd (fun g hg=>?_) ?_ ?_
  ·cases hg;refine⟨by simp,fun hi=>?_,fun s c' _ hc=>?_⟩
   ·have:=hs.osim.imm _ hi;omega
   have:=(hs.osim.sep s _ c' hc).1;omega
  ·unfold iG;split
   ·exact⟨_,0,dJ _ _ _,rfl⟩
   exact .any _ _
  unfold iG;split
  ·rename_i hk;refine⟨w.heap.size,0,us,t,dJ _ _ _,heap_alloc_new w _,hl.symm,hone,fun j e u he hu=>?_⟩;exact (hgr.rel hs.osim (hr j e u he hu)).congrA _ (gZ (by simpa[fL] using hk) he) fun s h=>fF A _ (by simpa using h)
  trivial
 have he:=hgr.ext hs.osim;refine⟨rfl,⟨rfl,bW _⟩,rfl,by simp,fun _ h=>h,fun g hg hA=>⟨hgr.heap g hg,fun h=>h,fun s c hc=>?_⟩,fun s g c hc hg hl'=>?_,fun s h=>fF A _ aV⟩
 ·rcases cZ hc with ⟨_,h⟩|⟨_,h⟩
  ·simp only[bX,cF] at h;omega
  exact hA s c h
 rcases cZ hc with ⟨_,h⟩|⟨_,h⟩
 ·simp only[bX,cF] at h;omega
 exact⟨s,c,hl',h⟩
theorem cJd {o:Oper} {K:aN->Prop} {t:TypeId} {x:Operand} {d:Nat} (hop:o.op=.box t x) (hg:o.guard=none) (hdst:o.dst=some d) (hd:d<nt) (ho:eJ nt o=true) (h:gd (ev ρ x))
  (hl:0<(cW (un (ev ρ x))).length\/ ∃cs,un (ev ρ x)=.agg cs) (hK:K (set (d4 d ρ) d (iG d (.bx (cW (un (ev ρ x))))))):OW P nt ops o K ρ:=by
 refine iF hg fun I A a w hs=>?_;have hx:=hs.opd x (bM ho (by simp[hop,Op.operands])) h;obtain⟨h1,h2,h3⟩:=tJ hx hl;obtain⟨A',k1,k2⟩:=hs.newBox hd t h1 h2 h3;exact⟨.pointer (some ⟨w.heap.size,0,none⟩),_,I,A',_,by simp[execOp,hop,Instr.box,newVar,newRow],by rw[hdst];exact k1,k2,hK⟩
def eW (P:Program) (t:TypeId):Option (List Value):=
 match P.info? t with
 |some i=>match i.zero with
  |some z=>if z.cells.toList.all (·.oneCell') then some z.cells.toList else none
  |none=>none
 |none=>none
theorem lQ {t:TypeId} {zs:List Value} (h:eW P t=some zs): ∃i z,P.info? t=some i/\i.zero=some z/\z.cells.toList=zs/\ ∀u∈zs,u.oneCell'=true:=by
 unfold eW at h;split at h<;>try cases h
 rename_i i hi;split at h<;>try cases h
 rename_i z hz;split at h<;>cases h;rename_i hall;exact⟨i,z,hi,hz,rfl,dI.1 hall⟩
theorem aWz {o:Oper} {K:aN->Prop} {t:TypeId} {zs:List Value} {d:Nat} (hop:o.op=.alloc t) (hg:o.guard=none) (hdst:o.dst=some d) (hd:d<nt) (hz:eW P t=some zs)
  (hK:K (set (d4 d ρ) d (.bx (zs.map .v)))):OW P nt ops o K ρ:=by
 refine iF hg fun I A a w hs=>?_;obtain⟨i,z,h1,h2,h3,h4⟩:=lQ hz;have hkill:iG d (.bx (zs.map .v))=.bx (zs.map .v):=by
  unfold iG;rw[if_pos];simp only[fL];rw[pD];intro e he;simp at he;obtain⟨v,_,rfl⟩:=he;rfl
 obtain⟨A',k1,k2⟩:=hs.newBox hd (cs:=zs.map .v) (us:=z.cells) t (by simp[<- h3]) (by rw[h3];exact h4) (fun j e u he hu=>by
  simp only[dG,gC,<- h3,kK] at he;obtain⟨y,hy,rfl⟩:=he;rw[hu] at hy;cases hy;exact .v A _)
 rw[hkill] at k1;refine⟨.pointer (some ⟨w.heap.size,0,none⟩),_,I,A',_,?_,by rw[hdst];exact k1,k2,hK⟩;simp[execOp,hop,Instr.alloc,zeroValue,typeInfo,h1,h2,newVar,newRow]
def spl (off:Nat) (cs old:List DV):List DV:=
 if cs.length=1 then old.set off (cs.headD .any) else if cs.length=old.length then cs else old.take off++cs++old.drop (off+cs.length)
theorem aCk {off:Nat} {cs old:List DV} (h:off+cs.length<=old.length):spl off cs old=old.take off++cs++old.drop (off+cs.length):=by
 unfold spl;split
 ·rename_i h1
  match cs,h1 with
  | [c],_=>
   simp only[List.headD_cons,aBo];rw[List.set_eq_take_append_cons_drop,if_pos (by simp at h;omega)];simp
 split
 ·rename_i h1;obtain rfl:off=0:=by omega
  simp[h1]
 rfl
def gV (P:Program) (t:TypeId):Option Nat:=(P.info? t).map (·.size)
theorem yJ {w:World} {t:TypeId} {n:Nat} (hz:gV P t=some n) {x:Value} (hn:x.cells.size=n) {g o:Nat} {us:Array Value} {et:TypeId} (hg:w.heap[g]?=some (.cells us et (0,0)))
  (hl:o+n<=us.size) (hone: ∀u∈x.cells.toList,u.oneCell'=true):
  (Instr.storeAt t (.pointer (some ⟨g,o,none⟩)) x).run P w=.ok () (w.setRow g (us.toList.take o++x.cells.toList++us.toList.drop (o+n)).toArray):=by
 unfold gV at hz;cases hi:P.info? t with
 |none=>rw[hi] at hz;cases hz
 |some i=>
  rw[hi] at hz;simp at hz;have:=run_storeCells_at (P:=P) g o et x.cells.toList 0 us w hg (by simp[hn];omega) hone;simp only[iD,xT,hn] at this;simp[Instr.storeAt,Instr.sureAddr,storeVar,run_sizeOf w hi,Program.cellsOf,hi,hz,hn,this]
theorem cCq {w:World} {I:Nat->Prop} {A:dD} {cs old:List DV} {us vs:Array Value} {off:Nat} (hl:old.length=us.size) (hc:cs.length=vs.size) (h:off+cs.length<=old.length)
  (hold: ∀(j:Nat) (e:DV) (u:Value),old[j]?=some e->us[j]?=some u->bP w I A e u) (hnew: ∀(j:Nat) (e:DV) (u:Value),cs[j]?=some e->vs[j]?=some u->bP w I A e u):
  ∀(j:Nat) (e:DV) (u:Value),(old.take off++cs++old.drop (off+cs.length))[j]?=some e->(us.toList.take off++vs.toList++us.toList.drop (off+cs.length))[j]?=some u->bP w I A e u:=by
 intro j e u he hu;rw[tH,tH] at he hu;simp only[fP,iO,xT,<- hl,<- hc,qP (show off<=old.length by omega)] at he hu;split at he
 ·rename_i h1;rw[if_pos h1] at hu;split at he
  ·rename_i h2;rw[if_pos h2] at hu;rw[oR,if_pos h2] at he hu;rw[kK] at hu;exact hold j e u he hu
  rename_i h2;rw[if_neg h2] at hu;rw[kK] at hu;exact hnew _ e u he hu
 rename_i h1;rw[if_neg h1] at hu;rw[sC] at he hu;rw[kK] at hu;exact hold _ e u he hu
def stB (ρ:aN) (s off n:Nat) (cs:List DV) (c:DV) (K:aN->Prop):Prop:=
 match c with
 | .bx old=>cs.length=n/\off+n<=old.length/\(s<100000\/d6 (fun t=>decide (100000<=t)) cs=true)/\K (set ρ s (.bx (spl off cs old)))
 |_=>False
theorem bWq {p:Nat->Bool} {off:Nat} {cs old:List DV} (h:off+cs.length<=old.length) (h1:d6 p cs=true) (h2:d6 p old=true):d6 p (spl off cs old)=true:=by
 rw[aCk h,pD];rw[pD] at h1 h2;intro e he;simp only[tB,iV] at he;rcases he with he|he|he
 ·exact h2 e (bHi he)
 ·exact h1 e he
 exact h2 e (List.mem_of_mem_drop he)
theorem aXk {o:Oper} {K:aN->Prop} {t:TypeId} {ad x:Operand} {n s off:Nat} (hop:o.op=.store t ad x) (hg:o.guard=none) (hdst:o.dst=none) (ho:eJ nt o=true)
  (ha:ev ρ ad=.bp s off) (hx:gd (ev ρ x)) (hz:gV P t=some n) (hl:0<n) (h:stB ρ s off n (cW (un (ev ρ x))) (ρ s) K):OW P nt ops o K ρ:=by
 refine aAj hg fun I A a w hs=>?_;have hxr:=hs.opd x (bM ho (by simp[hop,Op.operands])) hx;have hadr:=hs.opd ad (bM ho (by simp[hop,Op.operands])) (by rw[ha];trivial);rw[ha] at hadr;have hadr:bP w I A (.bp s off) (a.eval ad):=hadr;generalize hav:a.eval ad=av at*;cases hadr with
 |bp _ _ _ g c hA=>
  have hown:=hs.osim.own s;cases hρ:ρ s<;>rw[hρ] at h hown<;>simp only[stB] at h<;>try exact h.elim
  rename_i old;obtain⟨h1,h2,h3,hK⟩:=h;obtain⟨g',c',us,et,q1,q2,q3,q4,q5⟩:=hown;rw[hA] at q1;simp only[bX,cF] at q1;obtain⟨rfl,rfl⟩:=q1;obtain⟨k1,k2,k3⟩:=tJ hxr (.inl aV);have hrun:=yJ (P:=P) (w:=w) hz (x:=a.eval x) aV q2 (o:=off) aV k2;rw[<- h1] at hrun;generalize hnew:(us.toList.take off++(a.eval x).cells.toList++us.toList.drop (off+(cW (un (ev ρ x))).length)).toArray=new at hrun;have hI: ∀{B:dD} {d:DV} {v:Value},bP w I B d v->bP (w.setRow g new) I B d v:=fun hr=>
   hr.mono fun g' hg'=>⟨hg',fun o=>eD (setRow_other w g g' _ (fun e=>(hs.osim.sep s g c hA).2 (e▸hg'))) o⟩
  refine⟨w.setRow g new,I,A,_,?_,?_,f8.turn hA new,hK⟩
  ·simp only[execOp,hop,Sem.run_bind,hav,hrun,Result.andThen_ok,Sem.run_pure]
  rw[hdst];refine hs.turn hA q2 (fun v hv=>?_) ?_ fun hs'=>?_
  ·rw[hρ] at hv;exact hv
  ·rw[aCk aV];subst hnew;refine⟨g,c,_,et,hA,setRow_heap w g us _ et _ q2,by simp;omega,fun u hu=>?_,fun j e u he hu=>hI (cCq q3.symm k1 aV q5 k3 j e u he (by simpa using hu))⟩;simp only[tB,iV] at hu;rcases hu with hu|hu|hu
   ·exact q4 u (bHi hu)
   ·exact k2 u hu
   exact q4 u (List.mem_of_mem_drop hu)
  have:=hs.out s hs';rw[hρ] at this;refine show fL _ (.bx _)=true from ?_
  simp only[fL];exact bWq aV (h3.resolve_left aV) (by simpa[cX,fL] using this)
end
end Go.Sg
namespace Go.Sg
open Go.RowKit
def nE (P:Program) (t:TypeId):Option (TypeId×Nat×Nat):=
 match P.underlying t with
 |some (.slice e)=>(P.info? e).map fun i=>(e,i.size,i.bytes)
 |_=>none
section
variable {P:Program} {nt:Nat} {ρ:aN} {ops:Array Oper}
theorem lC {t:TypeId} {e:TypeId} {z b:Nat} (h:nE P t=some (e,z,b)):P.underlying t=some (.slice e)/\ ∃i,P.info? e=some i/\i.size=z/\i.bytes=b:=by
 unfold nE at h;split at h<;>try cases h
 rename_i e' hu;cases hi:P.info? e' with
 |none=>rw[hi] at h;cases h
 |some i=>
  rw[hi] at h;simp at h;obtain⟨rfl,rfl,rfl⟩:=h;exact⟨hu,i,hi,rfl,rfl⟩
theorem dB.newRow {w:World} {I:Nat->Prop} {A:dD} {a:Act} (hs:dB nt w I A ρ a) {d:Nat} (hd:d<nt) {e:TypeId} {z c:Nat} {xs:List (List DV)} {us:Array Value} (hu:us.size=c*z) (hc:c<=maxLen) (hx:xs.length<=c)
  (hr: ∀(i:Nat) (x:List DV),xs[i]?=some x->x.length=z/\ ∀(j:Nat) (d:DV) (u:Value),x[j]?=some d->us[i*z+j]?=some u->u.oneCell'=true/\bP w I fO d u):
  ∃A',dB nt (w.alloc (.cells us e)) I A' (set (d4 d ρ) d (.row e z xs)) (a.put (some d) (.slice (some ⟨w.heap.size,0,none⟩) xs.length c))/\f8 w I A (w.alloc (.cells us e)) I A':=by
 have hb:=hs.bound;have hgr:=oT.alloc hs.osim (.cells us e);have hs1:=hs.grow hgr;refine⟨kC A d (some (some w.heap.size,c)),?_,?_⟩
 ·refine hs1.own hd (fun g hg=>?_) ⟨_,c,dJ _ _ _,_,sY _,rfl⟩ ⟨_,c,dJ _ _ _,us,heap_alloc_new w _,hu,hc,hx,fun i x hx=>⟨(hr i x hx).1,fun j d' u h1 h2=>⟨((hr i x hx).2 j d' u h1 h2).1,hgr.rel hs.osim ((hr i x hx).2 j d' u h1 h2).2⟩⟩⟩;cases hg;refine⟨by simp,fun hi=>?_,fun s c' _ hc=>?_⟩
  ·have:=hs.osim.imm _ hi;omega
  have:=(hs.osim.sep s _ c' hc).1;omega
 refine⟨rfl,⟨rfl,bW _⟩,rfl,by simp,fun _ h=>h,fun g hg hA=>⟨hgr.heap g hg,fun h=>h,fun s c hc=>?_⟩,fun s g c hc hg hl'=>?_,fun s h=>fF A _ aV⟩
 ·rcases cZ hc with ⟨_,h⟩|⟨_,h⟩
  ·simp only[bX,cF] at h;omega
  exact hA s c h
 rcases cZ hc with ⟨_,h⟩|⟨_,h⟩
 ·simp only[bX,cF] at h;omega
 exact⟨s,c,hl',h⟩
theorem dB.newData {w:World} {I:Nat->Prop} {A:dD} {a:Act} (hs:dB nt w I A ρ a) (e:TypeId) (us:Array Value):
  oT w I (w.alloc (.cells us e)) (fun g=>I g\/g=w.heap.size):=
 ⟨rfl,⟨rfl,bW _⟩,rfl,by simp,fun g hg=>Below.heap_alloc w _ g hg,fun _ h=>.inl h,fun g h=>h.imp id fun e=>⟨by omega,by simp[e]⟩⟩
theorem aTy {o:Oper} {K:aN->Prop} {t:TypeId} {x y:Operand} {d:Nat} {e:TypeId} {z by_:Nat} {zs:List Value} {k k':IntKind} {n c:Int} (hop:o.op=.makeSlice t x y) (hg:o.guard=none) (hdst:o.dst=some d) (hd:d<nt)
  (ho:eJ nt o=true) (hx:ev ρ x=.v (.int k n)) (hy:ev ρ y=.v (.int k' c)) (hs:nE P t=some (e,z,by_)) (hz:eW P e=some zs) (hzl:zs.length=z) (h0:0<=n) (h1:n<=c) (h2:c<=9223372036854775807)
  (h3:c*by_<=140737488355328) (hK:K (set (d4 d ρ) d (.row e z (List.replicate n.toNat (zs.map .v))))):OW P nt ops o K ρ:=by
 obtain⟨hu,i,hi,rfl,rfl⟩:=lC hs;obtain⟨i',zv,hi',hzv,rfl,hone⟩:=lQ hz;rw[hi] at hi';cases hi';refine iF hg fun I A a w hsim=>?_;have hxr:=hsim.opd x (bM ho (by simp[hop,Op.operands])) (by rw[hx];trivial);have hyr:=hsim.opd y (bM ho (by simp[hop,Op.operands])) (by rw[hy];trivial);rw[hx] at hxr;rw[hy] at hyr;have hxe:a.eval x=.int k n:=by
  have hxr:bP w I A (.v (.int k n)) (a.eval x):=hxr;generalize a.eval x=q at hxr ⊢;cases hxr;rfl
 have hye:a.eval y=.int k' c:=by
  have hyr:bP w I A (.v (.int k' c)) (a.eval y):=hyr;generalize a.eval y=q at hyr ⊢;cases hyr;rfl
 have hwn:IntKind.i64.wrap n=n:=IntWalk.i64_in n ⟨by omega,by omega⟩;have hwc:IntKind.i64.wrap c=c:=IntWalk.i64_in c ⟨by omega,by omega⟩;have hzs:zv.cells.size=i.size:=by simpa using hzl
 obtain⟨us,husd⟩: ∃us:Array Value,us=(Array.range (c.toNat*i.size)).map (zv.cells[· %zv.cells.size]!):=⟨_,rfl⟩;have hus:us.size=c.toNat*i.size:=by simp[husd]
 have hget: ∀m r,m<c.toNat->r<i.size->us[m*i.size+r]?=zv.cells[r]?:=fun m r hm hr=>by
  have hlt:m*i.size+r<c.toNat*i.size:=by
   have:(m+1)*i.size<=c.toNat*i.size:=gF _ aV;rw[jV] at this;omega
  have e1:(m*i.size+r)%zv.cells.size=r:=by rw[hzs,oE,Nat.mul_add_mod,aGy hr]
  simp only[husd,aZi,Array.getElem?_range,hlt,if_true,gG,e1];rw[iY aV,rU _ _ aV]
 have hrun:(execOp a.eval o).run P w=.ok (.value (.slice (some ⟨w.heap.size,0,none⟩) n.toNat c.toNat)) (w.alloc (.cells us e)):=by
  simp only[execOp,hop,hxe,hye,Instr.makeSlice,asInt,asIntOf,Sem.run_bind,run_underlying hu,Result.andThen_ok,Sem.run_pure,run_typeInfo w hi,hwn,hwc,run_askRoom,run_sizeOf w hi,Program.cellsOf,hi,gG,iE];have hcond:(decide (c<0)||decide ((i.bytes:Int)*c>2^48)||decide (n<0)||decide (n>c))=false:=by
   have hc48:(i.bytes:Int)*c<=140737488355328:=by rw[Int.mul_comm];exact h3
   have e48:(2:Int)^48=281474976710656:=by decide
   simp only[uL,tD,e48];omega
  rw[hcond,if_neg dH];simp only[Sem.run_bind,run_askRoom,Result.andThen_ok,run_sizeOf w hi,Program.cellsOf,hi,gG,iE];by_cases hzero:c.toNat*i.size=0
  ·have he:us= #[]:=by
    apply aZw;rw[hus,hzero]
   rw[if_pos hzero,he];simp[newRow,hzero,Array.range_zero']
  rw[if_neg hzero];simp[zeroValue,run_typeInfo w hi,hzv,newRow,husd]
 obtain⟨A',k1,k2⟩:=hsim.newRow hd (e:=e) (z:=i.size) (c:=c.toNat) (xs:=List.replicate n.toNat (zv.cells.toList.map .v)) (us:=us) hus (by unfold maxLen;omega) (by simp;omega) (fun m x hx=>by
  rw[List.getElem?_replicate] at hx;split at hx<;>cases hx;rename_i hm;refine⟨by simp[hzs],fun r dv u hd hu=>?_⟩;simp only[dG,gC,kK] at hd;obtain⟨q,hq,rfl⟩:=hd;have hr:r<i.size:=by
   rw[<- hzs];rcases b9 r zv.cells.size with h|h
   ·exact h
   rw[aJt h] at hq;cases hq
  rw[hget m r aV hr,hq] at hu;cases hu;exact⟨hone _ (by simpa using tQ hq),.v _ _⟩)
 refine⟨_,_,I,A',_,hrun,?_,k2,hK⟩;rw[hdst];simpa using k1
def bsL (ρ:aN) (parts:List (Nat×Operand)):List (List DV):=parts.map fun p=>cW (un (ev ρ p.2))
def aJf (ρ:aN) (z:Nat):Nat->List (Nat×Operand)->Prop
 |_,[]=>True
 |k,p::l=>p.1=k/\gd (ev ρ p.2)/\(cW (un (ev ρ p.2))).length=z/\d6 (fun _=>false) (cW (un (ev ρ p.2)))=true/\aJf ρ z (k+1) l
theorem tF {z:Nat}: ∀{parts:List (Nat×Operand)} {k:Nat},aJf ρ z k parts-> ∀(j:Nat) (p:Nat×Operand),parts[j]?=some p->
  p.1=k+j/\gd (ev ρ p.2)/\(cW (un (ev ρ p.2))).length=z/\d6 (fun _=>false) (cW (un (ev ρ p.2)))=true
 | [],_,_,j,p,hp=>by simp at hp
 |q::l,k,h,j,p,hp=>by
  obtain⟨h1,h2,h3,h4,h5⟩:=h;cases j with
  |zero=>simp at hp;subst hp;exact⟨by omega,h2,h3,h4⟩
  |succ j=>
   have:=tF h5 j p (by simpa using hp);exact⟨by omega,this.2⟩
theorem aQd (off:Nat) (xs:List Value): ∀(cs:Array Value) (k:Nat),off+k+xs.length<=cs.size->
  ((xs.zipIdx k).foldl (fun cs (p:Value×Nat)=>cs.setIfInBounds (off+p.2) p.1) cs).size=cs.size/\
  ∀q,((xs.zipIdx k).foldl (fun cs (p:Value×Nat)=>cs.setIfInBounds (off+p.2) p.1) cs)[q]?=if off+k<=q/\q<off+k+xs.length then xs[q-(off+k)]? else cs[q]?:=by
 induction xs with
 |nil=>intro cs k h;exact⟨rfl,fun q=>by rw[if_neg dH];rfl⟩
 |cons x xs ih=>
  intro cs k h;simp only[qH] at h;obtain⟨h1,h2⟩:=ih (cs.setIfInBounds (off+k) x) (k+1) (by simp;omega);rw[List.zipIdx_cons,aNh];refine⟨by rw[h1];simp,fun q=>?_⟩;rw[h2 q,qH,aBx];by_cases hq:q=off+k
  ·subst hq;rw[if_neg aV,if_pos rfl,if_pos aV,if_pos aV];simp
  by_cases h3:off+(k+1)<=q/\q<off+(k+1)+xs.length
  ·rw[if_pos h3,if_pos aV];obtain⟨m,rfl⟩: ∃m,q=off+k+1+m:=⟨q-(off+k+1),by omega⟩;rw[show off+k+1+m-(off+k)=m+1 from by omega,show off+k+1+m-(off+(k+1))=m from by omega];simp
  rw[if_neg h3,if_neg (fun e=>hq e.symm),if_neg aV]
theorem aAh (place:Nat->Option (Nat×Nat)): ∀(parts:List (Nat×Value)) (cells:Array Value),
  (∀(j i:Nat) (v:Value),parts[j]?=some (i,v)-> ∃off,place i=some (off,v.cells.size)/\off+v.cells.size<=cells.size)->
  ∃out,Instr.fill place cells parts=some out/\out.size=cells.size/\
   ∀q,(∃(j i:Nat) (v:Value) (off:Nat),parts[j]?=some (i,v)/\place i=some (off,v.cells.size)/\off<=q/\q<off+v.cells.size/\out[q]?=v.cells[q-off]?)\/
    ((∀(j i:Nat) (v:Value) (off:Nat),parts[j]?=some (i,v)->place i=some (off,v.cells.size)-> ¬(off<=q/\q<off+v.cells.size))/\out[q]?=cells[q]?)
 | [],cells,_=>⟨cells,rfl,rfl,fun q=>.inr ⟨by simp,rfl⟩⟩
 |(i,v)::rest,cells,h=>by
  obtain⟨off,hp,hl⟩:=h 0 i v dH;obtain⟨f1,f2⟩:=aQd off v.cells.toList cells 0 (by simp;omega);simp only[iD,xT] at f1 f2;have hzip:(v.cells.zipIdx.foldl (fun cs (p:Value×Nat)=>cs.setIfInBounds (off+p.2) p.1) cells)=(v.cells.toList.zipIdx 0).foldl (fun cs (p:Value×Nat)=>cs.setIfInBounds (off+p.2) p.1) cells:=by
   rw[<- Array.foldl_toList,Array.toList_zipIdx]
  obtain⟨out,o1,o2,o3⟩:=aAh place rest ((v.cells.toList.zipIdx 0).foldl (fun cs (p:Value×Nat)=>cs.setIfInBounds (off+p.2) p.1) cells) (fun j i' v' hj=>by
   obtain⟨off',k1,k2⟩:=h (j+1) i' v' (by simpa using hj);exact⟨off',k1,by rw[f1];exact k2⟩)
  refine⟨out,?_,o2.trans f1,fun q=>?_⟩
  ·unfold Instr.fill;simp only[hp];rw[if_neg (by simp;omega)];rw[<- hzip] at o1;exact o1
  rcases o3 q with ⟨j,i',v',off',k1,k2,k3,k4,k5⟩|⟨k1,k2⟩
  ·exact .inl ⟨j+1,i',v',off',by simpa using k1,k2,k3,k4,k5⟩
  rw[k2,f2 q];by_cases hq:off<=q/\q<off+v.cells.size
  ·rw[if_pos hq];exact .inl ⟨0,i,v,off,by simp,hp,hq.1,hq.2,by simp⟩
  rw[if_neg hq];refine .inr ⟨fun j i' v' off' hj hp'=>?_,rfl⟩;cases j with
  |zero=>
   simp at hj;obtain⟨rfl,rfl⟩:=hj;rw[hp] at hp';simp at hp';subst hp';exact hq
  |succ j=>exact k1 j i' v' off' (by simpa using hj) hp'
theorem qQ {z i q:Nat} (hz:0<z) (h1:i*z<=q) (h2:q<i*z+z):q/z=i:=by
 obtain⟨r,rfl⟩: ∃r,q=i*z+r:=⟨q-i*z,by omega⟩;rw[Nat.add_comm,Nat.add_mul_div_right _ _ hz,Nat.div_eq_of_lt aV];omega
theorem bWc {o:Oper} {K:aN->Prop} {t:TypeId} {n:Nat} {parts:Array (Nat×Operand)} {d:Nat} {e:TypeId} {z by_:Nat} {zs:List Value} (hop:o.op=.buildSlice t n parts) (hg:o.guard=none) (hdst:o.dst=some d) (hd:d<nt)
  (ho:eJ nt o=true) (hs:nE P t=some (e,z,by_)) (hz:eW P e=some zs) (hz0:0<z) (hn0:0<n) (hn:n*z<=16777216) (hl:parts.toList.length=n) (hp:aJf ρ z 0 parts.toList)
  (hK:K (set ρ d (.sl z n fun i=>(bsL ρ parts.toList).getD i []))):OW P nt ops o K ρ:=by
 obtain⟨hu,i,hi,rfl,rfl⟩:=lC hs;obtain⟨i',zv,hi',hzv,rfl,_⟩:=lQ hz;rw[hi] at hi';cases hi';refine iF hg fun I A a w hsim=>?_
 have hpart: ∀(j:Nat) (p:Nat×Operand),parts.toList[j]?=some p->p.1=j/\(a.eval p.2).cells.size=i.size/\(∀u∈(a.eval p.2).cells.toList,u.oneCell'=true)/\
   ∀(r:Nat) (x:DV) (u:Value),(cW (un (ev ρ p.2)))[r]?=some x->(a.eval p.2).cells[r]?=some u->bP w I fO x u:=fun j p hj=>by
  obtain⟨h1,h2,h3,h4⟩:=tF hp j p hj;have hx:=hsim.opd p.2 (bM ho (by
   simp only[hop,Op.operands];simp;exact⟨p.1,by have:=pP hj;simpa using this⟩)) h2
  obtain⟨k1,k2,k3⟩:=tJ hx (.inl aV);exact⟨by omega,by omega,k2,fun r x u hx hu=>(k3 r x u hx hu).pure (gZ h4 hx)⟩
 let vparts:List (Nat×Value):=parts.toList.map fun p=>(p.1,a.eval p.2)
 have hv: ∀(j k:Nat) (v:Value),vparts[j]?=some (k,v)-> ∃p,parts.toList[j]?=some p/\p.1=k/\a.eval p.2=v:=fun j k v h=>by
  simp only[vparts,dG,gC] at h;obtain⟨p,hp,he⟩:=h;simp at he;exact⟨p,hp,he.1,he.2⟩
 obtain⟨zero,hzero⟩: ∃zero:Array Value,zero=(Array.range (n*i.size)).map (zv.cells[· %zv.cells.size]!):=⟨_,rfl⟩;have hzsz:zero.size=n*i.size:=by simp[hzero]
 obtain⟨out,o1,o2,o3⟩:=aAh (fun k=>some (k*i.size,i.size)) vparts zero (fun j k v h=>by
  obtain⟨p,hpj,rfl,rfl⟩:=hv j k v h;obtain⟨h1,h2,_⟩:=hpart j p hpj;have hjn:j<n:=by
   rw[<- hl];rcases b9 j parts.toList.length with h|h
   ·exact h
   rw[fN h] at hpj;cases hpj
  refine⟨p.1*i.size,by rw[h2],?_⟩;rw[hzsz,h2,h1];have:(j+1)*i.size<=n*i.size:=gF _ hjn;rw[jV] at this;exact this)
 rw[hzsz] at o2;have hout: ∀(j:Nat) (p:Nat×Operand) (r:Nat),parts.toList[j]?=some p->r<i.size->out[j*i.size+r]?=(a.eval p.2).cells[r]?:=fun j p r hj hr=>by
  obtain⟨h1,h2,_⟩:=hpart j p hj;have hvj:vparts[j]?=some (p.1,a.eval p.2):=by simp only[vparts,dG,hj];rfl
  rcases o3 (j*i.size+r) with ⟨j',k,v,off,k1,k2,k3,k4,k5⟩|⟨k1,_⟩
  ·obtain⟨p',hp',rfl,rfl⟩:=hv j' k v k1;obtain⟨h1',h2',_⟩:=hpart j' p' hp';simp only[bX,cF] at k2;obtain⟨rfl,_⟩:=k2;have e1:=qQ (z:=i.size) (i:=p'.1) hz0 k3 aV;have e2:=qQ (z:=i.size) (i:=j) (q:=j*i.size+r) hz0 aV aV;have:j'=j:=by omega
   subst this;rw[hj] at hp';cases hp';rw[k5,h1];congr 1;omega
  exact absurd ⟨by rw[h1];omega,by rw[h1,h2];omega⟩ (k1 j p.1 _ (p.1*i.size) hvj (by rw[h2]))
 have hgr:=hsim.newData e out;refine⟨.slice (some ⟨w.heap.size,0,none⟩) n n,_,_,A,_,?_,?_,hgr.ext hsim.osim,hK⟩
 ·have hne:n*i.size≠0:=by
   have:=Nat.mul_pos hn0 hz0;omega
  have hmap:(parts.map fun p=>(p.1,a.eval p.2)).toList=vparts:=by simp[vparts]
  have h24: ¬(n*i.size>2^24):=by
   have:(2:Nat)^24=16777216:=by decide
   omega
  simp only[execOp,hop,Instr.buildSlice,Sem.run_bind,run_underlying hu,Result.andThen_ok,run_sizeOf w hi,Program.cellsOf,hi,gG,iE,h24,s7,hne,zeroValue,run_typeInfo w hi,hzv,Sem.run_pure,Sem.run_ite];simp only[hmap];rw[<- hzero,o1];simp[newRow]
 rw[hdst];refine (hsim.grow hgr).put hd (.ofRel ?_) (.ofPure rfl);have hgetp: ∀m,m<n-> ∃p,parts.toList[m]?=some p/\(bsL ρ parts.toList).getD m []=cW (un (ev ρ p.2)):=fun m hm=>by
  have h1:parts.toList[m]?=some (parts.toList[m]'(by omega)):=cH aV;exact⟨_,h1,by simp only[bsL,cA,dG,h1];rfl⟩
 refine .sl A i.size n _ w.heap.size 0 n (fun m r=>out.getD (m*i.size+r) undef) hn0 (bW _) ?_ (.inr rfl) (fun m hm=>?_) (fun m r hm hr=>?_) (fun m r hm hr=>?_) fun m r x hm hx=>?_
 ·unfold maxLen;have:n*1<=n*i.size:=Nat.mul_le_mul_left _ hz0;omega
 ·obtain⟨p,hp1,hp2⟩:=hgetp m hm;rw[hp2];exact (tF hp m p hp1).2.2.1
 ·obtain⟨p,hp1,hp2⟩:=hgetp m hm;have hlt:m*i.size+r<out.size:=by
   rw[o2];have:(m+1)*i.size<=n*i.size:=gF _ hm;rw[jV] at this;omega
  rw[gH,World.cell?_alloc_new];simp[iY hlt]
 ·obtain⟨p,hp1,hp2⟩:=hgetp m hm;obtain⟨_,h2,h3,_⟩:=hpart m p hp1;have:=hout m p r hp1 hr;rw[iY (show r<(a.eval p.2).cells.size by omega)] at this;simp only[oB,this,iE];exact h3 _ dH
 obtain⟨p,hp1,hp2⟩:=hgetp m hm;rw[hp2] at hx;obtain⟨_,h2,_,h4⟩:=hpart m p hp1;have hr:r<i.size:=by
  rw[<- (tF hp m p hp1).2.2.1];rcases b9 r (cW (un (ev ρ p.2))).length with h|h
  ·exact h
  rw[fN h] at hx;cases hx
 have:=hout m p r hp1 hr;rw[iY (show r<(a.eval p.2).cells.size by omega)] at this;simp only[oB,this,iE];exact hgr.rel hsim.osim (h4 r x _ hx (by simp[iY (show r<(a.eval p.2).cells.size by omega)]))
theorem cFt {o:Oper} {K:aN->Prop} {t:TypeId} {x y:Operand} {d:Nat} {e:TypeId} {z by_:Nat} {zs:List Value} {k k':IntKind} {n c:Int} (hop:o.op=.makeSlice t x y) (hg:o.guard=none) (hdst:o.dst=some d) (hd:d<nt)
  (ho:eJ nt o=true) (hx:ev ρ x=.v (.int k n)) (hy:ev ρ y=.v (.int k' c)) (hs:nE P t=some (e,z,by_)) (hz:eW P e=some zs) (hzl:zs.length=z) (h0:0<=n) (h1:n<=c) (h2:c<=9223372036854775807)
  (h3:c*by_<=140737488355328) (hK:K (set ρ d (.sl z n.toNat fun _=>zs.map .v))):OW P nt ops o K ρ:=by
 obtain⟨hu,i,hi,rfl,rfl⟩:=lC hs;obtain⟨i',zv,hi',hzv,rfl,hone⟩:=lQ hz;rw[hi] at hi';cases hi';refine iF hg fun I A a w hsim=>?_;have hxr:=hsim.opd x (bM ho (by simp[hop,Op.operands])) (by rw[hx];trivial);have hyr:=hsim.opd y (bM ho (by simp[hop,Op.operands])) (by rw[hy];trivial);rw[hx] at hxr;rw[hy] at hyr;have hxe:a.eval x=.int k n:=by
  have hxr:bP w I A (.v (.int k n)) (a.eval x):=hxr;generalize a.eval x=q at hxr ⊢;cases hxr;rfl
 have hye:a.eval y=.int k' c:=by
  have hyr:bP w I A (.v (.int k' c)) (a.eval y):=hyr;generalize a.eval y=q at hyr ⊢;cases hyr;rfl
 have hwn:IntKind.i64.wrap n=n:=IntWalk.i64_in n ⟨by omega,by omega⟩;have hwc:IntKind.i64.wrap c=c:=IntWalk.i64_in c ⟨by omega,by omega⟩;have hzs:zv.cells.size=i.size:=by simpa using hzl
 obtain⟨us,husd⟩: ∃us:Array Value,us=(Array.range (c.toNat*i.size)).map (zv.cells[· %zv.cells.size]!):=⟨_,rfl⟩;have hus:us.size=c.toNat*i.size:=by simp[husd]
 have hget: ∀m r,m<c.toNat->r<i.size->us[m*i.size+r]?=zv.cells[r]?:=fun m r hm hr=>by
  have hlt:m*i.size+r<c.toNat*i.size:=by
   have:(m+1)*i.size<=c.toNat*i.size:=gF _ aV;rw[jV] at this;omega
  have e1:(m*i.size+r)%zv.cells.size=r:=by rw[hzs,oE,Nat.mul_add_mod,aGy hr]
  simp only[husd,aZi,Array.getElem?_range,hlt,if_true,gG,e1];rw[iY aV,rU _ _ aV]
 have hrun:(execOp a.eval o).run P w=.ok (.value (.slice (some ⟨w.heap.size,0,none⟩) n.toNat c.toNat)) (w.alloc (.cells us e)):=by
  simp only[execOp,hop,hxe,hye,Instr.makeSlice,asInt,asIntOf,Sem.run_bind,run_underlying hu,Result.andThen_ok,Sem.run_pure,run_typeInfo w hi,hwn,hwc,run_askRoom,run_sizeOf w hi,Program.cellsOf,hi,gG,iE];have hcond:(decide (c<0)||decide ((i.bytes:Int)*c>2^48)||decide (n<0)||decide (n>c))=false:=by
   have hc48:(i.bytes:Int)*c<=140737488355328:=by rw[Int.mul_comm];exact h3
   have e48:(2:Int)^48=281474976710656:=by decide
   simp only[uL,tD,e48];omega
  rw[hcond,if_neg dH];simp only[Sem.run_bind,run_askRoom,Result.andThen_ok,run_sizeOf w hi,Program.cellsOf,hi,gG,iE];by_cases hzero:c.toNat*i.size=0
  ·have he:us= #[]:=by
    apply aZw;rw[hus,hzero]
   rw[if_pos hzero,he];simp[newRow,hzero,Array.range_zero']
  rw[if_neg hzero];simp[zeroValue,run_typeInfo w hi,hzv,newRow,husd]
 have hgr:=hsim.newData e us;refine⟨_,_,_,A,_,hrun,?_,hgr.ext hsim.osim,hK⟩;rw[hdst];refine (hsim.grow hgr).put hd (.ofRel ?_) (.ofPure rfl);rcases nL n.toNat with h00|h00
 ·rw[h00];exact .sl0 A _ _ _ _
 refine .sl A i.size n.toNat _ w.heap.size 0 c.toNat (fun m r=>us.getD (m*i.size+r) undef) h00 aV (by unfold maxLen;omega) (.inr rfl) (fun m hm=>by simp[hzs]) (fun m r hm hr=>?_) (fun m r hm hr=>?_) fun m r x hm hx=>?_
 ·have hlt:m*i.size+r<us.size:=by
   rw[hus];have:(m+1)*i.size<=c.toNat*i.size:=gF _ aV;rw[jV] at this;omega
  rw[gH,World.cell?_alloc_new];simp[iY hlt]
 ·have:=hget m r aV hr;simp only[oB,this];rw[iY aV];exact hone _ dH
 have hr:r<i.size:=by
  have:=(oJ.1 hx).1;simpa[hzs] using this
 have:=hget m r aV hr;simp only[oB,this];simp only[dG,gC,kK] at hx;obtain⟨q,hq,rfl⟩:=hx;rw[hq];exact .v _ _
theorem cAl {o:Oper} {K:aN->Prop} {t:TypeId} {d:Nat} {e:TypeId} {z by_:Nat} (hop:o.op=.buildSlice t 0 #[]) (hg:o.guard=none) (hdst:o.dst=some d) (hd:jH nt o=true)
  (hs:nE P t=some (e,z,by_)) (hK:K (set ρ d .ez)):OW P nt ops o K ρ:=by
 obtain⟨hu,i,hi,rfl,rfl⟩:=lC hs;refine iF hg fun I A a w hsim=>?_;have hgr:=oT.alloc hsim.osim (.cells #[] e);have hs1:=hsim.grow hgr;refine⟨.slice (some ⟨w.heap.size,0,none⟩) 0 0,w.alloc (.cells #[] e),I,A,_,?_,hs1.putV hd (.ez A _),hgr.ext hsim.osim,by rw[hdst];exact hK⟩;simp[execOp,hop,Instr.buildSlice,run_underlying hu,run_sizeOf w hi,Program.cellsOf,hi,Instr.fill,newRow,Array.range_zero']
theorem cBe {o:Oper} {K:aN->Prop} {t:TypeId} {d:Nat} {e:TypeId} {z by_:Nat} (hop:o.op=.buildSlice t 0 #[]) (hg:o.guard=none) (hdst:o.dst=some d) (hd:d<nt)
  (hs:nE P t=some (e,z,by_)) (hK:K (set (d4 d ρ) d (.row e z []))):OW P nt ops o K ρ:=by
 obtain⟨hu,i,hi,rfl,rfl⟩:=lC hs;refine iF hg fun I A a w hsim=>?_;obtain⟨A',k1,k2⟩:=hsim.newRow hd (e:=e) (z:=i.size) (c:=0) (xs:=[]) (us:= #[]) dH (by unfold maxLen;omega) dH (fun m x hx=>by simp at hx);refine⟨.slice (some ⟨w.heap.size,0,none⟩) 0 0,_,I,A',_,?_,by rw[hdst];exact k1,k2,hK⟩;simp[execOp,hop,Instr.buildSlice,run_underlying hu,run_sizeOf w hi,Instr.fill,newRow,Array.range_zero']
end
end Go.Sg
namespace Go.Sg
open Go.RowKit
def fE (P:Program) (t:TypeId) (i:Nat):Option (Nat×Nat):=
 match P.underlying t with
 |some (.struct fs)=>match fs[i]? with
  |some f=>match P.info? f.type with
   |some x=>some (f.offset,x.size)
   |none=>none
  |none=>none
 |some (.array _ e)=>match P.info? e with
  |some x=>some (i*x.size,x.size)
  |none=>none
 |_=>none
def lJ (P:Program) (t:TypeId):Bool:=
 match P.underlying t with
 |some (.struct fs)=>fs.toList.all fun f=>(P.info? f.type).isSome
 |some (.array _ e)=>(P.info? e).isSome
 |_=>false
def qK (P:Program) (ρ:aN) (t:TypeId):List (Nat×Operand)->List DV->Prop×List DV
 | [],cs=>(True,cs)
 |p::l,cs=>match fE P t p.1 with
  |some (off,s)=>(gd (ev ρ p.2)/\(cW (un (ev ρ p.2))).length=s/\0<s/\off+s<=cs.length/\(qK P ρ t l (spl off (cW (un (ev ρ p.2))) cs)).1,(qK P ρ t l (spl off (cW (un (ev ρ p.2))) cs)).2)
  |none=>(False,cs)
theorem bJq (P:Program) (ρ:aN) (t:TypeId) (cs:List DV):qK P ρ t [] cs=(True,cs):=rfl
theorem bDt (P:Program) (ρ:aN) (t:TypeId) (i:Nat) (x:Operand) (l:List (Nat×Operand)) (cs:List DV) {off s:Nat} (h:fE P t i=some (off,s)):qK P ρ t ((i,x)::l) cs=
  (gd (ev ρ x)/\(cW (un (ev ρ x))).length=s/\0<s/\off+s<=cs.length/\(qK P ρ t l (spl off (cW (un (ev ρ x))) cs)).1,(qK P ρ t l (spl off (cW (un (ev ρ x))) cs)).2):=by
 conv=>lhs;unfold qK
 simp only[h]
def uS (P:Program) (ρ:aN) (t:TypeId) (parts:List (Nat×Operand)):Prop×DV:=
 match eW P t with
 |some zs=>(lJ P t=true/\(qK P ρ t parts (zs.map .v)).1,.agg (qK P ρ t parts (zs.map .v)).2)
 |none=>(False,.any)
section
variable {P:Program} {nt:Nat} {ρ:aN} {ops:Array Oper}
def CR (w:World) (I:Nat->Prop) (A:dD) (cs:List DV) (us:Array Value):Prop:=
 cs.length=us.size/\(∀u∈us.toList,u.oneCell'=true)/\ ∀(j:Nat) (d:DV) (u:Value),cs[j]?=some d->us[j]?=some u->bP w I A d u
theorem aMq {w:World} {I:Nat->Prop} {A:dD} {a:Act} (hs:dB nt w I A ρ a) {t:TypeId} (place:Nat->Option (Nat×Nat)) (hp: ∀i p,fE P t i=some p->place i=some p): ∀(parts:List (Nat×Operand)) (cs:List DV) (us:Array Value),
  (∀p∈parts,s9 nt p.2=true)->CR w I A cs us->(qK P ρ t parts cs).1-> ∃out,Instr.fill place us (parts.map fun p=>(p.1,a.eval p.2))=some out/\CR w I A (qK P ρ t parts cs).2 out
 | [],cs,us,_,hc,_=>⟨us,rfl,hc⟩
 |(i,x)::l,cs,us,ho,hc,h=>by
  cases hpl:fE P t i with
  |none=>unfold qK at h;simp only[hpl] at h
  |some q=>
   obtain⟨off,s⟩:=q;rw[bDt P ρ t i x l cs hpl] at h ⊢;obtain⟨h1,h2,h3,h4,h5⟩:=h;have hx:=hs.opd x (ho (i,x) dH) h1;obtain⟨k1,k2,k3⟩:=tJ hx (.inl aV);have hsz:(a.eval x).cells.size=s:=by omega
   obtain⟨c1,c2,c3⟩:=hc;obtain⟨f1,f2⟩:=aQd off (a.eval x).cells.toList us 0 (by simp;omega);simp only[iD,xT] at f1 f2;have hzip:((a.eval x).cells.zipIdx.foldl (fun cs (p:Value×Nat)=>cs.setIfInBounds (off+p.2) p.1) us)=((a.eval x).cells.toList.zipIdx 0).foldl (fun cs (p:Value×Nat)=>cs.setIfInBounds (off+p.2) p.1) us:=by
    rw[<- Array.foldl_toList,Array.toList_zipIdx]
   generalize hnew:((a.eval x).cells.toList.zipIdx 0).foldl (fun cs (p:Value×Nat)=>cs.setIfInBounds (off+p.2) p.1) us=us' at*;have hc':CR w I A (spl off (cW (un (ev ρ x))) cs) us':=by
    have hle:off+(cW (un (ev ρ x))).length<=cs.length:=by omega
    rw[aCk hle];refine⟨by simp only[fP,iO,aMa];omega,fun u hu=>?_,fun j d u hd hu=>?_⟩
    ·obtain⟨q,hq⟩:=aEa hu;rw[kK,f2] at hq;split at hq
     ·exact k2 u (pP hq)
     exact c2 u (by simpa using tQ hq)
    rw[f2] at hu;rw[tH,tH] at hd;simp only[fP,iO,qP (show off<=cs.length by omega)] at hd;by_cases e1:j<off
    ·rw[if_pos aV,if_pos e1,oR,if_pos e1] at hd;rw[if_neg aV] at hu;exact c3 j d u hd hu
    by_cases e2:j<off+s
    ·rw[if_pos aV,if_neg e1] at hd;rw[if_pos aV] at hu;exact k3 _ d u hd (by simpa using hu)
    rw[if_neg aV,sC] at hd;rw[if_neg aV] at hu;rw[show off+(cW (un (ev ρ x))).length+(j-(off+(cW (un (ev ρ x))).length))=j by omega] at hd;exact c3 j d u hd hu
   obtain⟨out,o1,o2⟩:=aMq hs place hp l _ us' (fun p hp'=>ho p (by simp[hp'])) hc' h5;refine⟨out,?_,o2⟩;rw[kH];unfold Instr.fill;rw[hp i _ hpl];simp only;rw[if_neg (by simp[hsz];omega),hzip];exact o1
theorem aMi {α β:Type} {w:World} (f:α->Sem β): ∀(l:List α) (vs:List β),l.length=vs.length->(∀(j:Nat) (x:α) (v:β),l[j]?=some x->vs[j]?=some v->(f x).run P w=.ok v w)->
  (l.mapM f).run P w=.ok vs w
 | [],[],_,_=>rfl
 |x::l,v::vs,hl,h=>by
  have h0:=h 0 x v dH dH;have ih:=aMi f l vs (by simpa using hl) fun j y u hy hu=>h (j+1) y u (by simpa using hy) (by simpa using hu);simp[aXi,h0,ih]
 | [],_::_,hl,_=>by simp at hl
 |_::_,[],hl,_=>by simp at hl
theorem bKm {w:World} {I:Nat->Prop} {A:dD} {a:Act} (hs:dB nt w I A ρ a) {t:TypeId} {parts:Array (Nat×Operand)} (ho: ∀p∈parts.toList,s9 nt p.2=true) (h:(uS P ρ t parts.toList).1):
  ∃x,(Instr.build t (parts.map fun (i,x)=>(i,a.eval x))).run P w=.ok x w/\bP w I A (uS P ρ t parts.toList).2 x:=by
 unfold uS at h ⊢;cases hz:eW P t with
 |none=>rw[hz] at h;exact h.elim
 |some zs=>
  rw[hz] at h;obtain⟨h1,h2⟩:=h;simp only;obtain⟨i,zv,hi,hzv,hzc,hone⟩:=lQ hz;have h1':=h1;unfold lJ at h1';split at h1'
  ·rename_i fs hu;rw[dI] at h1'
   let places:Array (Nat×Nat):=fs.map fun f=>(f.offset,P.cellsOf f.type)
   have hpl: ∀k p,fE P t k=some p->places[k]?=some p:=fun k p hk=>by
    unfold fE at hk;rw[hu] at hk;simp only at hk;split at hk<;>try cases hk
    rename_i f hf;split at hk<;>try cases hk
    rename_i x hx;simp only[places,aZi,hf,gG,Program.cellsOf,hx,iE]
   have hrunp:(fs.mapM fun f=>(do pure (f.offset,<- sizeOf f.type):Sem (Nat×Nat))).run P w=.ok places w:=by
    have:=aMi (P:=P) (w:=w) (fun f:Field=>(do pure (f.offset,<- sizeOf f.type):Sem (Nat×Nat))) fs.toList places.toList (by simp[places]) (fun j f v hf hv=>by
     have hf':f∈fs.toList:=pP hf;obtain⟨x,hx⟩:=nQ.1 (h1' f hf');have:v=(f.offset,P.cellsOf f.type):=by
      simp only[places,Array.toList_map,dG,hf,gG,bX] at hv;exact hv.symm
     subst this;simp[run_sizeOf w hx,Program.cellsOf,hx])
    have e:fs=fs.toList.toArray:=by simp
    rw[e,aWg,Sem.run_map,this];show Result.ok places.toList.toArray w=Result.ok places w;rw[Array.toArray_toList]
   have hc0:CR w I A (zs.map .v) zv.cells:=⟨by rw[cJ,<- hzc];simp,by rw[hzc];exact hone,fun j d u hd hu=>by
    rw[dG,gC] at hd;obtain⟨y,hy,rfl⟩:=hd;rw[<- hzc,kK,hu] at hy;cases hy;exact .v A _⟩
   obtain⟨out,o1,o2⟩:=aMq (P:=P) hs (fun k=>places[k]?) hpl parts.toList _ _ ho hc0 h2;refine⟨.agg out,?_,?_⟩
   ·have hm:(parts.map fun (i,x)=>(i,a.eval x)).toList=parts.toList.map fun p=>(p.1,a.eval p.2):=by simp
    have e2:(fun f:Field=>(do pure (f.offset,<- sizeOf f.type):Sem (Nat×Nat)))=fun f=>Functor.map (Prod.mk f.offset) (sizeOf f.type):=by funext f;simp
    rw[e2] at hrunp;unfold Instr.build;simp[zeroValue,run_typeInfo w hi,hzv,run_underlying hu,hrunp,hm,o1]
   exact .agg A _ out o2.1 o2.2.1 o2.2.2
  ·rename_i n e hu;obtain⟨x,hx⟩:=nQ.1 h1';have hpl: ∀k p,fE P t k=some p->(fun k=>some (k*x.size,x.size)) k=some p:=fun k p hk=>by
    unfold fE at hk;rw[hu] at hk;simp only[hx] at hk;exact hk
   have hc0:CR w I A (zs.map .v) zv.cells:=⟨by rw[cJ,<- hzc];simp,by rw[hzc];exact hone,fun j d u hd hu=>by
    rw[dG,gC] at hd;obtain⟨y,hy,rfl⟩:=hd;rw[<- hzc,kK,hu] at hy;cases hy;exact .v A _⟩
   obtain⟨out,o1,o2⟩:=aMq (P:=P) hs (fun k=>some (k*x.size,x.size)) hpl parts.toList _ _ ho hc0 h2;refine⟨.agg out,?_,?_⟩
   ·have hm:(parts.map fun (i,x)=>(i,a.eval x)).toList=parts.toList.map fun p=>(p.1,a.eval p.2):=by simp
    unfold Instr.build;simp[zeroValue,run_typeInfo w hi,hzv,run_underlying hu,run_sizeOf w hx,Program.cellsOf,hx,hm,o1]
   exact .agg A _ out o2.1 o2.2.1 o2.2.2
  cases h1'
theorem aYu {o:Oper} {K:aN->Prop} {t:TypeId} {parts:Array (Nat×Operand)} (hop:o.op=.build t parts) (hg:o.guard=none) (ho:eJ nt o=true) (hd:jH nt o=true) (h:(uS P ρ t parts.toList).1)
  (hK:K (cO ρ o.dst (uS P ρ t parts.toList).2)):OW P nt ops o K ρ:=
 iF hg fun I A a w hs=>by
  obtain⟨x,h1,h2⟩:=bKm (P:=P) hs (fun p hp=>bM ho (x:=p.2) (by
   simp only[hop,Op.operands];simp;exact⟨p.1,by simpa using hp⟩)) h
  exact⟨x,w,I,A,_,by simp[execOp,hop,h1],hs.putV hd h2,f8.refl _ _ _,hK⟩
end
end Go.Sg
namespace Go.Sg
open Go.RowKit
section
variable {P:Program} {nt:Nat} {ρ:aN} {ops:Array Oper}
def qD (ρ:aN):DV->List (List DV)
 | .sl _ m f=>(List.range m).map f
 | .own s m=>match ρ s with
  | .row _ _ xs=>xs.take m
  |_=>[]
 |_=>[]
def aDr (ρ:aN) (z:Nat):DV->Prop
 | .sl z' _ _=>z'=z
 | .own s m=> ∃e xs,ρ s=.row e z xs/\m<=xs.length
 | .v (.slice none 0 _)=>True
 | .ez=>True
 |_=>False
theorem aSb {w:World} {I:Nat->Prop} {A:dD} {a:Act} (hs:dB nt w I A ρ a) {z:Nat} {d:DV} {u:Value} (h:bP w I A d u) (ho:aDr ρ z d):
  ∃b m c,u=.slice b m c/\(qD ρ d).length=m/\((b=none/\m=0)\/ ∃(ad:Addr) (news:List Value),b=some ad/\news.length=m*z/\(∀j v,news[j]?=some v->w.cell? (ad.add j)=some v)/\(∀v∈news,v.oneCell'=true)/\
   ∀(i:Nat) (x:List DV),(qD ρ d)[i]?=some x->x.length=z/\ ∀(j:Nat) (e:DV) (v:Value),x[j]?=some e->news[i*z+j]?=some v->bP w I fO e v):=by
 have mk: ∀(bk o m:Nat) (us:Nat->Nat->Value) (src:List (List DV)),src.length=m->
   (∀i j,i<m->j<z->w.cell? ⟨bk,o+(i*z+j),none⟩=some (us i j))->(∀i j,i<m->j<z->(us i j).oneCell'=true)->
   (∀(i:Nat) (x:List DV),src[i]?=some x->x.length=z/\ ∀(j:Nat) (e:DV),x[j]?=some e->bP w I fO e (us i j))->
   ∃(news:List Value),news.length=m*z/\(∀j v,news[j]?=some v->w.cell? ((⟨bk,o,none⟩:Addr).add j)=some v)/\(∀v∈news,v.oneCell'=true)/\
    ∀(i:Nat) (x:List DV),src[i]?=some x->x.length=z/\ ∀(j:Nat) (e:DV) (v:Value),x[j]?=some e->news[i*z+j]?=some v->bP w I fO e v:=by
  intro bk o m us src hl hcell hone hrel;have hdm: ∀j,j<m*z->j/z<m/\j%z<z:=fun j hj=>by
   have hz:0<z:=by
    rcases nL z with h|h
    ·subst h;simp at hj
    exact h
   exact⟨Nat.div_lt_of_lt_mul (by rwa [oE] at hj),Nat.mod_lt _ hz⟩
  refine⟨(List.range (m*z)).map fun j=>us (j/z) (j%z),by simp,fun j v hj=>?_,fun v hv=>?_,fun i x hx=>⟨(hrel i x hx).1,fun j e v he hv=>?_⟩⟩
  ·simp only[dG,gC] at hj;obtain⟨q,hq,rfl⟩:=hj;have hlt:j<m*z:=by
    rcases b9 j (m*z) with h|h
    ·exact h
    rw[fN (by simpa using h)] at hq;cases hq
   rw[p9 hlt] at hq;cases hq;obtain⟨h1,h2⟩:=hdm j hlt;rw[Addr.add_lit,<- hcell _ _ h1 h2];congr 3;rw[oE];exact (Nat.div_add_mod j z).symm
  ·simp only[dZ,gU] at hv;obtain⟨j,hj,rfl⟩:=hv;exact hone _ _ (hdm j hj).1 (hdm j hj).2
  simp only[dG,gC] at hv;obtain⟨q,hq,rfl⟩:=hv;have hi:i<m:=by
   rw[<- hl];rcases b9 i src.length with h|h
   ·exact h
   rw[fN h] at hx;cases hx
  have hj:j<z:=by
   rw[<- (hrel i x hx).1];rcases b9 j x.length with h|h
   ·exact h
   rw[fN h] at he;cases he
  have hlt:i*z+j<m*z:=by
   have:(i+1)*z<=m*z:=gF _ hi;rw[jV] at this;omega
  rw[p9 hlt] at hq;cases hq;have e1:=qQ (z:=z) (i:=i) (q:=i*z+j) aV aV aV;have e2:(i*z+j)%z=j:=by rw[oE,Nat.mul_add_mod,aGy hj]
  rw[e1,e2];exact (hrel i x hx).2 j e he
 cases h with
 |sl0 _ z' f b c=>
  refine⟨b,0,c,rfl,rfl,?_⟩;cases b with
  |none=>exact .inl ⟨rfl,rfl⟩
  |some ad=>exact .inr ⟨ad,[],rfl,by simp,by simp,by simp,fun i x hx=>by simp[qD] at hx⟩
 |sl _ z' n f b o c us hn hc hm hI hzz hcell hone hrel=>
  obtain rfl:z'=z:=ho;refine⟨_,n,c,rfl,by simp[qD],.inr ?_⟩;have hget: ∀(i:Nat) (x:List DV),((List.range n).map f)[i]?=some x->i<n/\x=f i:=fun i x hx=>by
   simp only[dG,gC] at hx;obtain⟨q,hq,rfl⟩:=hx;have hlt:i<n:=by
    rcases b9 i n with h|h
    ·exact h
    rw[fN (by simpa using h)] at hq;cases hq
   rw[p9 hlt] at hq;cases hq;exact⟨hlt,rfl⟩
  obtain⟨news,h1,h2,h3,h4⟩:=mk b o n us ((List.range n).map f) dH hcell hone fun i x hx=>by
   obtain⟨hi,rfl⟩:=hget i x hx;exact⟨hzz i hi,fun j e he=>hrel i j e hi he⟩
  exact⟨_,news,rfl,h1,h2,h3,h4⟩
 |ez _ b=>
  refine⟨b,0,0,rfl,rfl,?_⟩;cases b with
  |none=>exact .inl ⟨rfl,rfl⟩
  |some ad=>exact .inr ⟨ad,[],rfl,by simp,by simp,by simp,by simp[qD]⟩
 |own _ s n B c b hA hb=>
  obtain⟨e',xs,hρ,hle⟩:=ho;have hown:=hs.osim.own s;rw[hρ] at hown;obtain⟨B',c',hA',hrow⟩:=hown;rw[hA] at hA';simp only[bX,cF] at hA';obtain⟨rfl,rfl⟩:=hA';simp only[qD,hρ];cases B with
  |none=>
   obtain⟨rfl,_⟩:=hrow;simp at hle;subst hle;refine⟨b,0,c,rfl,by simp,?_⟩;cases b with
   |none=>exact .inl ⟨rfl,rfl⟩
   |some ad=>exact .inr ⟨ad,[],rfl,by simp,by simp,by simp,by simp⟩
  |some g=>
   obtain⟨us,q1,q2,q3,q4,q5⟩:=hrow;have hx: ∀i,i<n->xs[i]?=some (xs.getD i []):=fun i hi=>by rw[cA,cH aV];rfl
   have hin: ∀i j,i<n->j<z->i*z+j<us.size:=fun i j hi hj=>by
    rw[q2];have:(i+1)*z<=c*z:=gF _ aV;rw[jV] at this;omega
   have hus: ∀i j,i<n->j<z->us[i*z+j]?=some (us.getD (i*z+j) undef):=fun i j hi hj=>by simp[iY (hin i j hi hj)]
   obtain⟨news,h1,h2,h3,h4⟩:=mk g 0 n (fun i j=>us.getD (i*z+j) undef) (xs.take n) (by simp;omega)
    (fun i j hi hj=>by unfold World.cell?;simp only[q1,gH];simpa using hus i j hi hj)
    (fun i j hi hj=>by
     obtain⟨k1,k2⟩:=q5 i _ (hx i hi);exact (k2 j _ _ (cH aV) (hus i j hi hj)).1)
    (fun i x hx'=>by
     rw[oR] at hx';split at hx'<;>try cases hx'
     rename_i hi;obtain⟨k1,k2⟩:=q5 i x hx';refine⟨k1,fun j e he=>?_⟩;have hj:j<z:=by
      rw[<- k1];rcases b9 j x.length with h|h
      ·exact h
      rw[fN h] at he;cases he
     exact (k2 j e _ he (hus i j hi hj)).2)
   exact⟨_,n,c,rfl,by simp;omega,.inr ⟨_,news,iX hb,h1,h2,h3,h4⟩⟩
 |v _ x=>
  cases u<;>try exact ho.elim
  rename_i b n c;cases b<;>cases n<;>try exact ho.elim
  exact⟨none,0,c,rfl,rfl,.inl ⟨rfl,rfl⟩⟩
 |_=>exact ho.elim
theorem dB.steady {w w':World} {I:Nat->Prop} {A:dD} {a:Act} (hs:dB nt w I A ρ a) (h1: ∀g,I g->w'.heap[g]?=w.heap[g]?) (h2: ∀s g c,A s=some (some g,c)->w'.heap[g]?=w.heap[g]?)
  (h3:w.heap.size<=w'.heap.size):dB nt w' I A ρ a:=by
 have hrel: ∀B d x,bP w I B d x->bP w' I B d x:=fun B d x hr=>hr.mono fun g hg=>⟨hg,fun o=>eD (h1 g hg) o⟩;refine⟨⟨fun s=>(hs.osim.own s).keep (fun g c hg=>h2 s g c hg) hrel,hs.osim.inj,fun s g c hA=>⟨eE (hs.osim.sep s g c hA).1 h3,(hs.osim.sep s g c hA).2⟩,hs.osim.imm.step (fun g hg=>eE (hs.osim.imm g hg) h3) fun g hg=>⟨hg,h1 g hg⟩⟩,hs.size,hs.bound,fun i hi=>?_,hs.out⟩;have hsl:=hs.slot i hi;generalize a.tmps.getD i undef=x at*;cases hd:ρ i with
 |bx cs=>rw[hd] at hsl;exact hsl
 |row e z xs=>rw[hd] at hsl;exact hsl
 |cond g y=>rw[hd] at hsl;exact⟨fun hg=>hrel _ _ _ (hsl.1 hg),hsl.2⟩
 |any=>exact .any A x
 |v y=>rw[hd] at hsl;exact hrel _ _ _ hsl
 |sl z n f=>rw[hd] at hsl;exact hrel _ _ _ hsl
 |agg cs=>rw[hd] at hsl;exact hrel _ _ _ hsl
 |tup cs=>rw[hd] at hsl;exact hrel _ _ _ hsl
 |dp cs=>rw[hd] at hsl;exact hrel _ _ _ hsl
 |bp t o=>rw[hd] at hsl;exact hrel _ _ _ hsl
 |own t n=>rw[hd] at hsl;exact hrel _ _ _ hsl
 |rp t z i o=>rw[hd] at hsl;exact hrel _ _ _ hsl
 |fn f b c=>rw[hd] at hsl;exact hrel _ _ _ hsl
 |iface t y=>rw[hd] at hsl;exact hrel _ _ _ hsl
 |mr t=>rw[hd] at hsl;exact hrel _ _ _ hsl
 |ez=>rw[hd] at hsl;exact hrel _ _ _ hsl
 |mo es=>rw[hd] at hsl;exact hsl
theorem aCt {w:World} (base:Nat) (t ty e:TypeId) (i:TypeInfo) (size:Nat) (ht:P.underlying t=some (.slice e)) (hi:P.info? e=some i)
  (v:Value) (n:Nat) (xs:List Value) (hown:w.ownsRow base e size v n xs) (c:Nat):(Builtin.append_ #[t,t] ty #[v,.slice none 0 c]).run P w=.ok v w:=by
 rcases hown.2 with ⟨rfl,rfl⟩|⟨g,cap,cur,rfl,_,_,hnc,_⟩
 ·simp[Builtin.append_,run_underlying ht,sizeOf,typeInfo,hi,Builtin.lenOf,Builtin.firstCells]
 simp[Builtin.append_,run_underlying ht,sizeOf,typeInfo,hi,Builtin.lenOf,Builtin.firstCells,hnc,storeCells]
theorem zF {w:World} {I:Nat->Prop} {A A1:dD} {a:Act} {ρ1:aN} (hs1:dB nt w I A1 ρ1 a) {d:Nat} (hd:d<nt) {t ty e:TypeId} {z by_:Nat} {zs:List Value} (hsl:nE P t=some (e,z,by_)) (hz:eW P e=some zs) (hz0:0<z) (hzl:zs.length=z)
  {v:Value} {n:Nat} {xs:List (List DV)} {xsV:List Value} (hown:w.ownsRow 0 e z v n xsV) (hxl:xs.length=n)
  (hxr: ∀(i:Nat) (x:List DV),xs[i]?=some x->x.length=z/\ ∀(j:Nat) (d:DV) (u:Value),x[j]?=some d->xsV[i*z+j]?=some u->u.oneCell'=true/\bP w I fO d u)
  {src:List (List DV)} {b:Option Addr} {m c:Nat} (hsrcl:src.length=m)
  (hsrc:(b=none/\m=0)\/ ∃(ad:Addr) (news:List Value),b=some ad/\news.length=m*z/\(∀j v,news[j]?=some v->w.cell? (ad.add j)=some v)/\(∀v∈news,v.oneCell'=true)/\
   ∀(i:Nat) (x:List DV),src[i]?=some x->x.length=z/\ ∀(j:Nat) (e:DV) (v:Value),x[j]?=some e->news[i*z+j]?=some v->bP w I fO e v)
  (hb1:n+m<=9223372036854775807) (hb2:(n+m)*by_<=140737488355328)
  (hfree: ∀g,v.ownBlock=some g->g<w.heap.size/\ ¬I g/\ ∀s c,A1 s≠some (some g,c)) (hA1: ∀s y,A1 s=some y->A s=some y)
  (hAv: ∀g,v.ownBlock=some g-> ∃s c,s<100000/\A s=some (some g,c)) (hout: ∀s,100000<=s->A1 s=A s):
  ∃x w' A',(Builtin.append_ #[t,t] ty #[v,.slice b m c]).run P w=.ok x w'/\dB nt w' I A' (set (d4 d ρ1) d (.row e z (xs++src))) (a.put (some d) x)/\f8 w I A w' I A':=by
 obtain⟨hu,i,hi,rfl,rfl⟩:=lC hsl;obtain⟨i',zv,hi',hzv,rfl,_⟩:=lQ hz;rw[hi] at hi';cases hi';have hbnd:=hs1.bound
 obtain⟨x,w',news,hrun,hown',hgr,hat,hnr⟩: ∃x w' news,(Builtin.append_ #[t,t] ty #[v,.slice b m c]).run P w=.ok x w'/\w'.ownsRow 0 e i.size x (n+m) (xsV++news)/\w.grownBy w' v.ownBlock/\
   (x.ownBlock=v.ownBlock\/x.ownBlock=some w.heap.size)/\(∀(k:Nat) (y:List DV),src[k]?=some y->y.length=i.size/\ ∀(j:Nat) (e:DV) (u:Value),y[j]?=some e->news[k*i.size+j]?=some u->u.oneCell'=true/\bP w I fO e u):=by
  rcases hsrc with ⟨rfl,rfl⟩|⟨ad,news,rfl,h1,h2,h3,h4⟩
  ·obtain rfl:src=[]:=nN hsrcl;exact⟨v,w,[],aCt 0 t ty e i i.size hu hi v n xsV hown c,by simpa using hown,⟨rfl,rfl,rfl,bW _,fun _ _ _=>rfl⟩,.inl rfl,by simp⟩
  obtain⟨x,w',k1,k2,k3,_,k5⟩:=run_append_own_at (P:=P) w 0 t ty e i zv i.size i.bytes hu hi hzv rfl rfl (by simpa using hzl) hz0 v n xsV hown ad m c news h1 h2 h3 (by unfold maxLen;omega) hb2 (nJ _);exact⟨x,w',news,k1,k2,k3,k5,fun k y hy=>⟨(h4 k y hy).1,fun j e u he hu=>⟨h3 u (pP hu),(h4 k y hy).2 j e u he hu⟩⟩⟩
 have hblk: ∀g,g<w.heap.size->some g≠v.ownBlock->w'.heap[g]?=w.heap[g]?:=hgr.block
 have hs2:dB nt w' I A1 ρ1 a:=hs1.steady (fun g hg=>hblk g (hs1.osim.imm g hg) fun e=>(hfree g e.symm).2.1 hg)
  (fun s g c hA=>hblk g (hs1.osim.sep s g c hA).1 fun e=>(hfree g e.symm).2.2 s c hA) hgr.size
 have hrel: ∀d y,bP w I fO d y->bP w' I fO d y:=fun d y hr=>hr.mono fun g hg=>⟨hg,fun o=>eD (hblk g (hs1.osim.imm g hg) fun e=>(hfree g e.symm).2.1 hg) o⟩;have hlen:xsV.length=n*i.size:=hown.1
 have helem: ∀(cur:List Value),cur.take ((n+m)*i.size)=xsV++news-> ∀(k:Nat) (y:List DV),(xs++src)[k]?=some y->y.length=i.size/\ ∀(j:Nat) (e:DV) (u:Value),y[j]?=some e->cur[k*i.size+j]?=some u->
   u.oneCell'=true/\bP w' I fO e u:=fun cur hcur k y hy=>by
  have hk:k<n+m:=by
   rw[<- hxl,<- hsrcl,<- fP];rcases b9 k (xs++src).length with h|h
   ·exact h
   rw[fN h] at hy;cases hy
  have hcg: ∀j,j<i.size->cur[k*i.size+j]?=(xsV++news)[k*i.size+j]?:=fun j hj=>by
   rw[<- hcur,oR,if_pos];have:(k+1)*i.size<=(n+m)*i.size:=gF _ hk;rw[jV] at this;omega
  rw[tH,hxl] at hy;split at hy
  ·rename_i hkn;obtain⟨k1,k2⟩:=hxr k y hy;refine⟨k1,fun j e u he hu=>?_⟩;have hj:j<i.size:=by
    rw[<- k1];rcases b9 j y.length with h|h
    ·exact h
    rw[fN h] at he;cases he
   rw[hcg j hj,tH,if_pos (by
    rw[hlen];have:(k+1)*i.size<=n*i.size:=gF _ hkn;rw[jV] at this;omega)] at hu
   exact⟨(k2 j e u he hu).1,hrel _ _ (k2 j e u he hu).2⟩
  rename_i hkn;obtain⟨k1,k2⟩:=hnr (k-n) y hy;refine⟨k1,fun j e u he hu=>?_⟩;have hj:j<i.size:=by
   rw[<- k1];rcases b9 j y.length with h|h
   ·exact h
   rw[fN h] at he;cases he
  have hge:n*i.size<=k*i.size:=gF _ aV;rw[hcg j hj,tH,if_neg (by rw[hlen];omega),hlen] at hu;have e1:k*i.size+j-n*i.size=(k-n)*i.size+j:=by rw[Nat.sub_mul];omega
  rw[e1] at hu;exact⟨(k2 j e u he hu).1,hrel _ _ (k2 j e u he hu).2⟩
 have hext: ∀(B:Option Nat) (cap:Nat),B=x.ownBlock->f8 w I A w' I (kC A1 d (some (B,cap))):=fun B cap hB=>by
  have hin: ∀g,B=some g->g<w.heap.size->v.ownBlock=some g:=fun g hg hlt=>by
   subst hg;rcases hat with h|h
   ·rw[<- h,<- hB]
   rw[<- hB] at h;cases h;omega
  refine⟨hgr.os,⟨hgr.tape,g9 _ hrun⟩,hgr.output,hgr.size,fun _ h=>h,fun g hg hA=>⟨hblk g hg fun e=>?_,fun h=>h,fun s c' hc=>?_⟩,fun s g c' hc hg hl=>?_,fun s hs'=>?_⟩
  ·obtain⟨s,c',_,hAs⟩:=hAv g e.symm;exact hA s c' hAs
  ·rcases cZ hc with ⟨_,h⟩|⟨_,h⟩
   ·simp only[bX,cF] at h;obtain⟨s',c2,_,hAs⟩:=hAv g (hin g h.1 hg);exact hA s' c2 hAs
   exact hA s c' (hA1 s _ h)
  ·rcases cZ hc with ⟨_,h⟩|⟨_,h⟩
   ·simp only[bX,cF] at h;obtain⟨s',c2,hs',hAs⟩:=hAv g (hin g h.1 hg);exact⟨s',c2,hs',hAs⟩
   exact⟨s,c',hl,hA1 s _ h⟩
  rw[fF _ _ aV,hout s hs']
 have hxlen:(xs++src).length=n+m:=by rw[fP,hxl,hsrcl]
 rcases hown'.2 with ⟨rfl,h0⟩|⟨g,cap,cur,rfl,_,hg,hnc,hcm,hcs,htake⟩
 ·have hx0:xs=[]:=nN aV;have hs0:src=[]:=nN aV;refine⟨.slice none 0 0,w',kC A1 d (some (none,0)),hrun,?_,hext none 0 rfl⟩;refine hs2.own hd (fun g hg=>by cases hg) ⟨none,0,dJ _ _ _,none,lY _,by simp[hx0,hs0]⟩ ⟨none,0,dJ _ _ _,?_⟩;exact⟨by simp[hx0,hs0],rfl⟩
 refine⟨.slice (some ⟨g,0,none⟩) (n+m) cap,w',kC A1 d (some (some g,cap)),hrun,?_,hext (some g) cap rfl⟩;refine hs2.own hd (fun g' hg'=>?_) ⟨some g,cap,dJ _ _ _,_,sY _,by rw[hxlen]⟩ ⟨some g,cap,dJ _ _ _,cur,hg,hcs,hcm,by rw[hxlen];exact hnc,fun k y hy=>?_⟩
 ·cases hg';have hlt:g<w'.heap.size:=by
   rcases b9 g w'.heap.size with h|h
   ·exact h
   rw[aJt h] at hg;cases hg
  rcases hat with h|h
  ·have h:some g=v.ownBlock:=h;obtain⟨q1,q2,q3⟩:=hfree g h.symm;exact⟨hlt,q2,fun s c' _=>q3 s c'⟩
  have h:some g=some w.heap.size:=h;cases h;exact⟨hlt,fun hI=>by have:=hs1.osim.imm _ hI;omega,fun s c' _ hc=>by have:=(hs1.osim.sep s _ c' hc).1;omega⟩
 obtain⟨k1,k2⟩:=helem cur.toList htake k y hy;exact⟨k1,fun j e u he hu=>k2 j e u he (by rw[kK];exact hu)⟩
theorem aJq {w:World} {t ty e:TypeId} {i:TypeInfo} (ht:P.underlying t=some (.slice e)) (hi:P.info? e=some i) (b0 b:Option Addr) (m c:Nat) (hm:0<m) (hb:m*i.bytes<=140737488355328) (hb1:m<=9223372036854775807):
  (Builtin.append_ #[t,t] ty #[.slice b0 0 0,.slice b m c]).run P w=(Builtin.append_ #[t,t] ty #[.slice none 0 0,.slice b m c]).run P w:=by
 have h1: ¬m=0:=by omega
 have h4: ¬(9223372036854775807:Int)<(m:Int):=by omega
 have h2:Builtin.nextslicecap m 0=m:=by unfold Builtin.nextslicecap;rw[if_pos aV]
 have h3: ¬281474976710656<m*i.bytes:=by omega
 cases b0 with
 |none=>rfl
 |some a=>simp[Builtin.append_,run_underlying ht,sizeOf,run_typeInfo w hi,hi,Builtin.lenOf,Builtin.firstCells,h1,h2,h3,h4,loadCells,loadCellsFrom]
theorem aDy {w:World} {I:Nat->Prop} {A A1:dD} {a:Act} {ρ1:aN} (hs1:dB nt w I A1 ρ1 a) {d:Nat} (hd:d<nt) {t ty e:TypeId} {z by_:Nat} {zs:List Value} (hsl:nE P t=some (e,z,by_)) (hz:eW P e=some zs) (hz0:0<z) (hzl:zs.length=z)
  (b0:Option Addr) {src:List (List DV)} {b:Option Addr} {m c:Nat} (hsrcl:src.length=m)
  (hsrc:(b=none/\m=0)\/ ∃(ad:Addr) (news:List Value),b=some ad/\news.length=m*z/\(∀j v,news[j]?=some v->w.cell? (ad.add j)=some v)/\(∀v∈news,v.oneCell'=true)/\
   ∀(i:Nat) (x:List DV),src[i]?=some x->x.length=z/\ ∀(j:Nat) (e:DV) (v:Value),x[j]?=some e->news[i*z+j]?=some v->bP w I fO e v)
  (hb1:m<=9223372036854775807) (hb2:m*by_<=140737488355328) (hA1: ∀s y,A1 s=some y->A s=some y) (hout: ∀s,100000<=s->A1 s=A s):
  ∃x w' A',(Builtin.append_ #[t,t] ty #[.slice b0 0 0,.slice b m c]).run P w=.ok x w'/\dB nt w' I A' (set (d4 d ρ1) d (.row e z src)) (a.put (some d) x)/\f8 w I A w' I A':=by
 obtain⟨hu,i,hi,he1,he2⟩:=lC hsl;have hbnd:=hs1.bound;rcases nL m with h0|h0
 ·subst h0;obtain rfl:src=[]:=nN hsrcl;refine⟨.slice b0 0 0,w,kC A1 d (some (none,0)),?_,?_,?_⟩
  ·rcases hsrc with ⟨rfl,_⟩|⟨ad,news,rfl,_⟩<;>cases b0<;>simp[Builtin.append_,run_underlying hu,sizeOf,run_typeInfo w hi,hi,Builtin.lenOf,Builtin.firstCells,loadCells,loadCellsFrom,storeCells]
  ·exact hs1.own hd (fun g hg=>by cases hg) ⟨none,0,dJ _ _ _,b0,lY _,rfl⟩ ⟨none,0,dJ _ _ _,⟨rfl,rfl⟩⟩
  refine⟨rfl,⟨rfl,bW _⟩,rfl,bW _,fun _ h=>h,fun g hg hA=>⟨rfl,fun h=>h,fun s c' hc=>?_⟩,fun s g c' hc hg hl=>?_,fun s hs'=>?_⟩
  ·rcases cZ hc with ⟨_,h⟩|⟨_,h⟩
   ·cases h
   exact hA s c' (hA1 s _ h)
  ·rcases cZ hc with ⟨_,h⟩|⟨_,h⟩
   ·cases h
   exact⟨s,c',hl,hA1 s _ h⟩
  rw[fF _ _ aV,hout s hs']
 obtain⟨x,w',A',k1,k2,k3⟩:=zF (P:=P) (A:=A) (A1:=A1) (ty:=ty) hs1 hd hsl hz hz0 hzl (v:=.slice none 0 0) (n:=0) (xs:=[]) (xsV:=[]) (World.ownsRow_nil w 0 e z) rfl dH (c:=c) hsrcl hsrc aV (by simpa using hb2)
  (fun g h=>by cases h) hA1 (fun g h=>by cases h) hout
 refine⟨x,w',A',?_,by simpa using k2,k3⟩;rw[aJq hu hi b0 b m c h0 (by rw[he2];exact hb2) hb1];exact k1
theorem bIg {o:Oper} {K:aN->Prop} {t:TypeId} {x y:Operand} {d s n:Nat} {e:TypeId} {z by_:Nat} {zs:List Value} {xs:List (List DV)} (hop:o.op=.call ⟨.builtin .append,#[x,y],#[t,t]⟩) (hg:o.guard=none) (hdst:o.dst=some d) (hd:d<nt)
  (ho:eJ nt o=true) (hx:ev ρ x=.own s n) (hρ:ρ s=.row e z xs) (hs:s<100000) (hn:n<=xs.length) (hy:gd (ev ρ y)) (hsl:nE P t=some (e,z,by_)) (hz:eW P e=some zs) (hz0:0<z) (hzl:zs.length=z)
  (hsrc:aDr ρ z (un (ev ρ y))) (hb1:n+(qD ρ (un (ev ρ y))).length<=9223372036854775807) (hb2:(n+(qD ρ (un (ev ρ y))).length)*by_<=140737488355328)
  (hK:K (set (d4 d (set (d4 s ρ) s .any)) d (.row e z (xs.take n++qD ρ (un (ev ρ y)))))):OW P nt ops o K ρ:=by
 refine iF hg fun I A a w hsim=>?_;have hxr:=hsim.opd x (bM ho (by simp[hop,Op.operands,Call.operands])) (by rw[hx];trivial);rw[hx] at hxr;have hxr:bP w I A (.own s n) (a.eval x):=hxr;have hyr:=hsim.opd y (bM ho (by simp[hop,Op.operands,Call.operands])) hy;obtain⟨b,m,c,hye,hsl',hsrc'⟩:=aSb hsim hyr hsrc;rw[hsl'] at hb1 hb2;generalize hxe:a.eval x=v at hxr;have hown:=hsim.osim.own s;rw[hρ] at hown;obtain⟨B,cc,hA,hrow⟩:=hown;cases hxr with
 |own _ _ _ B' c' b' hA' hb'=>
  rw[hA] at hA';simp only[bX,cF] at hA';obtain⟨rfl,rfl⟩:=hA';have hs1:=hsim.disown hs;have huu:=lC hsl;have hA1: ∀s' y',kC A s none s'=some y'->A s'=some y':=fun s' y' h=>by
   rcases cZ h with ⟨_,h⟩|⟨_,h⟩
   ·cases h
   exact h
  have fin: ∀q w' A',(Builtin.append_ #[t,t] o.type #[.slice b' n cc,.slice b m c]).run P w=.ok q w'->dB nt w' I A' (set (d4 d (set (d4 s ρ) s .any)) d (.row e z (xs.take n++qD ρ (un (ev ρ y))))) (a.put (some d) q)->f8 w I A w' I A'->
    ∃v w' I' A' ρ',(execOp a.eval o).run P w=.ok (.value v) w'/\dB nt w' I' A' ρ' (a.put o.dst v)/\f8 w I A w' I' A'/\K ρ':=fun q w' A' k1 k2 k3=>by
   refine⟨q,w',I,A',_,?_,by rw[hdst];exact k2,k3,hK⟩;simp only[execOp,hop,resolve,Sem.run_bind,Sem.run_pure,Result.andThen_ok,invoke,builtin,List.map_toArray,kH,sI,hxe,hye];rw[k1];rfl
  cases B with
  |none=>
   obtain⟨rfl,rfl⟩:=hrow;obtain rfl:n=0:=by simpa using hn
   obtain⟨q,w',A',k1,k2,k3⟩:=aDy (P:=P) (A:=A) (ty:=o.type) hs1 hd hsl hz hz0 hzl b' (c:=c) hsl' hsrc' aV (by simpa using hb2) hA1 (fun s' h=>fF A _ aV);exact fin q w' A' k1 (by simpa using k2) k3
  |some g=>
   obtain rfl:=iX hb';obtain⟨us,q1,q2,q3,q4,q5⟩:=hrow
   obtain⟨xsV,hov,hov2⟩: ∃xsV,w.ownsRow 0 e z (.slice (some ⟨g,0,none⟩) n cc) n xsV/\
     ∀(i:Nat) (q:List DV),(xs.take n)[i]?=some q->q.length=z/\ ∀(j:Nat) (d:DV) (u:Value),q[j]?=some d->xsV[i*z+j]?=some u->u.oneCell'=true/\bP w I fO d u:=by
    refine⟨us.toList.take (n*z),⟨?_,.inr ⟨g,cc,us,rfl,nJ _,q1,by omega,q3,q2,rfl⟩⟩,fun i q hq=>?_⟩
    ·rw[iO,xT,q2,qP];exact gF _ aV
    rw[oR] at hq;split at hq<;>try cases hq
    rename_i hi;obtain⟨k1,k2⟩:=q5 i q hq;refine⟨k1,fun j d u hd hu=>?_⟩;rw[oR] at hu;split at hu<;>try cases hu
    rw[kK] at hu;exact k2 j d u hd hu
   have hfree: ∀g',(Value.slice (some ⟨g,0,none⟩) n cc).ownBlock=some g'->g'=g:=fun g' h=>by
    simp[Value.ownBlock] at h;exact h.symm
   obtain⟨q,w',A',k1,k2,k3⟩:=zF (P:=P) (A:=A) (ty:=o.type) hs1 hd hsl hz hz0 hzl hov (by simp;omega) hov2 (c:=c) hsl' hsrc' hb1 hb2
    (fun g' h=>by
     obtain rfl:=hfree g' h;refine⟨(hsim.osim.sep s _ cc hA).1,(hsim.osim.sep s _ cc hA).2,fun s' c' hc=>?_⟩;rcases cZ hc with ⟨_,h⟩|⟨h1,h2⟩
     ·cases h
     exact h1 (hsim.osim.inj s' s _ c' cc h2 hA))
    hA1
    (fun g' h=>by obtain rfl:=hfree g' h;exact⟨s,cc,hs,hA⟩)
    (fun s' h=>fF A _ aV)
   exact fin q w' A' k1 k2 k3
theorem bDm {o:Oper} {K:aN->Prop} {t:TypeId} {x y:Operand} {d:Nat} {e:TypeId} {z by_:Nat} {zs:List Value} (hop:o.op=.call ⟨.builtin .append,#[x,y],#[t,t]⟩) (hg:o.guard=none) (hdst:o.dst=some d) (hd:d<nt)
  (ho:eJ nt o=true) (hx:ev ρ x=.ez) (hy:gd (ev ρ y)) (hsl:nE P t=some (e,z,by_)) (hz:eW P e=some zs) (hz0:0<z) (hzl:zs.length=z)
  (hsrc:aDr ρ z (un (ev ρ y))) (hb1:(qD ρ (un (ev ρ y))).length<=9223372036854775807) (hb2:(qD ρ (un (ev ρ y))).length*by_<=140737488355328)
  (hK:K (set (d4 d ρ) d (.row e z (qD ρ (un (ev ρ y)))))):OW P nt ops o K ρ:=by
 refine iF hg fun I A a w hsim=>?_;have hxr:=hsim.opd x (bM ho (by simp[hop,Op.operands,Call.operands])) (by rw[hx];trivial);rw[hx] at hxr;have hxr:bP w I A .ez (a.eval x):=hxr;have hyr:=hsim.opd y (bM ho (by simp[hop,Op.operands,Call.operands])) hy;obtain⟨b,m,c,hye,hsl',hsrc'⟩:=aSb hsim hyr hsrc;rw[hsl'] at hb1 hb2;generalize hxe:a.eval x=v at hxr;cases hxr with
 |ez _ b'=>
  obtain⟨q,w',A',k1,k2,k3⟩:=aDy (P:=P) (A:=A) (A1:=A) (ty:=o.type) hsim hd hsl hz hz0 hzl b' (c:=c) hsl' hsrc' hb1 hb2 (fun _ _ h=>h) (fun _ _=>rfl);refine⟨q,w',I,A',_,?_,by rw[hdst];exact k2,k3,hK⟩;simp only[execOp,hop,resolve,Sem.run_bind,Sem.run_pure,Result.andThen_ok,invoke,builtin,List.map_toArray,kH,sI,hxe,hye];rw[k1];rfl
theorem bBm {o:Oper} {K:aN->Prop} {t:TypeId} {x y:Operand} {d:Nat} {e:TypeId} {z by_:Nat} {zs:List Value} (hop:o.op=.call ⟨.builtin .append,#[x,y],#[t,t]⟩) (hg:o.guard=none) (hdst:o.dst=some d) (hd:d<nt)
  (ho:eJ nt o=true) (hx:ev ρ x=.v (.slice none 0 0)) (hy:gd (ev ρ y)) (hsl:nE P t=some (e,z,by_)) (hz:eW P e=some zs) (hz0:0<z) (hzl:zs.length=z)
  (hsrc:aDr ρ z (un (ev ρ y))) (hb1:(qD ρ (un (ev ρ y))).length<=9223372036854775807) (hb2:(qD ρ (un (ev ρ y))).length*by_<=140737488355328)
  (hK:K (set (d4 d ρ) d (.row e z (qD ρ (un (ev ρ y)))))):OW P nt ops o K ρ:=by
 refine iF hg fun I A a w hsim=>?_;have hxr:=hsim.opd x (bM ho (by simp[hop,Op.operands,Call.operands])) (by rw[hx];trivial);rw[hx] at hxr;have hxr:bP w I A (.v (.slice none 0 0)) (a.eval x):=hxr;have hyr:=hsim.opd y (bM ho (by simp[hop,Op.operands,Call.operands])) hy;obtain⟨b,m,c,hye,hsl',hsrc'⟩:=aSb hsim hyr hsrc;rw[hsl'] at hb1 hb2;generalize hxe:a.eval x=v at hxr;cases hxr
 obtain⟨q,w',A',k1,k2,k3⟩:=zF (P:=P) (A:=A) (A1:=A) (ty:=o.type) hsim hd hsl hz hz0 hzl (v:=.slice none 0 0) (n:=0) (xs:=[]) (xsV:=[]) (World.ownsRow_nil w 0 e z) rfl dH (c:=c) hsl' hsrc' aV (by simpa using hb2)
  (fun g h=>by cases h) (fun _ _ h=>h) (fun g h=>by cases h) (fun _ _=>rfl)
 refine⟨q,w',I,A',_,?_,by rw[hdst];exact k2,k3,by simpa using hK⟩;simp only[execOp,hop,resolve,Sem.run_bind,Sem.run_pure,Result.andThen_ok,invoke,builtin,List.map_toArray,kH,sI,hxe,hye];rw[k1];rfl
end
end Go.Sg
namespace Go.Sg
open Go.RowKit
def aRw:Value->Option ByteArray
 | .string s=>some s
 |_=>none
theorem aLk {v:Value} {s:ByteArray}:aRw v=some s↔v=.string s:=by cases v<;>simp[aRw]
def aWi:List (Value×Value)->ByteArray->Value->Value
 | [],_,z=>z
 |e::es,s,z=>if aRw e.1=some s then e.2 else aWi es s z
def bSg (es:List (Value×Value)):Prop:=(∀e∈es,(aRw e.1).isSome=true)/\(es.map (·.1)).Nodup
def cKi (es:List (Value×Value)) (s:ByteArray):Prop:=(∀e∈es,(aRw e.1).isSome=true)/\ ∀e∈es,e.1≠ .string s
theorem aEh: ∀{es:List (Value×Value)},(es.map (·.1)).Nodup-> ∀{s:ByteArray} {v z:Value},(.string s,v)∈es->aWi es s z=v
 | [],_,s,v,z,h=>by cases h
 |e::es,hn,s,v,z,h=>by
  rw[kH,aXa] at hn;unfold aWi;rcases gN.1 h with rfl|h
  ·rw[if_pos (aLk.2 rfl)]
  rw[if_neg]
  ·exact aEh hn.2 h
  intro he;rw[aLk] at he;exact hn.1 (dZ.2 ⟨_,h,he.symm⟩)
theorem aFr: ∀{es:List (Value×Value)} {s:ByteArray} {z:Value},(∀e∈es,e.1≠ .string s)->aWi es s z=z
 | [],_,_,_=>rfl
 |e::es,s,z,h=>by
  unfold aWi;rw[if_neg fun he=>h e dH (aLk.1 he)];exact aFr fun e' he'=>h e' (by simp[he'])
def aSn (P:Program) (t:TypeId):Option Value:=
 match P.underlying t with
 |some (.map kt e)=>(match P.underlying kt,P.info? e with
  |some .string,some i=>i.zero
  |_,_=>none)
 |_=>none
theorem aRm {P:Program} {t:TypeId} {z:Value} (h:aSn P t=some z): ∃kt e i,P.underlying t=some (.map kt e)/\P.underlying kt=some .string/\P.info? e=some i/\i.zero=some z:=by
 unfold aSn at h;split at h<;>try cases h
 rename_i kt e hu;split at h<;>try cases h
 rename_i hk hi;exact⟨kt,e,_,hu,hk,hi,h⟩
theorem aXs {P:Program} {kt:TypeId} (hu:P.underlying kt=some .string) (w:World) (s:ByteArray) (vs:List MapEntry) (h: ∀e∈vs,(aRw e.key).isSome=true):
  ((Instr.findKey kt (.string s) vs).run P w=.ok none w/\ ∀e∈vs,e.key≠ .string s)\/ ∃j e,(Instr.findKey kt (.string s) vs).run P w=.ok (some (j,e.val)) w/\vs[j]?=some e/\e.key=.string s:=by
 rcases MapKept.findNow_spec (d:=.string) (k:=.string s) (show MapKept.IsKey .string (.string s) from trivial) vs 0 (fun e he=>by
   have:=h e he;cases hk:e.key<;>rw[hk] at this<;>first|trivial|(simp[aRw] at this)) with ⟨h1,h2⟩|⟨j,e,h1,h2,h3⟩
 ·exact .inl ⟨MapKept.run_findKey hu h1,h2⟩
 exact .inr ⟨j,e,by rw[MapKept.run_findKey hu h1,gH],h2,h3⟩
section
variable {P:Program} {nt:Nat} {ρ:aN} {ops:Array Oper}
theorem dB.turnO {w w':World} {I:Nat->Prop} {A:dD} {a:Act} (hs:dB nt w I A ρ a) {s g c:Nat} (hA:A s=some (some g,c)) (hoth: ∀g',g'≠g->w'.heap[g']?=w.heap[g']?) (hsz:w'.heap.size=w.heap.size) {v:DV}
  (hsl: ∀x,eU w I A s (ρ s) x->eU w' I A s v x) (ho:fW w' I A s v) (hout:100000<=s->cX v):dB nt w' I A (set ρ s v) a:=by
 have hI:=(hs.osim.sep s g c hA).2;have hne: ∀g',I g'->g'≠g:=fun g' h e=>hI (e▸h);have hrel: ∀B d x,bP w I B d x->bP w' I B d x:=fun B d x hr=>hr.mono fun g' hg'=>⟨hg',fun o=>eD (hoth g' (hne g' hg')) o⟩;have hslot: ∀t d x,eU w I A t d x->eU w' I A t d x:=fun t d x hr=>by
  cases d with
  |bx cs=>exact hr
  |row e z xs=>exact hr
  |cond g y=>exact⟨fun hg=>hrel _ _ _ (hr.1 hg),hr.2⟩
  |any=>exact .any A x
  |v y=>exact hrel _ _ _ hr
  |sl z n f=>exact hrel _ _ _ hr
  |agg cs=>exact hrel _ _ _ hr
  |tup cs=>exact hrel _ _ _ hr
  |dp cs=>exact hrel _ _ _ hr
  |bp t o=>exact hrel _ _ _ hr
  |own t n=>exact hrel _ _ _ hr
  |rp t z i o=>exact hrel _ _ _ hr
  |fn f b c=>exact hrel _ _ _ hr
  |iface t y=>exact hrel _ _ _ hr
  |mr t=>exact hrel _ _ _ hr
  |ez=>exact hrel _ _ _ hr
  |mo es=>exact hr
 refine⟨⟨fun t=>?_,hs.osim.inj,fun t g' c' h'=>?_,hs.osim.imm.step (fun g' h'=>by rw[hsz];exact hs.osim.imm g' h') fun g' h'=>⟨h',hoth g' (hne g' h')⟩⟩,hs.size,hs.bound,fun i hi=>?_,fun t ht=>?_⟩
 ·unfold set;split
  ·rename_i e;rw[e];exact ho
  rename_i e;exact (hs.osim.own t).keep (fun g' c' h'=>hoth g' fun e'=>e (hs.osim.inj t s g c' c (e'▸h') hA)) hrel
 ·rw[hsz];exact hs.osim.sep t g' c' h'
 ·unfold set;split
  ·rename_i e;rw[e] at hi ⊢;exact hsl _ (hs.slot s hi)
  exact hslot i _ _ (hs.slot i hi)
 unfold set;split
 ·rename_i e;exact hout (e▸ht)
 exact hs.out t ht
theorem f8.turnO {w w':World} {I:Nat->Prop} {A:dD} {s g c:Nat} (hA:A s=some (some g,c)) (hoth: ∀g',g'≠g->w'.heap[g']?=w.heap[g']?) (hsz:w'.heap.size=w.heap.size) (h1:w'.os=w.os) (h2:w'.tape=w.tape/\w.drawn<=w'.drawn) (h3:w'.output=w.output):f8 w I A w' I A where
 os:=h1
 tape:=h2
 output:=h3
 size:=by rw[hsz];exact bW _
 imm:=fun _ h=>h
 old:=fun g' _ h'=>⟨hoth g' fun e=>h' s c (e▸hA),fun h=>h,h'⟩
 loc:=fun s g c hA _ hs=>⟨s,c,hs,hA⟩
 outA:=fun _ _=>rfl
def lkG (ρ:aN) (dst:Option Nat) (z:Option Value) (x k:DV) (K:aN->Prop):Prop:=
 match z,x,k with
 |some z,.mr s,.v (.string q)=>(match ρ s with
  | .mo es=>bSg es/\K (cO ρ dst (.v (aWi es q z)))
  |_=>False)
 |_,_,_=>False
def upG (ρ:aN) (z:Option Value) (x k v:DV) (K:aN->Prop):Prop:=
 match z,x,k,v with
 |some _,.mr s,.v (.string q),.v y=>(match ρ s with
  | .mo es=>cKi es q/\K (set ρ s (.mo (es++[(.string q,y)])))
  |_=>False)
 |_,_,_,_=>False
theorem bLb {o:Oper} {K:aN->Prop} {t:TypeId} {x k:Operand} (hop:o.op=.lookup t x k false) (hg:o.guard=none) (ho:eJ nt o=true) (hd:jH nt o=true)
  (h:lkG ρ o.dst (aSn P t) (ev ρ x) (ev ρ k) K):OW P nt ops o K ρ:=by
 unfold lkG at h;split at h
 ·rename_i _ _ _ z s q hz hx hk;split at h
  ·rename_i es hes;obtain⟨⟨Z1,Z2⟩,hK⟩:=h;refine iF hg fun I A a w hs=>?_;obtain⟨kt,e,i,u1,u2,u3,u4⟩:=aRm hz;have hxr:=hs.opd x (bM ho (by simp[hop,Op.operands])) (by rw[hx];trivial);have hkr:=hs.opd k (bM ho (by simp[hop,Op.operands])) (by rw[hk];trivial);rw[hx] at hxr;rw[hk] at hkr;have hxr:bP w I A (.mr s) (a.eval x):=hxr;have hkr:bP w I A (.v (.string q)) (a.eval k):=hkr;generalize hav:a.eval x=av at*;generalize hkv:a.eval k=kv at*;cases hkr;cases hxr with
   |mr _ _ g c hA=>
    have hown:=hs.osim.own s;rw[hes] at hown;obtain⟨g',c',vs,cl,q1,q2,q3⟩:=hown;rw[hA] at q1;simp only[bX,cF] at q1;obtain⟨rfl,rfl⟩:=q1;have hks: ∀e∈vs,(aRw e.key).isSome=true:=fun m hm=>Z1 (m.key,m.val) (by rw[<- q3];exact dZ.2 ⟨m,hm,rfl⟩);have hck: ∀em,(Instr.checkKey em 10000 kt (.string q)).run P w=.ok () w:=fun em=>MapKept.run_checkKey u2 (show MapKept.IsKey .string (.string q) from trivial) em 9999;rcases aXs u2 w q vs hks with ⟨f1,f2⟩|⟨j,m,f1,f2,f3⟩
    ·refine⟨z,w,I,A,_,?_,hs.putV hd ?_,f8.refl _ _ _,hK⟩
     ·simp[execOp,hop,hav,hkv,Instr.lookup,run_underlying u1,MapKept.run_getObj_map q2,hck,f1,zeroValue,typeInfo,u3,u4]
     rw[aFr fun e he=>by
      rw[<- q3] at he;obtain⟨m,hm,rfl⟩:=dZ.1 he;exact f2 m hm]
     exact .v _ _
    refine⟨m.val,w,I,A,_,?_,hs.putV hd ?_,f8.refl _ _ _,hK⟩
    ·simp[execOp,hop,hav,hkv,Instr.lookup,run_underlying u1,MapKept.run_getObj_map q2,hck,f1]
    rw[aEh Z2 (v:=m.val) (by rw[<- q3,<- f3];exact dZ.2 ⟨m,pP f2,rfl⟩)];exact .v _ _
  exact h.elim
 exact h.elim
theorem aUx {o:Oper} {K:aN->Prop} {t:TypeId} {x k y:Operand} (hop:o.op=.mapUpdate t x k y) (hg:o.guard=none) (hdst:o.dst=none) (ho:eJ nt o=true)
  (h:upG ρ (aSn P t) (ev ρ x) (ev ρ k) (ev ρ y) K):OW P nt ops o K ρ:=by
 unfold upG at h;split at h
 ·rename_i _ _ _ _ z s q v hz hx hk hy;split at h
  ·rename_i es hes;obtain⟨⟨Z1,Z2⟩,hK⟩:=h;refine aAj hg fun I A a w hs=>?_;obtain⟨kt,e,i,u1,u2,u3,u4⟩:=aRm hz;have hxr:=hs.opd x (bM ho (by simp[hop,Op.operands])) (by rw[hx];trivial);have hkr:=hs.opd k (bM ho (by simp[hop,Op.operands])) (by rw[hk];trivial);have hyr:=hs.opd y (bM ho (by simp[hop,Op.operands])) (by rw[hy];trivial);rw[hx] at hxr;rw[hk] at hkr;rw[hy] at hyr;have hxr:bP w I A (.mr s) (a.eval x):=hxr;have hkr:bP w I A (.v (.string q)) (a.eval k):=hkr;have hyr:bP w I A (.v v) (a.eval y):=hyr;generalize hav:a.eval x=av at*;generalize hkv:a.eval k=kv at*;generalize hyv:a.eval y=yv at*;cases hkr;cases hyr;cases hxr with
   |mr _ _ g c hA=>
    have hown:=hs.osim.own s;rw[hes] at hown;obtain⟨g',c',vs,cl,q1,q2,q3⟩:=hown;rw[hA] at q1;simp only[bX,cF] at q1;obtain⟨rfl,rfl⟩:=q1;have hks: ∀e∈vs,(aRw e.key).isSome=true:=fun m hm=>Z1 (m.key,m.val) (by rw[<- q3];exact dZ.2 ⟨m,hm,rfl⟩);have hck: ∀em,(Instr.checkKey em 10000 kt (.string q)).run P w=.ok () w:=fun em=>MapKept.run_checkKey u2 (show MapKept.IsKey .string (.string q) from trivial) em 9999;have hst:(Instr.keyThatStays (.string q) (.string q)).run P w=.ok (.string q) w:=MapKept.run_keyThatStays (show MapKept.IsKey .string (.string q) from trivial);rcases aXs u2 w q vs hks with ⟨f1,f2⟩|⟨j,m,f1,f2,f3⟩
    ·have hset:=MapKept.heap_set (o':=.map (vs++[({key:=.string q,val:=v,born:=cl}:MapEntry)]).toArray (cl+1)) q2;refine⟨{w with heap:=w.heap.setIfInBounds g (.map (vs++[({key:=.string q,val:=v,born:=cl}:MapEntry)]).toArray (cl+1))},I,A,_,?_,?_,f8.turnO hA hset.2 dH rfl ⟨rfl,bW _⟩ rfl,hK⟩
     ·simp[execOp,hop,hav,hkv,hyv,Instr.mapUpdate,run_underlying u1,MapKept.run_getObj_map q2,hck,f1,MapKept.run_setObj_map _ q2]
     rw[hdst];refine hs.turnO hA hset.2 dH (fun x' hx'=>?_) ⟨g,c,_,_,hA,hset.1,by rw[eM,q3];rfl⟩ fun _=>rfl;rw[hes] at hx';exact hx'
    exact absurd f3 (Z2 (m.key,m.val) (by rw[<- q3];exact dZ.2 ⟨m,pP f2,rfl⟩))
  exact h.elim
 exact h.elim
theorem bDe {o:Oper} {K:aN->Prop} {t:TypeId} {d:Nat} (hop:o.op=.makeMap t none) (hg:o.guard=none) (hdst:o.dst=some d) (hd:d<nt) (hK:K (set (d4 d ρ) d (.mo []))):OW P nt ops o K ρ:=by
 refine iF hg fun I A a w hs=>?_;have hb:=hs.bound;have hgr:=oT.alloc hs.osim (.map #[] 0);have hs1:=hs.grow hgr;refine⟨.map (some w.heap.size),w.alloc (.map #[] 0),I,kC A d (some (some w.heap.size,0)),_,by simp[execOp,hop,Instr.makeMap,newObj,Sem.run],?_,?_,hK⟩
 ·rw[hdst];refine hs1.own hd (fun g hg=>?_) ⟨_,0,dJ _ _ _,rfl⟩ ⟨w.heap.size,0,[],0,dJ _ _ _,(MapKept.heap_alloc w _).1,rfl⟩;cases hg;refine⟨by simp,fun hi=>?_,fun s c' _ hc=>?_⟩
  ·have:=hs.osim.imm _ hi;omega
  have:=(hs.osim.sep s _ c' hc).1;omega
 refine⟨rfl,⟨rfl,bW _⟩,rfl,by simp,fun _ h=>h,fun g hg hA=>⟨hgr.heap g hg,fun h=>h,fun s c hc=>?_⟩,fun s g c hc hg hl'=>?_,fun s h=>fF A _ aV⟩
 ·rcases cZ hc with ⟨_,h⟩|⟨_,h⟩
  ·simp only[bX,cF] at h;omega
  exact hA s c h
 rcases cZ hc with ⟨_,h⟩|⟨_,h⟩
 ·simp only[bX,cF] at h;omega
 exact⟨s,c,hl',h⟩
end
end Go.Sg
namespace Go.Sg
open Go.RowKit
def bMq (ρ:aN) (d t:Nat) (c:DV) (K:aN->Prop):Prop:=
 match cK c with
 |true=>t≠d/\K (set (d4 d (set (d4 t ρ) t .any)) d (iG d (iG t c)))
 |false=>gd c/\K (set ρ d (un c))
def cFy (ρ:aN) (d:Nat) (c:DV) (K:aN->Prop):Prop:=
 gd c/\(0<(cW (un c)).length\/ ∃cs,un c=.agg cs)/\K (set (d4 d ρ) d (iG d (.bx (cW (un c)))))
def aOf (ρ:aN) (d:Nat) (zs:Option (List Value)) (K:aN->Prop):Prop:=
 match zs with
 |some zs=>K (set (d4 d ρ) d (.bx (zs.map .v)))
 |none=>False
def stR (ρ:aN) (s z i off n:Nat) (cs:List DV) (c:DV) (K:aN->Prop):Prop:=
 match c with
 | .row e z' xs=>z=z'/\cs.length=n/\i<xs.length/\off+n<=z/\d6 (fun _=>false) cs=true/\K (set ρ s (.row e z (xs.set i (spl off cs (xs.getD i [])))))
 |_=>False
def stG (ρ:aN) (n:Option Nat) (ad:DV) (x:DV) (K:aN->Prop):Prop:=
 match n with
 |none=>False
 |some n=>
  match ad with
  | .bp s off=>gd x/\0<n/\stB ρ s off n (cW (un x)) (ρ s) K
  | .rp s z i off=>gd x/\0<n/\stR ρ s z i off n (cW (un x)) (ρ s) K
  |_=>False
def mkG (P:Program) (ρ:aN) (d:Nat) (sl:Option (TypeId×Nat×Nat)) (x y:DV) (K:aN->Prop):Prop:=
 match sl,x,y with
 |some (e,z,by_),.v (.int _ n),.v (.int _ c)=>
  (match eW P e with
  |some zs=>zs.length=z/\0<=n/\n<=c/\c<=9223372036854775807/\c*by_<=140737488355328/\K (set (d4 d ρ) d (.row e z (List.replicate n.toNat (zs.map .v))))
  |none=>False)
 |_,_,_=>False
def bNn (P:Program) (ρ:aN) (d:Nat) (sl:Option (TypeId×Nat×Nat)) (n:Nat) (parts:List (Nat×Operand)) (K:aN->Prop):Prop:=
 match sl with
 |some (e,z,_)=>
  (match parts with
  | []=>n=0/\K (set (d4 d ρ) d (.row e z []))
  |parts=>(eW P e).isSome=true/\0<z/\0<n/\n*z<=16777216/\parts.length=n/\aJf ρ z 0 parts/\K (set ρ d (.sl z n fun i=>(bsL ρ parts).getD i [])))
 |none=>False
def cHs (ρ:aN) (d s n e z by_:Nat) (src:DV) (c:DV) (K:aN->Prop):Prop:=
 match c with
 | .row e' z' xs=>e'=e/\z'=z/\s<100000/\n<=xs.length/\aDr ρ z src/\n+(qD ρ src).length<=9223372036854775807/\(n+(qD ρ src).length)*by_<=140737488355328/\
   K (set (d4 d (set (d4 s ρ) s .any)) d (.row e z (xs.take n++qD ρ src)))
 |_=>False
def cAf (P:Program) (ρ:aN) (d:Nat) (sl:Option (TypeId×Nat×Nat)) (x y:DV) (K:aN->Prop):Prop:=
 match sl with
 |some (e,z,by_)=>gd y/\0<z/\(eW P e).map List.length=some z/\
  (match x with
  | .own s n=>cHs ρ d s n e z by_ (un y) (ρ s) K
  | .v (.slice none 0 0)=>aDr ρ z (un y)/\(qD ρ (un y)).length<=9223372036854775807/\(qD ρ (un y)).length*by_<=140737488355328/\K (set (d4 d ρ) d (.row e z (qD ρ (un y))))
  | .ez=>aDr ρ z (un y)/\(qD ρ (un y)).length<=9223372036854775807/\(qD ρ (un y)).length*by_<=140737488355328/\K (set (d4 d ρ) d (.row e z (qD ρ (un y))))
  |_=>False)
 |none=>False
def gdL (ρ:aN):List Operand->Prop
 | []=>True
 |x::l=>gd (ev ρ x)/\gdL ρ l
theorem bHq (ρ:aN) (l:List Operand):gdL ρ l↔ ∀x∈l,gd (ev ρ x):=by
 induction l with
 |nil=>simp[gdL]
 |cons x l ih=>simp[gdL,ih]
def evL (ρ:aN) (l:List Operand):List DV:=l.map fun x=>un (ev ρ x)
def cCa (P:Program) (ρ:aN) (d:Nat) (f:Option (FuncId×List DV)) (K:aN->Prop):Prop:=
 match f with
 |some (f,l)=>aHw P ρ f l (fun O' r=>(cK r=true->iG d r=r)/\K (bSy O' d r)) ⟨⟩
 |none=>False
def aSc (P:Program) (f:Option (FuncId×List DV)):Prop:=
 match f with
 |some (f,_)=>aM P f=true
 |none=>False
def cbG (P:Program) (ρ:aN) (b:Builtin) (args:List Operand) (ts:List TypeId) (d:Option Nat) (K:aN->Prop):Prop:=
 match b,args,ts,d with
 | .append,[x,y],[t,t'],some d=>t=t'/\cAf P ρ d (nE P t) (ev ρ x) (ev ρ y) K
 |b,args,ts,d=>(aFe P ρ b args ts).1/\K (cO ρ d (aFe P ρ b args ts).2)
def aTc:Operand->Bool
 | .const (.slice none _ _)=>true
 |_=>false
def bOn:BinOp->Bool
 | .eql=>true
 |_=>false
def cOe (P:Program) (ρ:aN) (t:TypeId) (x:DV) (dst:Option Nat) (K:aN->Prop):Prop:=
 tk P t=2/\(match x with
  | .sl _ n _=> ∀b:Bool,(0<n->b=false)->K (cO ρ dst (.v (.bool b)))
  | .v (.slice a _ _)=>K (cO ρ dst (.v (.bool a.isNone)))
  |_=>False)
def bWd (P:Program) (ρ:aN) (b:BinOp) (t:TypeId) (x y:Operand) (dst:Option Nat) (K:aN->Prop):Prop:=
 bif bOn b&&aTc y then gd (ev ρ x)/\cOe P ρ t (un (ev ρ x)) dst K
 else ((gd (ev ρ x)/\gd (ev ρ y))/\(aOs (yT P t) (tk P t) b (un (ev ρ x)) (un (ev ρ y))).1)/\K (cO ρ dst (aOs (yT P t) (tk P t) b (un (ev ρ x)) (un (ev ρ y))).2)
def jO (P:Program) (ρ:aN) (op:Op) (dst:Option Nat) (K:aN->Prop):Prop:=
 match op,dst with
 | .assign (.tmp t),some d=>bMq ρ d t (ρ t) K
 | .assign x,dst=>gd (ev ρ x)/\K (cO ρ dst (un (ev ρ x)))
 | .binOp b t x y _,dst=>bWd P ρ b t x y dst K
 | .build t parts,dst=>(uS P ρ t parts.toList).1/\K (cO ρ dst (uS P ρ t parts.toList).2)
 | .box _ x,some d=>cFy ρ d (ev ρ x) K
 | .alloc t,some d=>aOf ρ d (eW P t) K
 | .store t ad x,none=>stG ρ (gV P t) (ev ρ ad) (ev ρ x) K
 | .makeSlice t x y,some d=>mkG P ρ d (nE P t) (ev ρ x) (ev ρ y) K
 | .buildSlice t n parts,some d=>bNn P ρ d (nE P t) n parts.toList K
 | .lookup t x k false,dst=>lkG ρ dst (aSn P t) (ev ρ x) (ev ρ k) K
 | .mapUpdate t x k y,none=>upG ρ (aSn P t) (ev ρ x) (ev ρ k) (ev ρ y) K
 | .makeMap _ none,some d=>K (set (d4 d ρ) d (.mo []))
 | .call c,dst=>
  (match c.callee with
  | .value f=>(match dst with
   |some d=>gd (ev ρ f)/\gdL ρ c.args.toList/\aSc P (callee (un (ev ρ f)) (evL ρ c.args.toList))/\cCa P ρ d (callee (un (ev ρ f)) (evL ρ c.args.toList)) K
   |none=>False)
  | .builtin b=>cbG P ρ b c.args.toList c.argTypes.toList dst K
  |_=>False)
 |op,dst=>(vC P ρ op).1/\K (cO ρ dst (vC P ρ op).2)
section
variable {P:Program} {nt:Nat} {ρ:aN} {ops:Array Oper}
theorem aNn {off:Nat} {cs old:List DV} (h:off+cs.length<=old.length):(spl off cs old).length=old.length:=by
 unfold spl;split
 ·rw[aDh]
 split
 ·assumption
 simp only[fP,iO,aMa];omega
theorem bIt {o:Oper} {K:aN->Prop} {t:TypeId} {ad x:Operand} {n s z i off:Nat} (hop:o.op=.store t ad x) (hg:o.guard=none) (hdst:o.dst=none) (ho:eJ nt o=true)
  (ha:ev ρ ad=.rp s z i off) (hx:gd (ev ρ x)) (hz:gV P t=some n) (hl:0<n) (h:stR ρ s z i off n (cW (un (ev ρ x))) (ρ s) K):OW P nt ops o K ρ:=by
 refine aAj hg fun I A a w hs=>?_;have hxr:=hs.opd x (bM ho (by simp[hop,Op.operands])) hx;have hadr:=hs.opd ad (bM ho (by simp[hop,Op.operands])) (by rw[ha];trivial);rw[ha] at hadr;have hadr:bP w I A (.rp s z i off) (a.eval ad):=hadr;generalize hav:a.eval ad=av at*;cases hadr with
 |rp _ _ _ _ _ g c hA=>
  have hown:=hs.osim.own s;cases hρ:ρ s<;>rw[hρ] at h hown<;>simp only[stR] at h<;>try exact h.elim
  rename_i e z' xs;obtain⟨rfl,h1,h2,h3,h4,hK⟩:=h;obtain⟨B,c',q1,q2⟩:=hown;rw[hA] at q1;simp only[bX,cF] at q1;obtain⟨rfl,rfl⟩:=q1;obtain⟨us,q2,q3,q4,q5,q6⟩:=q2;obtain⟨k1,k2,k3⟩:=tJ hxr (.inl aV);have hxi:xs[i]?=some (xs.getD i []):=by rw[cA,cH h2];rfl
  have hol:=(q6 i _ hxi).1;have hbound: ∀i' r,i'<xs.length->r<z->i'*z+r<us.size:=fun i' r hi' hr=>by
   rw[q3];have:(i'+1)*z<=c*z:=gF _ aV;rw[jV] at this;omega
  have hcsl:(cW (un (ev ρ x))).length=n:=h1;have hfit:i*z+off+n<=us.size:=by
   rw[q3];have:(i+1)*z<=c*z:=gF _ aV;rw[jV] at this;omega
  have hrun:=yJ (P:=P) (w:=w) hz (x:=a.eval x) aV q2 (o:=i*z+off) hfit k2;generalize hnew:(us.toList.take (i*z+off)++(a.eval x).cells.toList++us.toList.drop (i*z+off+n)).toArray=new at hrun;have hI: ∀{B:dD} {d:DV} {v:Value},bP w I B d v->bP (w.setRow g new) I B d v:=fun hr=>
   hr.mono fun g' hg'=>⟨hg',fun o=>eD (setRow_other w g g' _ (fun e=>(hs.osim.sep s g c hA).2 (e▸hg'))) o⟩
  have hnsz:new.size=us.size:=by subst hnew;simp;omega
  have hget: ∀q,new[q]?=if i*z+off<=q/\q<i*z+off+n then (a.eval x).cells[q-(i*z+off)]? else us[q]?:=fun q=>by
   subst hnew;simp only[xR];rw[tH,tH];simp only[fP,iO,xT,<- k1,hcsl,qP (show i*z+off<=us.size by omega)];by_cases c1:q<i*z+off
   ·rw[if_pos aV,if_pos c1,if_neg aV,oR,if_pos c1,kK]
   by_cases c2:q<i*z+off+n
   ·rw[if_pos c2,if_neg c1,if_pos aV,kK]
   rw[if_neg c2,if_neg aV,sC,kK];congr 1;omega
  refine⟨w.setRow g new,I,A,_,?_,?_,f8.turn hA new,hK⟩
  ·simp only[execOp,hop,Sem.run_bind,hav,hrun,Result.andThen_ok,Sem.run_pure]
  rw[hdst];refine hs.turn hA q2 (fun v hv=>?_) ?_ fun hs'=>rfl
  ·rw[hρ] at hv;obtain⟨B,c2,r1,r2⟩:=hv;exact⟨B,c2,r1,by rw[aDh];exact r2⟩
  refine⟨some g,c,hA,new,setRow_heap w g us _ e _ q2,by rw[hnsz,q3],q4,by rw[aDh];exact q5,fun i' y hy=>?_⟩;rw[List.getElem?_set] at hy;split at hy
  ·rename_i hii;subst hii;cases hy;refine⟨by rw[aNn aV];exact hol,fun j d u hd hu=>?_⟩;have hj:j<z:=by
    have:(spl off (cW (un (ev ρ x))) (xs.getD i [])).length=z:=by rw[aNn aV];exact hol
    rw[<- this];rcases b9 j (spl off (cW (un (ev ρ x))) (xs.getD i [])).length with h|h
    ·exact h
    rw[fN h] at hd;cases hd
   rw[hget] at hu;rw[aCk aV,tH,tH] at hd;simp only[fP,iO,qP (show off<=(xs.getD i []).length by omega),hcsl] at hd;by_cases c1:j<off
   ·rw[if_pos aV,if_pos c1,oR,if_pos c1] at hd;rw[if_neg aV] at hu;obtain⟨r1,r2⟩:=(q6 i _ hxi).2 j d u hd hu;exact⟨r1,hI r2⟩
   by_cases c2:j<off+n
   ·rw[if_pos c2,if_neg c1] at hd;rw[if_pos aV] at hu;have e1:i*z+j-(i*z+off)=j-off:=by omega
    rw[e1] at hu;exact⟨k2 u (by simpa using tQ hu),hI ((k3 _ d u hd hu).pure (gZ h4 hd))⟩
   rw[if_neg c2,sC] at hd;rw[if_neg aV] at hu;have e1:off+n+(j-(off+n))=j:=by omega
   rw[e1] at hd;obtain⟨r1,r2⟩:=(q6 i _ hxi).2 j d u hd hu;exact⟨r1,hI r2⟩
  rename_i hii;obtain⟨r1,r2⟩:=q6 i' y hy;refine⟨r1,fun j d u hd hu=>?_⟩;have hj:j<z:=by
   rw[<- r1];rcases b9 j y.length with h|h
   ·exact h
   rw[fN h] at hd;cases hd
  rw[hget,if_neg (by
   intro ⟨a1,a2⟩;have e1:=qQ (z:=z) (i:=i') (q:=i'*z+j) aV aV aV;have e2:=qQ (z:=z) (i:=i) (q:=i'*z+j) aV aV aV;omega)] at hu
  exact⟨(r2 j d u hd hu).1,hI (r2 j d u hd hu).2⟩
theorem bV {o:Oper} {K:aN->Prop} (hg:o.guard=none) (ho:eJ nt o=true) (hd:jH nt o=true) (h:jO P ρ o.op o.dst K):OW P nt ops o K ρ:=by
 have hdn: ∀d,o.dst=some d->d<nt:=fun d e=>by unfold jH at hd;rw[e] at hd;simpa using hd
 cases hop:o.op with
 |assign x=>
  rw[hop] at h;cases hdst:o.dst with
  |none=>
   rw[hdst] at h;have h':gd (ev ρ x)/\K (cO ρ none (un (ev ρ x))):=by cases x<;>exact h
   exact vQ hop hg ho hd h'.1 (by rw[hdst];exact h'.2)
  |some d=>
   rw[hdst] at h;cases x with
   |tmp t=>
    have ht:t<nt:=by
     have:=bM ho (x:=.tmp t) (by simp[hop,Op.operands]);simpa[s9] using this
    have h:bMq ρ d t (ρ t) K:=h;unfold bMq at h;cases hown:cK (ρ t) with
    |true=>
     rw[hown] at h;exact aVv hop hg hdst (hdn d hdst) ht h.1 hown h.2
    |false=>
     rw[hown] at h;have e1:ev ρ (.tmp t)=ρ t:=by
      rw[aHm];cases hc:ρ t<;>first|rfl|(rw[hc] at hown;cases hown)
     exact vQ hop hg ho hd (by rw[e1];exact h.1) (by rw[hdst,e1];exact h.2)
   |const v=>exact vQ hop hg ho hd h.1 (by rw[hdst];exact h.2)
   |global g=>exact vQ hop hg ho hd h.1 (by rw[hdst];exact h.2)
   |func f=>exact vQ hop hg ho hd h.1 (by rw[hdst];exact h.2)
 |box t x=>
  rw[hop] at h;cases hdst:o.dst with
  |none=>rw[hdst] at h;exact h.1.elim
  |some d=>
   rw[hdst] at h;obtain⟨h1,h2,h3⟩:=h;exact cJd hop hg hdst (hdn d hdst) ho h1 h2 h3
 |alloc t=>
  rw[hop] at h;cases hdst:o.dst with
  |none=>rw[hdst] at h;exact h.1.elim
  |some d=>
   rw[hdst] at h;have h:aOf ρ d (eW P t) K:=h;unfold aOf at h;split at h
   ·rename_i zs hz;exact aWz hop hg hdst (hdn d hdst) hz h
   exact h.elim
 |lookup t x k ok=>
  rw[hop] at h;cases ok with
  |false=>exact bLb hop hg ho hd h
  |true=>exact aDu hg ho hd (by rw[hop];exact h.1) (by rw[hop];exact h.2)
 |mapUpdate t x k y=>
  rw[hop] at h;cases hdst:o.dst with
  |some d=>rw[hdst] at h;exact h.1.elim
  |none=>rw[hdst] at h;exact aUx hop hg hdst ho h
 |makeMap t hint=>
  rw[hop] at h;cases hdst:o.dst with
  |none=>rw[hdst] at h;cases hint<;>exact h.1.elim
  |some d=>
   rw[hdst] at h;cases hint with
   |none=>exact bDe hop hg hdst (hdn d hdst) h
   |some x=>exact h.1.elim
 |store t ad x=>
  rw[hop] at h;cases hdst:o.dst with
  |some d=>rw[hdst] at h;exact h.1.elim
  |none=>
   rw[hdst] at h;have h:stG ρ (gV P t) (ev ρ ad) (ev ρ x) K:=h;unfold stG at h;split at h
   ·exact h.elim
   rename_i n hn;split at h
   ·rename_i s off ha;exact aXk hop hg hdst ho ha h.1 hn h.2.1 h.2.2
   ·rename_i s z i off ha;exact bIt hop hg hdst ho ha h.1 hn h.2.1 h.2.2
   exact h.elim
 |makeSlice t x y=>
  rw[hop] at h;cases hdst:o.dst with
  |none=>rw[hdst] at h;exact h.1.elim
  |some d=>
   rw[hdst] at h;have h:mkG P ρ d (nE P t) (ev ρ x) (ev ρ y) K:=h;unfold mkG at h;split at h
   ·rename_i e z by_ k n k' c hs hx hy;split at h
    ·rename_i zs hz;obtain⟨h1,h2,h3,h4,h5,h6⟩:=h;exact aTy hop hg hdst (hdn d hdst) ho hx hy hs hz h1 h2 h3 h4 h5 h6
    exact h.elim
   exact h.elim
 |buildSlice t n parts=>
  rw[hop] at h;cases hdst:o.dst with
  |none=>rw[hdst] at h;exact h.1.elim
  |some d=>
   rw[hdst] at h;have h:bNn P ρ d (nE P t) n parts.toList K:=h;unfold bNn at h;split at h
   ·rename_i e z by_ hs;split at h
    ·rename_i hp;obtain⟨rfl,hK⟩:=h;obtain rfl:parts= #[]:=by apply aJm;simpa using hp
     exact cBe hop hg hdst (hdn d hdst) hs hK
    obtain⟨h1,h2,h3,h4,h5,h6,h7⟩:=h;obtain⟨zs,hz⟩:=nQ.1 h1;exact bWc hop hg hdst (hdn d hdst) ho hs hz h2 h3 h4 h5 h6 h7
   exact h.elim
 |call c=>
  rw[hop] at h;obtain⟨cl,args,ts⟩:=c;cases cl with
  |value f=>
   cases hdst:o.dst with
   |none=>rw[hdst] at h;exact h.elim
   |some d=>
    rw[hdst] at h;have h:gd (ev ρ f)/\gdL ρ args.toList/\aSc P (callee (un (ev ρ f)) (evL ρ args.toList))/\cCa P ρ d (callee (un (ev ρ f)) (evL ρ args.toList)) K:=h;obtain⟨h1,h2,h3,h4⟩:=h;cases hc:callee (un (ev ρ f)) (evL ρ args.toList) with
    |none=>rw[hc] at h3;exact h3.elim
    |some p=>
     obtain⟨g,l⟩:=p;rw[hc] at h3 h4;exact bGs (t:=⟨⟩) hop hg hdst (hdn d hdst) ho h1 ((bHq ρ _).1 h2) hc h3 h4
  |builtin b=>
   have hcb:cbG P ρ b args.toList ts.toList o.dst K:=h;clear h;unfold cbG at hcb;split at hcb
   ·rename_i x y t t' d hargs hts hdst;obtain rfl:args= #[x,y]:=by apply aJm;simpa using hargs
    obtain⟨rfl,h⟩:=hcb;obtain rfl:ts= #[t,t]:=by apply aJm;simpa using hts
    unfold cAf at h;split at h
    ·rename_i e z by_ hs;obtain⟨h1,h2,h3,h4⟩:=h;cases hz:eW P e with
     |none=>rw[hz] at h3;cases h3
     |some zs=>
      rw[hz] at h3;have hzl:zs.length=z:=by simpa using h3
      split at h4
      ·rename_i s n hx;unfold cHs at h4;split at h4
       ·rename_i e' z' xs hρ;obtain⟨rfl,rfl,k1,k2,k3,k4,k5,k6⟩:=h4;exact bIg hop hg hdst (hdn d hdst) ho hx hρ k1 k2 h1 hs hz h2 hzl k3 k4 k5 k6
       exact h4.elim
      ·rename_i hx;obtain⟨k1,k2,k3,k4⟩:=h4;exact bBm hop hg hdst (hdn d hdst) ho hx h1 hs hz h2 hzl k1 k2 k3 k4
      ·rename_i hx;obtain⟨k1,k2,k3,k4⟩:=h4;exact bDm hop hg hdst (hdn d hdst) ho hx h1 hs hz h2 hzl k1 k2 k3 k4
      exact h4.elim
    exact h.elim
   refine aDu hg ho hd ?_ ?_
   ·rw[hop];exact hcb.1
   rw[hop];exact hcb.2
  |invoke r m=>exact h.elim
 |build t parts=>
  rw[hop] at h;have h:(uS P ρ t parts.toList).1/\K (cO ρ o.dst (uS P ρ t parts.toList).2):=h;exact aYu hop hg ho hd h.1 h.2
 |binOp b t x y t'=>
  rw[hop] at h;have h:bWd P ρ b t x y o.dst K:=h;unfold bWd at h;cases hc:bOn b&&aTc y with
  |false=>
   rw[hc] at h;refine aDu hg ho hd ?_ ?_
   ·rw[hop];exact h.1
   rw[hop];exact h.2
  |true=>
   rw[hc] at h;obtain⟨h1,h2,h3⟩:=h;rw[cD] at hc;obtain⟨c1,c2⟩:=hc;obtain rfl:b=.eql:=by cases b<;>first|rfl|cases c1
   obtain⟨n',c',rfl⟩: ∃n' c',y=.const (.slice none n' c'):=by
    unfold aTc at c2;split at c2
    ·exact⟨_,_,rfl⟩
    cases c2
   obtain⟨e,he⟩: ∃e,P.underlying t=some (.slice e):=by
    unfold tk at h2;split at h2<;>first|exact⟨_,by assumption⟩|omega
   refine iF hg fun I A a w hs=>?_;have hr:=hs.opd x (bM ho (x:=x) (by rw[hop];simp[Op.operands])) h1;have hrun: ∀(b:Option Addr) n c,a.eval x=.slice b n c->(execOp a.eval o).run P w=.ok (.value (.bool b.isNone)) w:=fun b n c hx=>by
    have hb:execOp a.eval o=(do pure (.value (<- (eqGuard .eql t x (.const (.slice none n' c')) (a.eval x) (.slice none n' c')>>=fun _=>binOp .eql t (a.eval x) (.slice none n' c'))))):=by unfold execOp;rw[hop];rfl
    have hg:eqGuard .eql t x (.const (.slice none n' c')) (.slice b n c) (.slice none n' c')=(pure ():Sem Unit):=by unfold eqGuard;rfl
    rw[hb,hx,hg,Sem.run_bind];show Result.andThen ((binOp .eql t (.slice b n c) (.slice none n' c')).run P w) _=_;rw[Lib.run_eql_slice_nil w t e b n c n' c' he];rfl
   generalize un (ev ρ x)=d at*;cases d with
   |sl z n f=>
    generalize hx:a.eval x=v at hr;cases hr with
    |sl0 _ _ _ b c=>exact⟨_,w,I,A,_,hrun b 0 c hx,hs.putV hd (.v A _),f8.refl _ _ _,h3 _ aV⟩
    |sl _ _ _ _ b o c us hn hc hm hI hz hcell hone hrel=>exact⟨_,w,I,A,_,hrun _ n c hx,hs.putV hd (.v A _),f8.refl _ _ _,h3 _ fun _=>rfl⟩
   |v y=>
    cases y with
    |slice b n c=>
     generalize hx:a.eval x=v at hr;cases hr;exact⟨_,w,I,A,_,hrun b n c hx,hs.putV hd (.v A _),f8.refl _ _ _,h3⟩
    |_=>exact h3.elim
   |_=>exact h3.elim
 |_=>
  rw[hop] at h;refine aDu hg ho hd ?_ ?_
  ·rw[hop];exact h.1
  rw[hop];exact h.2
end
end Go.Sg
namespace Go.Sg
open Go.RowKit
open Go.Rv (FR)
def iJ:Op->Bool
 | .call c=>match c.callee with
  | .value _=>true
  | .builtin .len=>true
  | .builtin .max=>true
  | .builtin .min=>true
  |_=>false
 | .assign _| .move _| .pick .. | .load .. | .nilCheck _| .binOp .. | .unOp .. | .convert .. | .fieldAddr .. | .field .. | .indexAddr .. | .index .. | .slice .. | .extract .. | .makeFunc .. =>true
 | .buildSlice _ _ _=>true
 | .build _ _=>true
 | .makeSlice .. =>true
 |_=>false
def aJe (P:Program) (ρ:aN) (sl:Option (TypeId×Nat×Nat)) (n:Nat) (parts:List (Nat×Operand)):Prop×DV:=
 match sl with
 |some (e,z,_)=>if n=0 then (parts=[],.ez) else ((eW P e).isSome=true/\0<z/\0<n/\n*z<=16777216/\parts.length=n/\aJf ρ z 0 parts,.sl z n fun i=>(bsL ρ parts).getD i [])
 |none=>(False,.any)
def mkP (P:Program) (sl:Option (TypeId×Nat×Nat)) (x y:DV):Prop×DV:=
 match sl,x,y with
 |some (e,z,by_),.v (.int _ n),.v (.int _ c)=>
  (match eW P e with
  |some zs=>(zs.length=z/\0<=n/\n<=c/\c<=9223372036854775807/\c*by_<=140737488355328,.sl z n.toNat fun _=>zs.map .v)
  |none=>(False,.any))
 |_,_,_=>(False,.any)
def eC (P:Program) (ρ:aN):Op->Prop×DV
 | .buildSlice t n parts=>aJe P ρ (nE P t) n parts.toList
 | .build t parts=>uS P ρ t parts.toList
 | .makeSlice t x y=>mkP P (nE P t) (ev ρ x) (ev ρ y)
 |op=>vC P ρ op
def prP (P:Program) (ρ:aN) (op:Op) (d:DV):Prop:=
 match op with
 | .call ⟨.value f,args,_⟩=>gd (ev ρ f)/\gdL ρ args.toList/\ ∃g l,callee (un (ev ρ f)) (evL ρ args.toList)=some (g,l)/\aM P g=true/\aZ P ρ g l d
 |op=>(eC P ρ op).1/\d=(eC P ρ op).2
def uY (P:Program) (all:List Oper) (ρ:aN) (o:Oper) (d:DV):Prop:=
 cK d=false/\(∀k,o.dst=some k->cK (ρ k)=false)/\
 match o.guard with
 |none=>prP P ρ o.op d
 |some (j,want)=> ∃g d',gAt all ρ j want=some g/\d=.cond g d'/\lG d'=true/\(g=true->prP P ρ o.op d')
section
variable {P:Program} {nt:Nat} {ρ:aN}
theorem aXc {d:DV} (h:lG d=true):cK d=false:=by cases d<;>first|rfl|(cases h)
theorem bSn {ops:Array Oper} {o:Oper} {d:DV} {K:aN->Prop} (hg:o.guard=none) (ho:eJ nt o=true) (hd:jH nt o=true) (hi:cK d=false) (hdst:o.dst.isSome=true) (h:prP P ρ o.op d) (hK:K (cO ρ o.dst d)):OW P nt ops o K ρ:=by
 obtain⟨k,hk⟩:=nQ.1 hdst;have hkn:k<nt:=by unfold jH at hd;rw[hk] at hd;simpa using hd
 have gen:(∀t n parts,o.op≠ .buildSlice t n parts)->(vC P ρ o.op).1/\d=(vC P ρ o.op).2->OW P nt ops o K ρ:=fun _ h=>aDu hg ho hd h.1 (by rw[<- h.2];exact hK);cases hop:o.op with
 |call c=>
  obtain⟨cl,args,ts⟩:=c;rw[hop] at h;cases cl with
  |value f=>
   obtain⟨h1,h2,g,l,h3,h4,h5⟩:=h;refine bGs (t:=⟨⟩) hop hg hk hkn ho h1 ((bHq ρ _).1 h2) h3 h4 ⟨_,h5,?_⟩;rintro O' r ⟨rfl,rfl⟩;refine⟨?_,?_⟩
   ·intro h;rw[hi] at h;cases h
   rw[hk] at hK;unfold bSy;rw[if_neg (by simp[hi])];exact hK
  |_=>exact gen (by simp[hop]) (by rw[hop];exact h)
 |buildSlice t n parts=>
  rw[hop] at h;obtain⟨h1,rfl⟩:=h;simp only[eC] at h1 hK;unfold aJe at h1 hK;split at h1
  ·rename_i e z by_ hs;rw[hs] at hK;split at h1
   ·rename_i hn0;simp only[if_pos hn0] at hK;have h1:parts.toList=[]:=h1;obtain rfl:parts= #[]:=by apply aJm;simpa using h1
    subst hn0;exact cAl hop hg hk hd hs (by rw[hk] at hK;exact hK)
   rename_i hn0;simp only[if_neg hn0] at hK;obtain⟨q1,q2,q3,q4,q5,q6⟩:=h1;obtain⟨zs,hz⟩:=nQ.1 q1;rw[hk] at hK;exact bWc hop hg hk hkn ho hs hz q2 q3 q4 q5 q6 hK
  exact h1.elim
 |build t parts=>
  rw[hop] at h;obtain⟨h1,rfl⟩:=h;exact aYu hop hg ho hd h1 hK
 |makeSlice t x y=>
  rw[hop] at h;obtain⟨h1,rfl⟩:=h;simp only[eC] at h1 hK;unfold mkP at h1 hK;split at h1
  ·rename_i e z by_ k' n k'' c hs hx hy;split at h1
   ·rename_i zs hz;rw[hs,hx,hy] at hK;simp only[hz] at hK;obtain⟨q1,q2,q3,q4,q5⟩:=h1;rw[hk] at hK;exact cFt hop hg hk hkn ho hx hy hs hz q1 q2 q3 q4 q5 hK
   exact h1.elim
  exact h1.elim
 |_=>exact gen (by simp[hop]) (by rw[hop];rw[hop] at h;exact h)
def aMu (k:Nat) (op:Op):Prop:= ∀x∈op.operands,x≠ .tmp k
theorem iM {k:Nat} {u:DV} {x:Operand} (h:x≠ .tmp k):ev (set ρ k u) x=ev ρ x:=by
 cases x with
 |tmp t=>
  have:t≠k:=fun e=>h (by rw[e]);rw[aHm,aHm,aK,if_neg this]
 |_=>rfl
theorem aPs {ld:Option Nat} {off:Nat} {c:DV} (h:cK c=false):aRc ld off c=(False,.any):=by cases c<;>first|rfl|(cases h)
theorem aRn {ld:Option Nat} {z i off:Nat} {c:DV} (h:cK c=false):bGo ld z i off c=(False,.any):=by cases c<;>first|rfl|(cases h)
theorem bKz {k:Nat} {u:DV} (hu:cK u=false) (hk:cK (ρ k)=false) (ld:Option (Option Nat)) (d:DV):pM (set ρ k u) ld d=pM ρ ld d:=by
 unfold pM;cases ld with
 |none=>rfl
 |some ld=>
  cases d<;>try rfl
  ·rename_i s off;simp only[aK];split
   ·rename_i e;subst e;rw[aPs hu,aPs hk]
   rfl
  rename_i s z i off;simp only[aK];split
  ·rename_i e;subst e;rw[aRn hu,aRn hk]
  rfl
theorem bFo {k s:Nat} {u:DV} (hu:cK u=false) (hk:cK (ρ k)=false) (e:TypeId) (z:Nat) (xs:List (List DV)):(set ρ k u s=.row e z xs)=(ρ s=.row e z xs):=by
 rw[aK];split
 ·rename_i h;subst h;apply propext;constructor
  ·intro h;rw[h] at hu;cases hu
  intro h;rw[h] at hk;cases hk
 rfl
theorem bLs {k:Nat} {u:DV} (hu:cK u=false) (hk:cK (ρ k)=false) (el:Option (Option Nat×Nat)) (d i:DV):yE (set ρ k u) el d i=yE ρ el d i:=by
 unfold yE;simp only[bFo hu hk]
theorem bOu {k:Nat} {u:DV} (hu:cK u=false) (hk:cK (ρ k)=false) (el:Option (Option Nat×Nat)) (t:Nat) (d:DV) (lo hi:Option DV):aAm (set ρ k u) el t d lo hi=aAm ρ el t d lo hi:=by
 unfold aAm;simp only[bFo hu hk]
theorem aVe {k:Nat} {u:DV}: ∀{l:List Operand},(∀x∈l,x≠ .tmp k)->gdL (set ρ k u) l=gdL ρ l
 | [],_=>rfl
 |x::l,h=>by
  have h1:=iM (ρ:=ρ) (u:=u) (h x dH);have h2:=aVe (k:=k) (u:=u) (l:=l) fun y hy=>h y (by simp[hy]);simp only[gdL,h1,h2]
theorem bEy {k:Nat} {u:DV} {l:List Operand} (h: ∀x∈l,x≠ .tmp k):evL (set ρ k u) l=evL ρ l:=by
 unfold evL;apply zP;intro x hx;rw[iM (h x hx)]
theorem aOm {k z:Nat} {u:DV}: ∀{l:List (Nat×Operand)} {m:Nat},(∀p∈l,p.2≠ .tmp k)->aJf (set ρ k u) z m l=aJf ρ z m l
 | [],_,_=>rfl
 |p::l,m,h=>by
  have h1:=iM (ρ:=ρ) (u:=u) (h p dH);have h2:=aOm (z:=z) (k:=k) (u:=u) (l:=l) (m:=m+1) fun y hy=>h y (by simp[hy]);simp only[aJf,h1,h2]
theorem bEx {k:Nat} {u:DV} {l:List (Nat×Operand)} (h: ∀p∈l,p.2≠ .tmp k):bsL (set ρ k u) l=bsL ρ l:=by
 unfold bsL;apply zP;intro p hp;rw[iM (h p hp)]
theorem aHn {k:Nat} {t:TypeId} {u:DV}: ∀{l:List (Nat×Operand)} {cs:List DV},(∀p∈l,p.2≠ .tmp k)->qK P (set ρ k u) t l cs=qK P ρ t l cs
 | [],_,_=>rfl
 |p::l,cs,h=>by
  have h1:=iM (ρ:=ρ) (u:=u) (h p dH);have h2:=fun cs=>aHn (k:=k) (t:=t) (u:=u) (l:=l) (cs:=cs) fun y hy=>h y (by simp[hy]);unfold qK;simp only[h1,h2]
theorem aWb {k:Nat} {u:DV} {b:Builtin} {l:List Operand} {ts:List TypeId} (h: ∀x∈l,x≠ .tmp k):aFe P (set ρ k u) b l ts=aFe P ρ b l ts:=by
 unfold aFe;split
 ·rename_i x t;rw[iM (h x dH)]
 ·rename_i x y;rw[iM (h x dH),iM (h y dH)]
 ·rename_i x y;rw[iM (h x dH),iM (h y dH)]
 rfl
theorem bFk {k:Nat} {u:DV} (hu:cK u=false) (hk:cK (ρ k)=false) {op:Op} (h:aMu k op):eC P (set ρ k u) op=eC P ρ op:=by
 have hx: ∀x∈op.operands,ev (set ρ k u) x=ev ρ x:=fun x hx=>iM (h x hx);cases op with
 |buildSlice t n parts=>
  have hp: ∀p∈parts.toList,p.2≠ .tmp k:=fun p hp=>h p.2 (by simp[Op.operands];exact⟨p.1,by simpa using hp⟩);simp only[eC,aJe,aOm hp,bEx hp]
 |build t parts=>
  have hp: ∀p∈parts.toList,p.2≠ .tmp k:=fun p hp=>h p.2 (by simp[Op.operands];exact⟨p.1,by simpa using hp⟩);simp only[eC,uS,aHn hp]
 |makeSlice t x y=>simp only[eC,hx x (by simp[Op.operands]),hx y (by simp[Op.operands])]
 |move x=>simp only[eC,vC,hx x (by simp[Op.operands])]
 |assign x=>simp only[eC,vC,hx x (by simp[Op.operands])]
 |pick c a b=>simp only[eC,vC,hx c (by simp[Op.operands]),hx a (by simp[Op.operands]),hx b (by simp[Op.operands])]
 |load t x=>simp only[eC,vC,hx x (by simp[Op.operands]),bKz hu hk]
 |nilCheck x=>simp only[eC,vC,hx x (by simp[Op.operands])]
 |binOp op t x y t'=>simp only[eC,vC,hx x (by simp[Op.operands]),hx y (by simp[Op.operands])]
 |unOp op t x=>simp only[eC,vC,hx x (by simp[Op.operands])]
 |convert s t x=>simp only[eC,vC,hx x (by simp[Op.operands])]
 |fieldAddr s x f=>simp only[eC,vC,hx x (by simp[Op.operands])]
 |field s x f=>simp only[eC,vC,hx x (by simp[Op.operands])]
 |indexAddr t x i=>simp only[eC,vC,hx x (by simp[Op.operands]),hx i (by simp[Op.operands]),bLs hu hk]
 |index t x i=>simp only[eC,vC,hx x (by simp[Op.operands]),hx i (by simp[Op.operands])]
 |slice t x lo hi mx=>
  cases mx with
  |some m=>rfl
  |none=>
   have hlo:lo.map (fun y=>un (ev (set ρ k u) y))=lo.map fun y=>un (ev ρ y):=by
    cases lo with
    |none=>rfl
    |some y=>simp[hx y (by simp[Op.operands])]
   have hhi:hi.map (fun y=>un (ev (set ρ k u) y))=hi.map fun y=>un (ev ρ y):=by
    cases hi with
    |none=>rfl
    |some y=>simp[hx y (by simp[Op.operands])]
   have glo:(∀y∈lo,gd (ev (set ρ k u) y))= ∀y∈lo,gd (ev ρ y):=by
    cases lo with
    |none=>simp
    |some y=>simp[hx y (by simp[Op.operands])]
   have ghi:(∀y∈hi,gd (ev (set ρ k u) y))= ∀y∈hi,gd (ev ρ y):=by
    cases hi with
    |none=>simp
    |some y=>simp[hx y (by simp[Op.operands])]
   simp only[eC,vC,hx x (by simp[Op.operands]),hlo,hhi,glo,ghi,bOu hu hk]
 |extract x i=>simp only[eC,vC,hx x (by simp[Op.operands])]
 |makeFunc fn first captured=>
  cases fn with
  |func f=>
   have h1: ∀x∈first.toList,ev (set ρ k u) x=ev ρ x:=fun x hx'=>hx x (by simp[Op.operands];exact .inl (by simpa using hx'))
   have h2: ∀x∈captured.toList,ev (set ρ k u) x=ev ρ x:=fun x hx'=>hx x (by simp[Op.operands];exact .inr (by simpa using hx'));have e1:(first.toList.map fun x=>un (ev (set ρ k u) x))=first.toList.map fun x=>un (ev ρ x):=zP fun x hx'=>by rw[h1 x hx']
   have e2:(captured.toList.map fun x=>un (ev (set ρ k u) x))=captured.toList.map fun x=>un (ev ρ x):=zP fun x hx'=>by rw[h2 x hx']
   have g1:(∀x∈first.toList,gd (ev (set ρ k u) x))= ∀x∈first.toList,gd (ev ρ x):=propext ⟨fun g x hx'=>by rw[<- h1 x hx'];exact g x hx',fun g x hx'=>by rw[h1 x hx'];exact g x hx'⟩
   have g2:(∀x∈captured.toList,gd (ev (set ρ k u) x))= ∀x∈captured.toList,gd (ev ρ x):=propext ⟨fun g x hx'=>by rw[<- h2 x hx'];exact g x hx',fun g x hx'=>by rw[h2 x hx'];exact g x hx'⟩;simp only[eC,vC,fnP,e1,e2,g1,g2]
  |_=>rfl
 |call c=>
  obtain⟨cl,args,ts⟩:=c;cases cl with
  |builtin b=>
   have hb: ∀x∈args.toList,x≠ .tmp k:=fun x hx'=>h x (by simp[Op.operands,Call.operands];simpa using hx');simp only[eC,vC,bHc,aWb hb]
  |_=>rfl
 |_=>rfl
theorem aZ.set {k:Nat} {u:DV} (hu:cK u=false) (hk:cK (ρ k)=false) {f:FuncId} {l:List DV} {d:DV} (h:aZ P ρ f l d):aZ P (Sg.set ρ k u) f l d:=by
 have key: ∀w I A,jI w I A (Sg.set ρ k u)↔jI w I A ρ:=fun w I A=>by
  have: ∀s,fW w I A s (Sg.set ρ k u s)↔fW w I A s (ρ s):=fun s=>by
   rw[aK];split
   ·rename_i e;subst e;exact⟨fun _=>.ofPure hk,fun _=>.ofPure hu⟩
   exact Iff.rfl
  exact⟨fun h=>⟨fun s=>(this s).1 (h.own s),h.inj,h.sep,h.imm⟩,fun h=>⟨fun s=>(this s).2 (h.own s),h.inj,h.sep,h.imm⟩⟩
 intro w I A vals h1 h2 h3;refine (h w I A vals ((key w I A).1 h1) h2 h3).mono ?_;rintro e w' ⟨v,I',O',r,k1,k2,k3,k4,k5,k6,rfl,rfl⟩;exact⟨v,I',_,r,k1,(key w' I' A).2 k2,fun s=>fR.refl _,fun s h=>h,k5,k6,rfl,rfl⟩
theorem aMh {k:Nat} {u:DV}:Sg.set (Sg.set ρ k u) k (ρ k)=ρ:=by
 funext i;rw[aK,aK];split
 ·rename_i e;rw[e]
 rfl
theorem bHp {k:Nat} {u:DV} (hu:cK u=false) (hk:cK (ρ k)=false) {op:Op} {d:DV} (h:aMu k op) (hp:prP P ρ op d):prP P (set ρ k u) op d:=by
 have gen:(eC P ρ op).1/\d=(eC P ρ op).2->(eC P (set ρ k u) op).1/\d=(eC P (set ρ k u) op).2:=by rw[bFk hu hk h];exact id
 cases op with
 |call c=>
  obtain⟨cl,args,ts⟩:=c;cases cl with
  |value f=>
   obtain⟨h1,h2,g,l,h3,h4,h5⟩:=hp;have hf:ev (set ρ k u) f=ev ρ f:=iM (h f (by simp[Op.operands,Call.operands]));have ha: ∀x∈args.toList,x≠ .tmp k:=fun x hx=>h x (by simp[Op.operands,Call.operands];exact .inr (by simpa using hx));refine⟨by rw[hf];exact h1,by rw[aVe ha];exact h2,g,l,by rw[hf,bEy ha];exact h3,h4,h5.set hu hk⟩
  |_=>exact gen hp
 |_=>exact gen hp
theorem bFe {all:List Oper} {k j:Nat} {want:Bool} {u:DV} (h: ∀o,all[j]?=some o->o.dst≠some k):gAt all (set ρ k u) j want=gAt all ρ j want:=by
 unfold gAt;cases ho:all[j]? with
 |none=>rfl
 |some o=>
  simp only;cases hd:o.dst with
  |none=>rfl
  |some d=>
   have:d≠k:=fun e=>h o ho (by rw[hd,e]);simp only[aK,if_neg this]
theorem wL {l:List Oper} {o:Oper} {d:DV} {K:aN->Prop} (hall:l.all (jH nt)=true) (ho:eJ nt o=true) (hd:jH nt o=true) (hdst:o.dst.isSome=true) (h:uY P l ρ o d) (hK:K (cO ρ o.dst d)):OW P nt l.toArray o K ρ:=by
 obtain⟨h1,h2,h3⟩:=h;cases hg:o.guard with
 |none=>rw[hg] at h3;exact bSn hg ho hd h1 hdst h3 hK
 |some jw=>
  obtain⟨j,want⟩:=jw;rw[hg] at h3;obtain⟨g,d',k1,rfl,k3,k4⟩:=h3;obtain⟨k,hk⟩:=nQ.1 hdst;have hkn:k<nt:=by unfold jH at hd;rw[hk] at hd;simpa using hd
  intro ro ds I A a w hs hdf next Q' hn
  rw[bJd hs hg hall k1];cases g with
  |true=>
   rw[if_pos rfl]
   have:=bSn (P:=P) (nt:=nt) (ρ:=ρ) (ops:=l.toArray) (o:={o with guard:=none}) (d:=d') (K:=fun ρ'=>ρ'=cO ρ o.dst d') rfl ho hd (aXc k3) hdst (k4 rfl) rfl ro ds I A a w hs hdf next Q'
    (fun I' A' a' w' ρ' q1 q2 q3 q4=>by
     subst q4;refine hn I' A' a' w' (cO ρ o.dst (.cond true d')) ?_ q2 q3 hK;rw[hk] at q1 ⊢;refine⟨⟨fun s=>?_,q1.osim.inj,q1.osim.sep,q1.osim.imm⟩,q1.size,q1.bound,fun i hi=>?_,fun s hs'=>?_⟩
     ·have:=q1.osim.own s;simp only[dE,aK] at this ⊢;split
      ·trivial
      rename_i e;rw[if_neg e] at this;exact this
     ·have:=q1.slot i hi;simp only[dE,aK] at this ⊢;split
      ·rename_i e;rw[if_pos e] at this;refine⟨fun _=>?_,fun h=>by cases h⟩;exact eU.rel this k3
      rename_i e;rw[if_neg e] at this;exact this
     have:=q1.out s hs';simp only[dE,aK] at this ⊢;split
     ·rename_i e;exact absurd (eE hkn q1.bound) (by rw[<- e];exact Nat.not_lt.2 hs')
     rename_i e;rw[if_neg e] at this;exact this)
   rw[if_pos (by simp[Region.wanted])] at this;exact this
  |false=>
   rw[if_neg dH];rw[hk];exact⟨fun _ _=>trivial,hn I A _ w _ (hs.put (v:=.cond false d') hkn ⟨(fun h=>by cases h),fun _=>rfl⟩ trivial) (by rw[gT];exact hdf) (f8.refl _ _ _) (by rw[hk] at hK;exact hK)⟩
theorem pY {ops:Array Oper} {o:Oper} {k:Nat} (h:k∉o.looksAt ops):aMu k o.op:=fun x hx e=>by
 subst e;apply h;unfold Oper.looksAt;simp only[iV,List.mem_filterMap];exact .inl ⟨.tmp k,by simpa using hx,rfl⟩
theorem aIm {l:List Oper} {o:Oper} {k j:Nat} {want:Bool} (h:k∉o.looksAt l.toArray) (hg:o.guard=some (j,want)): ∀q,l[j]?=some q->q.dst≠some k:=fun q hq e=>by
 apply h;unfold Oper.looksAt;simp only[hg,iV];refine .inr ?_;simp[hq,e]
theorem aEj {l:List Oper} {o:Oper} {d u:DV} {k:Nat} (hu:cK u=false) (hk:cK (ρ k)=false) (hl:k∉o.looksAt l.toArray) (hne:o.dst≠some k) (h:uY P l ρ o d):uY P l (set ρ k u) o d:=by
 obtain⟨h1,h2,h3⟩:=h;refine⟨h1,fun m hm=>?_,?_⟩
 ·have:m≠k:=fun e=>hne (by rw[hm,e]);rw[aK,if_neg this];exact h2 m hm
 cases hg:o.guard with
 |none=>rw[hg] at h3;exact bHp hu hk (pY hl) h3
 |some jw=>
  obtain⟨j,want⟩:=jw;rw[hg] at h3;obtain⟨g,d',k1,k2,k3,k4⟩:=h3;exact⟨g,d',by rw[bFe (aIm hl hg)];exact k1,k2,k3,fun hgt=>bHp hu hk (pY hl) (k4 hgt)⟩
def sE (P:Program) (nt:Nat) (l:List Oper) (i:Nat) (K:aN->Prop) (ρ:aN):Prop:=
 match l[i]? with
 |none=>K ρ
 |some o=>if iJ o.op&&o.dst.isSome then ∃d,uY P l ρ o d/\K (cO ρ o.dst d) else OW P nt l.toArray o K ρ
theorem bWt {l:List Oper} {i:Nat} {K K':aN->Prop} (h: ∀ρ,K ρ->K' ρ) (hh:sE P nt l i K ρ):sE P nt l i K' ρ:=by
 unfold sE at*;split
 ·rename_i hi;rw[hi] at hh;exact h _ hh
 rename_i o hi;rw[hi] at hh;simp only at hh;split
 ·rename_i hp;rw[if_pos hp] at hh;obtain⟨d,h1,h2⟩:=hh;exact⟨d,h1,h _ h2⟩
 rename_i hp;rw[if_neg hp] at hh;exact hh.mono h
def aSf (P:Program) (nt:Nat) (l:List Oper) (k:aN->Prop):Nat->Array Bool->aN->Prop
 |0,listed,ρ=>Region.ready .any l.toArray listed=[]/\k ρ
 |fuel+1,listed,ρ=>(Region.ready .any l.toArray listed=[]->k ρ)/\ ∀i∈Region.ready .any l.toArray listed,sE P nt l i (aSf P nt l k fuel (listed.setIfInBounds i true)) ρ
def sK (nt:Nat) (l:List Oper):Bool:=l.all fun o=>eJ nt o&&jH nt o
theorem qL {l:List Oper} (h:sK nt l=true):l.all (jH nt)=true:=by
 unfold sK at h;rw[dI] at h ⊢;exact fun o ho=>by have:=h o ho;simp at this;exact this.2
theorem mQ {l:List Oper} (h:sK nt l=true) {i:Nat} {o:Oper} (hi:l[i]?=some o):eJ nt o=true/\jH nt o=true:=by
 unfold sK at h;rw[dI] at h;have:=h o (pP hi);simpa using this
theorem aGs {ro:Option Nat} {ds:List Deferred} {l:List Oper} {k:aN->Prop} {Q':Exit->Act->World->Prop} (hr:sK nt l=true): ∀(fuel:Nat) (listed:Array Bool) (ρ:aN) (I:Nat->Prop) (A:dD) (a:Act) (w:World),
  aSf P nt l k fuel listed ρ->dB nt w I A ρ a->a.defers=ds->
  (∀I' A' a' w' ρ',dB nt w' I' A' ρ' a'->a'.defers=ds->f8 w I A w' I' A'->k ρ'->Q' .normal a' w')->wpAnyIn (FR ro) 0 P .any l.toArray Q' fuel listed a w
 |0,listed,ρ,I,A,a,w,h,hs,hd,hk=>⟨h.1,hk I A a w ρ hs hd (f8.refl _ _ _) h.2⟩
 |fuel+1,listed,ρ,I,A,a,w,h,hs,hd,hk=>by
  refine⟨fun h0=>hk I A a w ρ hs hd (f8.refl _ _ _) (h.1 h0),fun i hi=>?_⟩;have h2:=h.2 i hi;have rec_: ∀I' A' a' w' ρ',dB nt w' I' A' ρ' a'->a'.defers=ds->f8 w I A w' I' A'->aSf P nt l k fuel (listed.setIfInBounds i true) ρ'->wpAnyIn (FR ro) 0 P .any l.toArray Q' fuel (listed.setIfInBounds i true) a' w':=
   fun I' A' a' w' ρ' q1 q2 q3 q4=>aGs hr fuel _ ρ' I' A' a' w' q4 q1 q2 fun I2 A2 a2 w2 ρ2 k1 k2 k3 k4=>hk I2 A2 a2 w2 ρ2 k1 k2 (q3.trans k3) k4
  unfold wpOpIn;unfold sE at h2;simp only[xR];split
  ·rename_i ho;rw[ho] at h2;exact rec_ I A a w ρ hs hd (f8.refl _ _ _) h2
  rename_i o ho;rw[ho] at h2;have hOW:OW P nt l.toArray o (aSf P nt l k fuel (listed.setIfInBounds i true)) ρ:=by
   simp only at h2;split at h2
   ·rename_i hp;obtain⟨d,k1,k2⟩:=h2;simp only[cD] at hp;exact wL (qL hr) (mQ hr ho).1 (mQ hr ho).2 hp.2 k1 k2
   exact h2
  have:=hOW ro ds I A a w hs hd (wpAnyIn (FR ro) 0 P .any l.toArray Q' fuel (listed.setIfInBounds i true)) Q' rec_;split at this
  ·rename_i hw;rw[if_pos hw];exact this
  rename_i hw;rw[if_neg hw];exact this
theorem cHg {l:List Oper} {j:Nat} {oi oj:Oper} {d:DV} (hj:l[j]?=some oj) (hpj:(iJ oj.op&&oj.dst.isSome)=true) {ki:Nat} (hki:oi.dst=some ki) (hap:oi.apart l.toArray oj=true) {K:aN->Prop}
  (hy:uY P l ρ oi d) (h:sE P nt l j K (cO ρ oi.dst d)):sE P nt l j (fun ρ'=>uY P l ρ' oi d/\K (cO ρ' oi.dst d)) ρ:=by
 obtain⟨h1,h2,h3⟩:=Oper.apart_spec hap;unfold sE at h ⊢;rw[hj] at h ⊢;simp only[hpj,if_true] at h ⊢;obtain⟨u,k1,k2⟩:=h;simp only[cD] at hpj;obtain⟨kj,hkj⟩:=nQ.1 hpj.2;have hne:kj≠ki:=fun e=>h2 ki hki (by rw[hkj,e]);have hdi:cK d=false:=hy.1;have hui:cK u=false:=k1.1;have hρi:cK (ρ ki)=false:=hy.2.1 ki hki;have hρj:cK (ρ kj)=false:=by
  have:=k1.2.1 kj hkj;rw[hki,dE,aK,if_neg hne] at this;exact this
 refine⟨u,?_,?_,?_⟩
 ·have:=aEj (ρ:=cO ρ oi.dst d) (k:=ki) (u:=ρ ki) hρi (by rw[hki,dE,aK,if_pos rfl];exact hdi) (h1 ki hki) (fun e=>hne (by rw[hkj] at e;cases e;rfl)) k1;rw[hki,dE,aMh] at this;exact this
 ·rw[hkj,dE];exact aEj hui hρj (h3 kj hkj) (fun e=>hne (by rw[hki] at e;cases e;rfl)) hy
 rw[hki,hkj] at k2;rw[hki,hkj];have:cO (cO ρ (some kj) u) (some ki) d=cO (cO ρ (some ki) d) (some kj) u:=by
  funext i;simp only[dE,aK];by_cases e1:i=ki
  ·rw[if_pos e1,if_neg (by rw[e1];exact fun e=>hne e.symm),if_pos e1]
  simp only[if_neg e1]
 rw[this];exact k2
def bPl (l:List Oper) (listed:Array Bool) (i:Nat):Bool:=
 match l[i]? with
 |none=>false
 |some oi=>iJ oi.op&&oi.dst.isSome&&(List.range l.length).all fun j=>
  j==i||listed.getD j true||match l[j]? with
   |none=>true
   |some oj=>oj.after.any (fun e=>Region.binds .any e&&e.on==i)||(iJ oj.op&&oj.dst.isSome&&oi.apart l.toArray oj)
def aSs (l:List Oper):Nat->Nat->Array Bool->Bool
 |0,_,listed=>(Region.ready .any l.toArray listed).isEmpty
 |fuel+1,i,listed=>((Region.ready .any l.toArray listed).contains i&&bPl l listed i||Region.ready .any l.toArray listed==[i])&&aSs l fuel (i+1) (listed.setIfInBounds i true)
theorem bBq {l:List Oper} {k:aN->Prop} {i:Nat} {oi:Oper} {d:DV} (hi:l[i]?=some oi) (hpi:(iJ oi.op&&oi.dst.isSome)=true):
  ∀(fuel:Nat) (listed:Array Bool) (ρ:aN),
   (∀j oj,l[j]?=some oj->j≠i->listed.getD j true=false->(∀e∈oj.after,Region.binds .any e=true->e.on≠i)->(iJ oj.op&&oj.dst.isSome)=true/\oi.apart l.toArray oj=true)->
   i∈Region.ready .any l.toArray listed->uY P l ρ oi d->aSf P nt l k fuel (listed.setIfInBounds i true) (cO ρ oi.dst d)->aSf P nt l k (fuel+1) listed ρ:=by
 obtain⟨ki,hki⟩:=nQ.1 (by simp only[cD] at hpi;exact hpi.2);have take: ∀{K:aN->Prop} {ρ:aN},uY P l ρ oi d->K (cO ρ oi.dst d)->sE P nt l i K ρ:=fun h1 h2=>by
  unfold sE;rw[hi];simp only[hpi,if_true];exact⟨d,h1,h2⟩
 intro fuel
 induction fuel with
 |zero=>
  intro listed ρ _ hr hy H;refine⟨fun h=>(by rw[h] at hr;cases hr),fun j hj=>?_⟩;by_cases hji:j=i
  ·subst hji;exact take hy H
  have:=ready_mono hj hji;rw[H.1] at this;cases this
 |succ fuel ih=>
  intro listed ρ hfree hr hy H;refine⟨fun h=>(by rw[h] at hr;cases hr),fun j hj=>?_⟩;by_cases hji:j=i
  ·subst hji;exact take hy H
  have h1:=H.2 j (ready_mono hj hji);obtain⟨hjun,oj,hoj,hall⟩:=mem_ready.1 hj;have hoj':l[j]?=some oj:=by simpa using hoj
  have hnot: ∀e∈oj.after,Region.binds .any e=true->e.on≠i:=fun e he hb heq=>by
   have h1:=hall e he hb;have h0:=(mem_ready.1 hr).1;rw[heq] at h1;rcases b9 i listed.size with h'|h'
   ·simp[h'] at h0 h1;rw[h0] at h1;cases h1
   simp[aJt h'] at h1
  obtain⟨hpj,hap⟩:=hfree j oj hoj' hji hjun hnot;have h2:=cHg hoj' hpj hki hap hy h1;have hfree': ∀m om,l[m]?=some om->m≠i->(listed.setIfInBounds j true).getD m true=false->(∀e∈om.after,Region.binds .any e=true->e.on≠i)->(iJ om.op&&om.dst.isSome)=true/\oi.apart l.toArray om=true:=fun m om hm hmi hun hno=>by
   refine hfree m om hm hmi ?_ hno;by_cases hjm:j=m
   ·subst hjm;exact hjun
   rw[getD_set_ne true hjm] at hun;exact hun
  refine bWt (fun ρ' h3=>ih (listed.setIfInBounds j true) ρ' hfree' (ready_mono hr (fC hji)) h3.1 ?_) h2;rw[bPk _ _ hji];exact h3.2
def aXo (P:Program) (nt:Nat) (l:List Oper) (k:aN->Prop):List Oper->aN->Prop
 | [],ρ=>k ρ
 |o::os,ρ=>if iJ o.op&&o.dst.isSome then ∃d,uY P l ρ o d/\aXo P nt l k os (cO ρ o.dst d) else OW P nt l.toArray o (aXo P nt l k os) ρ
theorem bAa {l:List Oper} {listed:Array Bool} {i:Nat} {oi:Oper} (hi:l[i]?=some oi) (h:bPl l listed i=true):(iJ oi.op&&oi.dst.isSome)=true/\
  ∀j oj,l[j]?=some oj->j≠i->listed.getD j true=false->(∀e∈oj.after,Region.binds .any e=true->e.on≠i)->(iJ oj.op&&oj.dst.isSome)=true/\oi.apart l.toArray oj=true:=by
 unfold bPl at h;rw[hi] at h;simp only[cD,dI,gU,pQ,mV] at h;obtain⟨h1,h2⟩:=h;refine⟨by simpa using h1,fun j oj hj hne hun hno=>?_⟩;have hlt:j<l.length:=by
  rcases b9 j l.length with h|h
  ·exact h
  rw[fN h] at hj;cases hj
 rcases h2 j hlt with (h3|h3)|h3
 ·exact absurd h3 hne
 ·rw[hun] at h3;cases h3
 rw[hj] at h3;simp only[pQ,Array.any_eq_true',cD,mV] at h3;rcases h3 with ⟨e,he,hb,hon⟩|h3
 ·exact absurd hon (hno e he hb)
 exact⟨by simpa using h3.1,h3.2⟩
theorem aFk {l:List Oper} {k:aN->Prop}: ∀(r:List Oper) (i:Nat) (listed:Array Bool) (ρ:aN),(∀j,r[j]?=l[i+j]?)->aSs l r.length i listed=true->aXo P nt l k r ρ->aSf P nt l k r.length listed ρ
 | [],_,_,_,_,hB,h=>⟨by simpa[aSs] using hB,h⟩
 |o::r,i,listed,ρ,hl,hB,h=>by
  have h0:l[i]?=some o:=by simpa using (hl 0).symm
  have hl': ∀j,r[j]?=l[i+1+j]?:=fun j=>by have:=hl (j+1);simpa[yU,Nat.add_comm 1 j] using this
  simp only[qH,aSs,cD,pQ] at hB;obtain⟨hB1,hB2⟩:=hB;rcases hB1 with ⟨hr,hf⟩|hone
  ·obtain⟨hp,hfree⟩:=bAa h0 hf;unfold aXo at h;rw[if_pos hp] at h;obtain⟨d,k1,k2⟩:=h;exact bBq h0 hp r.length listed ρ hfree (by simpa using hr) k1 (aFk r (i+1) _ _ hl' hB2 k2)
  have hone:Region.ready .any l.toArray listed=[i]:=by simpa using hone
  refine⟨fun h=>(by rw[hone] at h;cases h),fun j hj=>?_⟩;rw[hone] at hj;obtain rfl:j=i:=by simpa using hj
  unfold sE;rw[h0];unfold aXo at h;simp only;split
  ·rename_i hp;rw[if_pos hp] at h;obtain⟨d,k1,k2⟩:=h;exact⟨d,k1,aFk r (j+1) _ _ hl' hB2 k2⟩
  rename_i hp;rw[if_neg hp] at h;exact h.mono fun ρ' h'=>aFk r (j+1) _ _ hl' hB2 h'
theorem cBx {id:Nat} {l:List Oper} {Q:Exit->aN->Prop} (hm:P.follows .mixedOrders=true) (hr:sK nt l=true) (hB:aSs l l.length 0 (Array.replicate l.length false)=true)
  (h:aXo P nt l (Q .normal) l ρ):AW P nt (.region id l.toArray true) Q ρ:=by
 intro ro ds I A a w hs hd;refine wpIn_region_any hm ?_;have h1:=aFk (P:=P) (nt:=nt) l 0 (Array.replicate l.length false) ρ dH hB h;have hgr:oT w I w.drew I:=⟨rfl,⟨rfl,xJ _⟩,rfl,bW _,fun _ _=>rfl,fun _ h=>h,fun _ h=>.inl h⟩
 have:=aGs (ro:=ro) (Q':=fun e a' w'=> ∃I' A' ρ',dB nt w' I' A' ρ' a'/\a'.defers=ds/\f8 w I A w' I' A'/\Q e ρ') hr _ _ ρ I A a w.drew h1 (hs.grow hgr) hd
  fun I' A' a' w' ρ' q1 q2 q3 q4=>⟨I',A',ρ',q1,q2,(hgr.ext hs.osim).trans q3,q4⟩
 simpa using this
end
end Go.Sg
