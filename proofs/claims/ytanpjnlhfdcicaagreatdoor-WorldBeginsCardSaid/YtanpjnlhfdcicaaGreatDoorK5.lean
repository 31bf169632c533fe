/- Several texts as one. -/
import Derived.Test.YtanpjnlhfdcicaaGreatDoorK4
import Derived.DeepKeys4
import Derived.Laws.RangeAny
import Derived.Lib.SlicesCompact
import Derived.LoopN
import Derived.Sort.Grow
set_option linter.unusedSectionVars false
set_option linter.unusedVariables false
set_option linter.unusedSimpArgs false
set_option maxRecDepth 20000
set_option maxHeartbeats 16000000
namespace Go.Sg
open Go.RowKit
structure aUt (w w':World) (g:Nat) (e:TypeId) (us:Array Value):Prop where
 os:w'.os=w.os
 tape:w'.tape=w.tape∧w.drawn≤w'.drawn
 output:w'.output=w.output
 size:w.heap.size≤w'.heap.size
 here:w'.heap[g]?=some (.cells us e (0,0))
 other: ∀k,k<w.heap.size→k≠g→w'.heap[k]?=w.heap[k]?
theorem aNt {P:Program} {f:FuncId} {O:aN} {s:Nat} {e:TypeId} {l l':List Int} (hs:O s=rowL e 1 eI l) (hlen:l'.length=l.length) (r:DV) (rv:Option Addr→Nat→Value) (hown:cK r=false)
  (hr: ∀w I A B c b,A s=some (B,c)→mU B b→bP w I A r (rv b c))
  (H0:l=[]→ ∀b c w,Calls P f #[.slice b 0 c] w fun x w'=>x=.returned (rv b c)∧w'=w)
  (H: ∀w g c us,w.heap[g]?=some (.cells us e (0,0))→us.size=c→l.length≤c→c≤maxLen→0<l.length→(∀i,i<l.length→us[i]?=some (.int .i64 (l.getD i 0)))→
   Calls P f #[.slice (some ⟨g,0,none⟩) l.length c] w fun x w'=>x=.returned (rv (some ⟨g,0,none⟩) c)∧ ∃us',aUt w w' g e us'∧us'.size=us.size∧ ∀i,i<l'.length→us'[i]?=some (.int .i64 (l'.getD i 0))):
  iC P O f [.own s l.length] fun O' x=>O'=set O s (rowL e 1 eI l')∧x=r:=by
 intro w I A vals hO hl hv;obtain ⟨x,rfl⟩: ∃x,vals= #[x]:=by
  rcases vals with ⟨_|⟨x,_|⟨y,ys⟩⟩⟩
  ·simp at hl
  ·exact ⟨x,rfl⟩
  simp at hl
 have hx:=hv 0 _ x rfl rfl;cases hx with
 |own _ _ _ B c b hA hb=>
  have ho:=hO.own s;rw[hs] at ho;obtain ⟨B',c',q1,q2⟩:=ho;rw[hA] at q1;simp only[bX,cF] at q1;obtain ⟨rfl,rfl⟩:=q1;have hfr: ∀t,fR (O t) (set O s (rowL e 1 eI l') t):=fun t=>by
   rw[aK];split
   ·rename_i h;subst h;rw[hs];exact ⟨rfl,rfl,by simp[hlen]⟩
   exact fR.refl _
  have hout: ∀t,cX (O t)→cX (set O s (rowL e 1 eI l') t):=fun t ht=>by
   rw[aK];split
   ·rfl
   exact ht
  have hres: ∀w' I',qA w w' I' A r (rv b c):=fun w' I'=>by
   have:=hr w' I' A B c b hA hb;cases r<;>first|exact this|cases hown
  rcases nL l.length with h0|h0
  ·obtain rfl:l=[]:=nN h0;obtain rfl:l'=[]:=nN (by simpa using hlen);refine (H0 rfl _ _ w).mono fun _ w' ⟨k1,k2⟩=>?_;subst k2;refine ⟨_,I,set O s (rowL e 1 eI []),r,k1,⟨fun t=>?_,hO.inj,hO.sep,hO.imm⟩,hfr,hout,f8.refl _ _ _,hres _ _,rfl,rfl⟩;rw[aK];split
   ·rename_i h;subst h;have:=hO.own t;rw[hs] at this;exact this
   exact hO.own t
  cases B with
  |none=>
   have:=q2.1;have:(List.map eI l).length=0:=by rw[this];rfl
   simp at this;subst this;simp at h0
  |some g=>
   obtain rfl:=iX hb;obtain ⟨us,p1,p2,p3,p4,p5⟩:=q2;have hcont: ∀i,i<l.length→us[i]?=some (.int .i64 (l.getD i 0)):=fun i hi=>by
    have h1:(l.map eI)[i]?=some (eI (l.getD i 0)):=by simp[cH hi]
    have hb:i*1+0<us.size:=by simp at p4;omega
    have:=((p5 i _ h1).2 0 _ _ rfl (iY hb)).2;rw[show us[i]?=some (us[i*1+0]'hb) by rw[← iY hb];simp];generalize us[i*1+0]'hb=u at this;cases this;rfl
   refine (H w g c us p1 aV (by simpa using p4) p3 h0 hcont).mono fun _ w' ⟨k1,us',k2,k3,k4⟩=>?_;obtain ⟨hgs,hgI⟩:=hO.sep s g c hA;have hrel: ∀B d x,bP w I B d x→bP w' I B d x:=fun B d x h=>h.mono fun k hk=>⟨hk,fun o=>eD (k2.other k (hO.imm k hk) fun e=>hgI (e▸hk)) o⟩;refine ⟨_,I,set O s (rowL e 1 eI l'),r,k1,⟨fun t=>?_,hO.inj,fun t k c' h=>⟨eE (hO.sep t k c' h).1 k2.size,(hO.sep t k c' h).2⟩,hO.imm.step (fun k hk=>eE (hO.imm k hk) k2.size) fun k hk=>⟨hk,k2.other k (hO.imm k hk) fun e=>hgI (e▸hk)⟩⟩,hfr,hout,
    ⟨k2.os,k2.tape,k2.output,k2.size,fun _ h=>h,fun k hk h=>⟨k2.other k hk fun e=>h s c (e▸hA),fun h=>h,h⟩,fun t k c' h _ ht=>⟨t,c',ht,h⟩,fun _ _=>rfl⟩,hres _ _,rfl,rfl⟩
   rw[aK];split
   ·rename_i h;subst h;refine ⟨some g,c,hA,us',k2.here,by omega,p3,by simp at p4 ⊢;omega,fun i y hy=>?_⟩;rw[dG] at hy;cases hi:l'[i]? with
    |none=>rw[hi] at hy;cases hy
    |some a=>
     rw[hi] at hy;cases hy;have hlt:i<l'.length:=(oJ.1 hi).1;refine ⟨rfl,fun j d u hd hu=>?_⟩;cases j with
     |zero=>
      cases hd;have:=k4 i hlt;rw[show i*1+0=i by omega,this] at hu;cases hu;rw[cA,hi];exact ⟨rfl,.v _ _⟩
     |succ j=>simp[eI] at hd
   rename_i hne;refine (hO.own t).keep (fun k c' h=>k2.other k (hO.sep t k c' h).1 fun e=>hne (hO.inj t s g c' c (e▸h) hA)) hrel
theorem aDx {off:Nat} (l:List Int) (c:Array Value) {i:Nat} (hi:i<l.length) (hc:i<c.size):(Sort.putCells (Value.int .i64) 0 l.toArray c)[i]?=some (.int .i64 (l.getD i 0)):=by
 unfold Sort.putCells;rw[Array.getElem?_mapIdx,iY hc,gG,if_pos ⟨nJ _,by simpa using hi⟩];simp[cA,cH hi,rU,hi]
theorem aLz {w:World} {g:Nat} {us:Array Value} {e:TypeId} (h:w.heap[g]?=some (.cells us e (0,0))) (n:Nat) (l:List Int) (os:Array Obj):
  aUt w (Sort.grow (Sort.putRow (Value.int .i64) (Sort.ahead w n) g 0 l.toArray) os) g e (Sort.putCells (Value.int .i64) 0 l.toArray us):=by
 have hg:g<w.heap.size:=(aZy.1 h).1;have hsz:(w.heap.modify g (Sort.onCells (Sort.putCells (Value.int .i64) 0 l.toArray))).size=w.heap.size:=by simp
 have hh: ∀k,k<w.heap.size→(Sort.grow (Sort.putRow (Value.int .i64) (Sort.ahead w n) g 0 l.toArray) os).heap[k]?=(w.heap.modify g (Sort.onCells (Sort.putCells (Value.int .i64) 0 l.toArray)))[k]?:=fun k hk=>by
  show (w.heap.modify g (Sort.onCells (Sort.putCells (Value.int .i64) 0 l.toArray))++os)[k]?=_;rw[Array.getElem?_append_left (by rw[hsz];exact hk)]
 refine ⟨rfl,⟨rfl,Nat.le_add_right _ _⟩,rfl,by simp[Sort.ahead],?_,fun k hk hne=>?_⟩
 ·rw[hh g hg,Array.getElem?_modify,if_pos rfl,h];rfl
 rw[hh k hk,Array.getElem?_modify,if_neg (fC hne)]
theorem aQe {w:World} {g:Nat} {us:Array Value} {e:TypeId} (h:w.heap[g]?=some (.cells us e (0,0))) (o:Nat):w.cell? ⟨g,o,none⟩=us[o]?∧w.frozen? ⟨g,o,none⟩=false:=by
 constructor
 ·unfold World.cell?;rw[h];rfl
 unfold World.frozen?;rw[h];simp
theorem aXx {w:World} {g c:Nat} {us:Array Value} {e:TypeId} {l:List Int} (h:w.heap[g]?=some (.cells us e (0,0))) (hc: ∀i,i<l.length→us[i]?=some (.int .i64 (l.getD i 0))):Sort.Holds (Value.int .i64) w g 0 l.toArray:=fun j hj=>by
 have hj':j<l.length:=by simpa using hj
 obtain ⟨k1,k2⟩:=aQe h (0+j);refine ⟨?_,k2⟩;rw[k1,gH,hc j hj'];simp[cA,cH hj',rU,hj']
abbrev srt (l:List Int):List Int:=l.mergeSort fun x y=>decide (x≤y)
theorem aCd {P:Program} {f:FuncId} {O:aN} {s:Nat} {e:TypeId} {l:List Int} (hs:O s=rowL e 1 eI l)
  (H0: ∀b c w,Calls P f #[.slice b 0 c] w fun x w'=>x=.returned (.tuple #[])∧w'=w)
  (H: ∀(blk off cap:Nat) (zs:List Int) (w:World),Sort.Holds (Value.int .i64) w blk off zs.toArray→blk<w.heap.size→zs.length<4611686018427387904→
   Calls P f #[.slice (some ⟨blk,off,none⟩) zs.length cap] w fun e w'=>e=.returned (.tuple #[])∧ ∃n os,w'=Sort.grow (Sort.putRow (Value.int .i64) (Sort.ahead w n) blk off (zs.mergeSort fun x y=>decide (x≤y)).toArray) os)
  (hb:l.length<4611686018427387904):
  iC P O f [.own s l.length] fun O' x=>O'=set O s (rowL e 1 eI (srt l))∧x=.tup []:=
 aNt hs dH _ (fun _ _=>.tuple #[]) rfl (fun w I A B c _ _ _=>bP.tup A [] #[] rfl dH) (fun _=>H0) fun w g c us h1 h2 h3 h4 h5 h6=>
  (H g 0 c l w (aXx (c:=c) h1 h6) (aZy.1 h1).1 hb).mono fun _ w' ⟨k1,n,os,k2⟩=>⟨k1,_,k2▸aLz h1 n _ os,by simp[Sort.putCells],fun i hi=>aDx (off:=0) _ _ hi (by simp at hi;omega)⟩
theorem aBg {P:Program} {f:FuncId} {O:aN} {s:Nat} {e:TypeId} {l:List Int} (hs:O s=rowL e 1 eI l)
  (H0: ∀b c w,Calls P f #[.slice b 0 c] w fun x w'=>x=.returned (.slice b 0 c)∧w'=w)
  (H: ∀(blk off cap:Nat) (zs:List Int) (w:World),Sort.Holds (Value.int .i64) w blk off zs.toArray→zs.length≤9223372036854775807→zs.length≤cap→
   Calls P f #[.slice (some ⟨blk,off,none⟩) zs.length cap] w fun e w'=>e=.returned (.slice (some ⟨blk,off,none⟩) (Lib.compact zs).length cap)∧ ∃q,w'=Sort.putRow (Value.int .i64) (Sort.ahead w q) blk off (Lib.compact zs++List.replicate (zs.length-(Lib.compact zs).length) 0).toArray)
  (hle:(Lib.compact l).length≤l.length):
  iC P O f [.own s l.length] fun O' x=>O'=set O s (rowL e 1 eI (Lib.compact l++List.replicate (l.length-(Lib.compact l).length) 0))∧x=.own s (Lib.compact l).length:=
 aNt hs (by simp;omega) _ (fun b c=>.slice b (Lib.compact l).length c) rfl (fun w I A B c b h hb=>.own A s _ B c b h hb)
  (fun h b c w=>by
   have:(Lib.compact l).length=0:=by subst h;simpa using hle
   rw[this];exact H0 b c w) fun w g c us h1 h2 h3 h4 h5 h6=>
  (H g 0 c l w (aXx (c:=c) h1 h6) (eL h3 h4) h3).mono fun _ w' ⟨k1,n,k2⟩=>⟨k1,_,by
   have:=aLz h1 n (Lib.compact l++List.replicate (l.length-(Lib.compact l).length) 0) #[];rw[Sort.grow_empty,← k2] at this;exact this,by simp[Sort.putCells],fun i hi=>aDx (off:=0) _ _ hi (by simp at hi;omega)⟩
end Go.Sg
namespace Go.Sg
attribute [go_sem] uJ
def m0 {α:Type} [Inhabited α] (f:α→Bool) (l:List α) (i:Nat):Prop:= ∀j,j<i→f (l.getD j default)=true
section
variable {α:Type} [Inhabited α] {f:α→Bool} {l:List α} {i n:Nat}
theorem i8 (f:α→Bool) (l:List α):m0 f l 0:=fun j h=>absurd h (aKv _)
theorem jA (h:m0 f l i) (g:f (l.getD i default)=true):m0 f l (i+1):=fun j hj=>by
 rcases uU (aBz hj) with q|q
 ·exact h j q
 rw[q];exact g
theorem kI (h:i<l.length):l.getD i default∈l:=by rw[cA,cH h];exact xY h
theorem bQu {x:α} (h:x∈l): ∃i,i<l.length∧l.getD i default=x:=by
 obtain ⟨i,hi,rfl⟩:=aOl.1 h;exact ⟨i,hi,by rw[cA,cH hi];rfl⟩
theorem pF (h:m0 f l i) (g:l.length≤i):l.all f=true:=by
 rw[dI];intro x hx;obtain ⟨j,hj,rfl⟩:=bQu hx;exact h j (eE hj g)
theorem nK (h:i<l.length) (g:f (l.getD i default)=false):l.all f=false:=by
 rw[← rL,dI];intro q;rw[q _ (kI h)] at g;cases g
theorem rY (h:l.all f=true) (g:i<l.length):f (l.getD i default)=true:=(dI.1 h) _ (kI g)
def nX (f:Nat→Bool) (i:Nat):Prop:= ∀j,j<i→f j=true
theorem lP (f:Nat→Bool):nX f 0:=fun j h=>absurd h (aKv _)
theorem kE {f:Nat→Bool} (h:nX f i) (g:f i=true):nX f (i+1):=fun j hj=>by
 rcases uU (aBz hj) with q|q
 ·exact h j q
 rw[q];exact g
theorem t6 {f:Nat→Bool} (h:nX f i) (g:n≤i):(List.range n).all f=true:=by
 rw[dI];intro x hx;exact h x (eE (gU.1 hx) g)
theorem rR {f:Nat→Bool} (h:i<n) (g:f i=false):(List.range n).all f=false:=by
 rw[← rL,dI];intro q;rw[q _ (gU.2 h)] at g;cases g
theorem aMz {f:Nat→Bool} (h:(List.range n).all f=true) (g:i<n):f i=true:=(dI.1 h) _ (gU.2 g)
end
end Go.Sg
namespace Go.Sg
open Go.RowKit
def cEx (P:Program) (t:TypeId):Option (Nat×Nat):=
 match P.underlying t with
 |some (.array n e)=>(match P.info? e,aOw P 40 e,P.underlying e with
  |some i,some a,some (.struct _)=>if i.size=a.length then some (n,i.size) else none
  |_,_,_=>none)
 |_=>none
theorem aVq {P:Program} {nt:Nat} {ρ:aN} {ops:Array Oper} {o:Oper} {K:aN→Prop} {t:TypeId} {x i:Operand} {d n z:Nat} {cs:List DV} {kk:IntKind} {k:Int} (hop:o.op=.index t x i) (hg:o.guard=none) (hdst:o.dst=some d) (hd:d<nt)
  (ho:eJ nt o=true) (ha:cEx P t=some (n,z)) (hx:ev ρ x=.agg cs) (hi:ev ρ i=.v (.int kk k)) (h0:0≤k) (h1:k.toNat<n) (hl:k.toNat*z+z≤cs.length)
  (hK:K (set ρ d (.agg ((cs.drop (k.toNat*z)).take z)))):OW P nt ops o K ρ:=by
 unfold cEx at ha;split at ha<;>try cases ha
 rename_i n' e hu;split at ha<;>try cases ha
 rename_i inf a fs hi' hk hd';split at ha<;>try cases ha
 rename_i hs;refine iF hg fun I A a' w hsim=>?_;have hxr:=hsim.opd x (bM ho (by simp[hop,Op.operands])) (by rw[hx];trivial);have hir:=hsim.opd i (bM ho (by simp[hop,Op.operands])) (by rw[hi];trivial);rw[hx] at hxr;rw[hi] at hir;have hie:a'.eval i=.int kk k:=by
  have hir:bP w I A (.v (.int kk k)) (a'.eval i):=hir;generalize a'.eval i=q at hir ⊢;cases hir;rfl
 have hxr:bP w I A (.agg cs) (a'.eval x):=hxr;generalize hxe:a'.eval x=u at hxr;cases hxr with
 |agg _ _ vs hlen hone hrel=>
  have hp:=yY (P:=P) (w:=w) (X:=vs) (off:=k.toNat*inf.size) hk hi' hs (by rw[hs] at hl;rw[hs];omega);refine ⟨vOf P e ((vs.toList.drop (k.toNat*inf.size)).take a.length),w,I,A,_,?_,hsim.putV (o:=o) (by simp[jH,hdst,hd]) ?_,f8.refl _ _ _,by rw[hdst];exact hK⟩
  ·simp only[execOp,hop,hxe,hie,Sem.run_bind];have:(Instr.index t (.agg vs) (.int kk k)).run P w=.ok (vOf P e ((vs.toList.drop (k.toNat*inf.size)).take a.length)) w:=by
    simp[Instr.index,asIntOf,run_underlying hu,h0,show k<(n:Int) by omega,run_sizeOf w hi',Program.cellsOf,hi'];exact hp
   rw[this];rfl
  unfold vOf;rw[hd',← hs];have hat: ∀j,j<inf.size→((vs.toList.drop (k.toNat*inf.size)).take inf.size)[j]?=vs[k.toNat*inf.size+j]?:=fun j hj=>by
   rw[oR,if_pos hj,sC,kK]
  refine .agg A _ _ (by simp;omega) (fun x hx=>hone x ?_) fun j d' u' hd' hu'=>?_
  ·exact List.mem_of_mem_drop (bHi (by simpa using hx))
  have hj:j<inf.size:=by
   have:=(oJ.1 hd').1;simp at this;omega
  rw[oR,if_pos hj,sC] at hd';have hu2:((vs.toList.drop (k.toNat*inf.size)).take inf.size)[j]?=some u':=by simpa using hu'
  rw[hat j hj] at hu2;exact hrel _ d' u' hd' hu2
end Go.Sg
namespace Go.Sg
open Go.Proofs
attribute [go_sem] uJ
structure Pas where
 k:Int
 i:Int
 o:Int
 n:Int
instance:Inhabited Pas:=⟨⟨0,0,0,0⟩⟩
def o4:List Pas:=[⟨1,0,1,0⟩,⟨1,1,0,0⟩,⟨2,0,1,1⟩,⟨2,0,2,2⟩,⟨2,1,0,1⟩,⟨2,2,0,2⟩,⟨3,0,1,0⟩,⟨3,1,0,0⟩,⟨3,2,3,0⟩,⟨3,3,2,0⟩]
def bXu (p:Pas):List DV:=[vi p.k,vi p.i,vi p.o,vi p.n]
def aJj:List DV:=o4.flatMap bXu
theorem bEh:aJj=bFq.toList.map .v:=rfl
theorem bRx (p:Nat→Bool):d6 p aJj=true:=rfl
theorem aYp:aJj.length=40:=rfl
theorem bMa {i:Nat} (h:i<10):(aJj.drop (i*4)).take 4=bXu (o4.getD i default):=by
 match i,h with
 |0,_|1,_|2,_|3,_|4,_|5,_|6,_|7,_|8,_|9,_=>rfl
def gS (k i o:Int):Int×Bool:=
 if k=1∨k=3 then (0,decide ((min i o=0∧max i o=1)∨(k=3∧min i o=2∧max i o=3)))
 else if k=2∧min i o=0∧max i o=1 then (1,true) else if k=2∧min i o=0∧max i o=2 then (2,true) else (0,false)
def sH:List Pas→Int→Int→Int→Int×Bool
 | [],_,_,_=>(0,false)
 |p::l,k,i,o=>if p.k=k∧p.i=i∧p.o=o then (p.n,true) else sH l k i o
theorem cRk (i o:Int):gS 1 i o=(0,decide (min i o=0∧max i o=1)):=by
 unfold gS;rw[if_pos (.inl rfl)];congr 1;rw[decide_eq_decide];omega
theorem aWp (i o:Int):gS 2 i o=if min i o=0∧max i o=1 then (1,true) else if min i o=0∧max i o=2 then (2,true) else (0,false):=by
 unfold gS;rw[if_neg aV];simp
theorem cFc (i o:Int):gS 3 i o=(0,decide ((min i o=0∧max i o=1)∨(min i o=2∧max i o=3))):=by
 unfold gS;rw[if_pos (.inr rfl)];congr 1;rw[decide_eq_decide];omega
theorem cEj {k:Int} (h1:k≠1) (h2:k≠2) (h3:k≠3) (i o:Int):gS k i o=(0,false):=by
 unfold gS;rw[if_neg aV,if_neg aV,if_neg aV]
theorem bHd (k i o:Int):sH o4 k i o=gS k i o:=by
 have hk:k=1∨k=2∨k=3∨(k≠1∧k≠2∧k≠3):=by omega
 rcases hk with rfl|rfl|rfl|⟨h1,h2,h3⟩
 ·have:sH o4 1 i o=if (0:Int)=i∧(1:Int)=o then (0,true) else if (1:Int)=i∧(0:Int)=o then (0,true) else (0,false):=by
   simp[sH,o4]
  rw[this,cRk];split
  ·rw[dF aV]
  split
  ·rw[dF aV]
  rw[e9 aV]
 ·have:sH o4 2 i o=if (0:Int)=i∧(1:Int)=o then (1,true) else if (0:Int)=i∧(2:Int)=o then (2,true) else if (1:Int)=i∧(0:Int)=o then (1,true) else if (2:Int)=i∧(0:Int)=o then (2,true) else (0,false):=by
   simp[sH,o4]
  rw[this,aWp]
  repeat' split
  all_goals first|rfl|(exfalso;omega)
 ·have:sH o4 3 i o=if (0:Int)=i∧(1:Int)=o then (0,true) else if (1:Int)=i∧(0:Int)=o then (0,true) else if (2:Int)=i∧(3:Int)=o then (0,true) else if (3:Int)=i∧(2:Int)=o then (0,true) else (0,false):=by
   simp[sH,o4]
  rw[this,cFc]
  repeat' split
  all_goals first|rw[dF aV]|rw[e9 aV]
 rw[cEj h1 h2 h3];simp[sH,o4,fC h1,fC h2,fC h3]
theorem bZe:aXr.toList.length=4:=rfl
def mD (k:Int):Int:=if k=1 then 2 else if k=2 then 3 else if k=3 then 4 else 0
theorem cJv {k:Int} (h0:0≤k) (h1:k<4):((aXr.toList.map DV.v).drop (k.toNat*1)).getD 0 .any=vi (mD k):=by
 have:k=0∨k=1∨k=2∨k=3:=by omega
 rcases this with rfl|rfl|rfl|rfl<;>rfl
abbrev aUu (l:List Int):DV:=rowL 3 1 eI l
def aBh (l:List Pas) (k i:Int):List Int:=(l.filter fun p=>decide (p.k=k∧p.i=i)).map (·.o)
def lE (k i:Int):List Int:=aBh o4 k i
theorem aMb (k i:Int) {n:Nat} (h:n<o4.length):aBh (o4.take (n+1)) k i=aBh (o4.take n) k i++if (o4.getD n default).k=k∧(o4.getD n default).i=i then [(o4.getD n default).o] else []:=by
 rw[List.take_succ_eq_append_getElem h];unfold aBh;rw[yN,eM];congr 1;rw[cA,cH h,iE];by_cases q:o4[n].k=k∧o4[n].i=i<;>simp[zW,q]
set_option maxRecDepth 20000 in
theorem wH (O:aN) (k i o:Int):aZ Tryz.prog O 129 [vi k,vi i,vi o] (.tup [vi (gS k i o).1,vb (gS k i o).2]):=by
 rw[← bHd];have hpl:o4.length=10:=rfl;refine eV Tryz.func129 ?_;refine aB [0,1,2] ?_;refine aA fun _ Z1=>aA fun _ Z2=>cM (Le.keepC [0,1,2] _) ?_;refine fU ?_;show OW _ _ _ _ _ _;refine bV rfl bF bF ?_;simp only[go_sem,GT];rw[← bEh];simp (disch:=omega) only[go_sem,seval];rw[show List.take 40 aJj=aJj from rfl];refine cP eN ?_;refine ez ?_;refine Z2 _ (aI (aX [0,1,2,10,11] (fun n ρ=> ∃j,n=10-j∧(j≤10)∧(sH o4 k i o=sH (o4.drop j) k i o)∧ρ=dU O [(0,vi k),(1,vi i),(2,vi o),(10,.agg aJj),(11,vi (j:Nat))]) _ ⟨0,rfl,?_,?_,?_⟩ ?_))
 ·exact bD
 ·rfl
 ·exact dT
 rintro n ρ ⟨j,rfl,l0_0,l0_1,rfl⟩ _ Z3;refine aB [0,1,2,10,11] ?_;refine aA fun _ Z5=>aO (fun c0=>?_) fun c0=>?_
 ·refine aD (Z5 _ (aA fun _ Z6=>aI (aA fun _ Z7=>cM (Le.keepC [0,1,2,10,11] _) ?_)));refine fU ?_;show OW _ _ _ _ _ _;refine aVq (n:=10) (z:=4) (cs:=aJj) (kk:=.i64) (k:=(j:Nat)) rfl rfl rfl eN bF bF sz sz aV aV (by rw[aYp];omega) ?_;rw[yG,bMa aV];unfold bXu;refine ez ?_;refine ez ?_;refine Z7 _ (aA fun _ Z8=>?_);have hdp:=dL (l:=o4) default (show j<o4.length by omega);refine bE [0,1,2,9,10,11] ?_;refine Z8 _ (aO (fun c1=>?_) fun c1=>?_)
  ·refine aB [9] ?_;refine aL (rtu (.cons ?_ (.cons ?_ .nil)))
   ·exact vU (by simp (disch:=omega) only[go_sem,seval]<;>((rw[l0_1,hdp,sH,if_pos aV]))) rfl rfl
   exact vU (by simp (disch:=omega) only[go_sem,seval]<;>((rw[l0_1,hdp,sH,if_pos aV]))) rfl rfl
  refine aD (Z6 _ (bE [0,1,2,10,11] ?_));refine Z3 _ _ bD ⟨j+1,rfl,bD,?_,dT⟩
  ·(rw[l0_1,hdp,sH,if_neg aV])
 refine bA (Z1 _ (aB [] ?_));refine aL (rtu (.cons ?_ (.cons ?_ .nil)))
 ·exact vU (by simp (disch:=omega) only[go_sem,seval]<;>((rw[l0_1,iW aV];rfl))) rfl rfl
 exact vU (by simp (disch:=omega) only[go_sem,seval]<;>((rw[l0_1,iW aV];rfl))) rfl rfl
section
attribute [local go_sem] GT cJv aMa cJ bZe
theorem aBj (O:aN) (k:Int):aZ Tryz.prog O 143 [vi k] (vi (mD k)):=by
 refine eV Tryz.func143 ?_;refine aB [0] ?_;refine aA fun _ Z1=>aB [0] ?_;refine aO (fun c0=>?_) fun c0=>?_
 ·refine aB [] ?_;refine aL (dN 2 ?_);exact dX.is (by simp (disch:=omega) only[go_sem,seval]<;>((unfold mD;rw[if_neg aV,if_neg aV,if_neg aV]))) rfl rfl
 refine aD (Z1 _ (aB [0] ?_));refine aL (dN 2 ?_);exact dX.is (by simp (disch:=omega) only[go_sem,seval]<;>(exact bD)) rfl rfl
end
section
attribute [local go_sem] bRx
set_option maxRecDepth 20000 in
theorem aEm (O:aN) (k i:Int):aZ Tryz.prog O 193 [vi k,vi i] (d5 (lE k i)):=by
 have hpl:o4.length=10:=rfl;refine eV Tryz.func193 ?_;refine aB [0,1] ?_;refine aB [0,1] ?_;refine aA fun _ Z2=>aA fun _ Z3=>cM (Le.keepC [0,1,5] _) ?_;refine fU ?_;show OW _ _ _ _ _ _;refine bV rfl bF bF ?_;simp only[go_sem,GT];rw[← bEh];simp (disch:=omega) only[go_sem,seval];rw[show List.take 40 aJj=aJj from rfl];refine cP eN ?_;refine ez ?_;refine Z3 _ (aI (l4 5 3 1 eI rfl rfl ?_));refine aX [0,1,5,8,9] (fun n ρ=> ∃j,n=10-j∧(j≤10)∧ρ=dU O [(0,vi k),(1,vi i),(5,aUu (aBh (o4.take j) k i)),(8,.agg aJj),(9,vi (j:Nat))]) _ ⟨0,rfl,?_,?_⟩ ?_
 ·exact bD
 ·exact dT
 rintro n ρ ⟨j,rfl,l0_0,rfl⟩ _ Z4;have hfl:(aBh (o4.take j) k i).length≤10:=by
   unfold aBh;rw[cJ];exact eL (aHv _ _) (by rw[iO];omega)
 refine aB [0,1,5,8,9] ?_;refine aA fun _ Z6=>aO (fun c0=>?_) fun c0=>?_
 ·refine aD (Z6 _ (aA fun _ Z7=>aI (aA fun _ Z8=>cM (Le.keepC [0,1,5,8,9] _) ?_)));refine fU ?_;show OW _ _ _ _ _ _;refine aVq (n:=10) (z:=4) (cs:=aJj) (kk:=.i64) (k:=(j:Nat)) rfl rfl rfl eN bF bF sz sz aV aV (by rw[aYp];omega) ?_;rw[yG,bMa aV];unfold bXu;refine ez ?_;refine ez ?_;refine Z8 _ (aB [0,1,5,7,8,9] ?_);refine aO (fun c1=>?_) fun c1=>?_
  ·refine bE [0,1,5,7,8,9] ?_;refine Z7 _ (bE [0,1,5,8,9] ?_);refine Z4 _ _ bD ⟨j+1,rfl,bD,?_⟩;simp (disch:=omega) only[go_sem,seval]<;>(rw[aMb _ _ aV,if_pos c1];first|rfl|simp)
  refine aD (Z7 _ (bE [0,1,5,8,9] ?_));refine Z4 _ _ bD ⟨j+1,rfl,bD,?_⟩;simp (disch:=omega) only[go_sem,seval]<;>(rw[aMb _ _ aV,if_neg aV,kZ];rfl)
 refine bA (Z2 _ (aA fun _ Z10=>iS 5 _ rfl rfl ?_));refine bE [5] ?_;refine Z10 _ (aL (dN 4 ?_));exact dX.encL rfl (by rw[jD aV];rfl)
end
theorem roC {P:Program} {ρ:aN} {a:Nat} {t:TypeId} {cs ds:List DV} (h:ρ a=.bx cs) (he:cs=ds) (hl:eA P t=some (some ds.length)) (hs:kT (· +100000) ds=ds):aPd P ρ (.cell a t) (.agg ds):=by
 subst he;refine ⟨cs,h,.inl ⟨hl,?_⟩⟩;have:sh (.agg cs)=.agg cs:=congrArg DV.agg hs;rw[this];exact eK.refl _
theorem nM {P:Program} {ρ:aN} {fn:Func} {O:aN} {cs:List DV} (a t:Nat) (hf:fn.results= #[.cell a t]) (h1:hi ρ=bS O) (h2:ρ a=.bx cs) (h3:eA P t=some (some cs.length)) (h4:sh (.agg cs)=.agg cs):rZ P fn O (fun O' r'=>O'=O∧r'=.agg cs) .ret ρ:=
 aEe h1 (by rw[hf];exact ⟨rfl,cs,h2,.inl ⟨h3,by rw[h4];exact eK.refl _⟩⟩)
abbrev bBt (l:List l0):DV:=encL 4 pU l
abbrev uK (l:List mS):DV:=encL 4 jW l
abbrev sL (l:List mZ):DV:=encL 7 gB l
abbrev aRe (l:List tL):DV:=encL 3 nY l
abbrev uV (l:List ByteArray):DV:=encL 1 eS l
def aLy (l:aC):List ByteArray:=l.xAh.map (·.xAq)
def aBb (l:aC):List ByteArray:=l.xAa.map (·.xAq)
def d9 (l:aC):List (List ByteArray):=[[l.xAq],l.xAe,aLy l,aBb l]
structure gO (l:aC):Prop where
 sec:l.xAe.length≤60
 el:l.xAh.length≤60
 jo:l.xAd.length≤100
 sg:l.xAa.length≤60
 bl:l.xAu.length≤60
 nm: ∀n∈d9 l,∀x∈n,x.size≤140737488355328
def E0:fH:=⟨0,0⟩
def i7:List l0→fH→fH×Bool
 | [],_=>(E0,false)
 |j::l,e=>if j.fA=e then (j.fB,true) else if j.fB=e then (j.fA,true) else i7 l e
abbrev bH (l:aC) (e:fH):fH×Bool:=i7 l.xAd e
def aGw:List mS→fH→Nat→Int
 | [],_,_=> -1
 |s::l,e,n=>if s.fAt=e then (n:Int) else aGw l e (n+1)
abbrev lX (l:aC) (e:fH):Int:=aGw l.xAa e 0
abbrev lI (l:aC) (i:Nat):mZ:=l.xAh.getD i default
def aOx (l:aC) (n:Nat):List Int:=((List.range n).filter fun i=>decide ((lI l i).xAp=2)).map fun i=>((i:Nat):Int)
def kB (l:aC):List Int:=aOx l l.xAh.length
def bBw (l:aC) (s:Int) (n:Nat):List Int:=((List.range n).filter fun i=>decide ((lI l i).xBb=s)).map fun i=>((i:Nat):Int)
def bSc (l:aC) (s:Int):List Int:=if 0≤s∧s<(l.xAe.length:Int) then bBw l s l.xAh.length else []
def fD (l:aC) (e:Int):Int:=if 0≤e∧e<(l.xAh.length:Int) then (lI l e.toNat).xBb else -1
theorem bNo (l:aC) (n:Nat):aOx l (n+1)=aOx l n++if (lI l n).xAp=2 then [(n:Int)] else []:=by
 unfold aOx;rw[xS,yN,eM];congr 1;by_cases h:(lI l n).xAp=2
 ·rw[if_pos h,List.filter_cons_of_pos (by simpa using h)];rfl
 rw[if_neg h,List.filter_cons_of_neg (by simpa using h)];rfl
theorem bPs (l:aC) (s:Int) (n:Nat):bBw l s (n+1)=bBw l s n++if (lI l n).xBb=s then [(n:Int)] else []:=by
 unfold bBw;rw[xS,yN,eM];congr 1;by_cases h:(lI l n).xBb=s
 ·rw[if_pos h,List.filter_cons_of_pos (by simpa using h)];rfl
 rw[if_neg h,List.filter_cons_of_neg (by simpa using h)];rfl
theorem aEl (l:aC) (n:Nat):(aOx l n).length≤n:=by
 unfold aOx;rw[cJ];exact eL (aHv _ _) dH
theorem bUm (l:aC) (s:Int) (n:Nat):(bBw l s n).length≤n:=by
 unfold bBw;rw[cJ];exact eL (aHv _ _) dH
theorem n0 (O:aN) (l:aC) (e:fH):aZ Tryz.prog O 144 [.agg (aQ l),.agg (fM e)] (.tup [.agg (fM (bH l e).1),vb (bH l e).2]):=by
 refine bG 0 rfl (.agg (d:=bBt l.xAd) (by simp[aQ]) (.sl _ _ _)) fun hj=>?_;refine eV Tryz.func144 ?_;refine aB [0,1] ?_;refine aA fun _ Z1=>aB [2,3,4] ?_;refine aI (aX [2,3,4,9,10,11] (fun n ρ=> ∃i,n=l.xAd.length-i∧(i≤l.xAd.length)∧(i7 l.xAd e=i7 (l.xAd.drop i) e)∧ρ=dU O [(2,.bx (aQ l)),(3,.bx (fM e)),(4,.bx (fM E0)),(9,bBt l.xAd),(10,vi (l.xAd.length:Nat)),(11,vi (i:Nat))]) _ ⟨0,rfl,?_,?_,?_⟩ ?_)
 ·exact bD
 ·rfl
 ·exact dT
 rintro n ρ ⟨i,rfl,l0_0,l0_1,rfl⟩ _ Z3;refine aB [2,3,4,8,9,10,11] ?_;refine aA fun _ Z5=>aO (fun c0=>?_) fun c0=>?_
 ·refine aD (Z5 _ (aA fun _ Z6=>aI (aB [2,3,4,8,9,10,11] ?_)));refine aA fun _ Z8=>aB [2,3,4,7,8,9,10,11] ?_;refine aO (fun c1=>?_) fun c1=>?_
  ·refine aB [4,7] ?_;refine aL (rtu (.cons ?_ (.cons ?_ .nil)))
   ·exact roC sr (by simp (disch:=omega) only[go_sem,seval]<;>((rw[bH,l0_1,dL default c0,i7,if_pos ((mB _ _).2 (by simpa using c1))]))) bF (by first|rfl|(simp (disch:=omega) only[go_sem,seval]))
   exact vU (by simp (disch:=omega) only[go_sem,seval]<;>((rw[bH,l0_1,dL default c0,i7,if_pos ((mB _ _).2 (by simpa using c1))]))) rfl rfl
  refine aD (Z8 _ (aB [2,3,4,7,8,9,10,11] ?_));refine aO (fun c2=>?_) fun c2=>?_
  ·refine aB [4,7] ?_;refine aL (rtu (.cons ?_ (.cons ?_ .nil)))
   ·exact roC sr (by simp (disch:=omega) only[go_sem,seval]<;>((rw[bH,l0_1,dL default c0,i7,if_neg (fun h=>by rw[mB] at h;simp_all),if_pos ((mB _ _).2 (by simpa using c2))]))) bF (by first|rfl|(simp (disch:=omega) only[go_sem,seval]))
   exact vU (by simp (disch:=omega) only[go_sem,seval]<;>((rw[bH,l0_1,dL default c0,i7,if_neg (fun h=>by rw[mB] at h;simp_all),if_pos ((mB _ _).2 (by simpa using c2))]))) rfl rfl
  refine aD (Z6 _ (bE [2,3,4,8,9,10,11] ?_));refine Z3 _ _ bD ⟨i+1,rfl,bD,?_,dT⟩
  ·(rw[l0_1,dL default c0,i7,if_neg (fun h=>by rw[mB] at h;simp_all),if_neg (fun h=>by rw[mB] at h;simp_all)])
 refine bA (Z1 _ (aB [4] ?_));refine aL (rtu (.cons ?_ (.cons ?_ .nil)))
 ·exact roC sr (by simp (disch:=omega) only[go_sem,seval]<;>((rw[bH,l0_1,iW c0];rfl))) bF (by first|rfl|(simp (disch:=omega) only[go_sem,seval]))
 exact vU (by simp (disch:=omega) only[go_sem,seval]<;>((rw[bH,l0_1,iW c0];rfl))) rfl rfl
theorem lS (O:aN) (l:aC) (e:fH):aZ Tryz.prog O 96 [.agg (aQ l),.agg (fM e)] (vi (lX l e)):=by
 refine bG 0 rfl (.agg (d:=uK l.xAa) (by simp[aQ]) (.sl _ _ _)) fun hs=>?_;refine eV Tryz.func96 ?_;refine aB [0,1] ?_;refine aA fun _ Z1=>aB [2,3] ?_;refine aI (aX [3,8,9,10] (fun n ρ=> ∃i,n=l.xAa.length-i∧(i≤l.xAa.length)∧(aGw l.xAa e 0=aGw (l.xAa.drop i) e i)∧ρ=dU O [(3,.bx (fM e)),(8,uK l.xAa),(9,vi (l.xAa.length:Nat)),(10,vi (i:Nat))]) _ ⟨0,rfl,?_,?_,?_⟩ ?_)
 ·exact bD
 ·rfl
 ·exact dT
 rintro n ρ ⟨i,rfl,l0_0,l0_1,rfl⟩ _ Z3;refine aB [2,3,7,8,9,10] ?_;refine aA fun _ Z5=>aO (fun c0=>?_) fun c0=>?_
 ·refine aD (Z5 _ (aA fun _ Z6=>aI (aB [2,3,7,8,9,10] ?_)));refine aB [2,3,5,6,7,8,9,10] ?_;refine aO (fun c1=>?_) fun c1=>?_
  ·refine aB [5] ?_;refine aL (dN 4 ?_);exact dX.is (by simp (disch:=omega) only[go_sem,seval]<;>((rw[lX,l0_1,dL default c0,aGw,if_pos ((mB _ _).2 (by simpa using c1))]))) rfl rfl
  refine aD (Z6 _ (bE [2,3,7,8,9,10] ?_));refine Z3 _ _ bD ⟨i+1,rfl,bD,?_,dT⟩
  ·(rw[l0_1,dL default c0,aGw,if_neg (fun h=>by rw[mB] at h;simp_all)])
 refine bA (Z1 _ (aB [] ?_));refine aL (dN 4 ?_);exact dX.is (by simp (disch:=omega) only[go_sem,seval]<;>((rw[lX,l0_1,iW c0];rfl))) rfl rfl
theorem aHj (O:aN) (l:aC) (hl:gO l):aZ Tryz.prog O 59 [.agg (aQ l)] (d5 (kB l)):=by
 have hl1:=hl.sec;have hl2:=hl.el;have hl3:=hl.jo;have hl4:=hl.sg;have hl5:=hl.bl;refine bG 0 rfl (.agg (d:=sL l.xAh) (by simp[aQ]) (.sl _ _ _)) fun he=>?_;refine eV Tryz.func59 ?_;refine aB [0] ?_;refine aB [1] ?_;refine aA fun _ Z2=>aB [1,3] ?_;refine aI (l4 3 3 1 eI rfl rfl ?_);refine aX [3,7,8,9] (fun n ρ=> ∃i,n=l.xAh.length-i∧(i≤l.xAh.length)∧ρ=dU O [(3,aUu (aOx l i)),(7,sL l.xAh),(8,vi (l.xAh.length:Nat)),(9,vi (i:Nat))]) _ ⟨0,rfl,?_,?_⟩ ?_
 ·exact bD
 ·exact dT
 rintro n ρ ⟨i,rfl,l0_0,rfl⟩ _ Z4;have hfl:=aEl l i;refine aB [1,3,6,7,8,9] ?_;refine aA fun _ Z6=>aO (fun c0=>?_) fun c0=>?_
 ·refine aD (Z6 _ (aA fun _ Z7=>aI (aB [1,3,6,7,8,9] ?_)));refine aB [1,3,4,5,6,7,8,9] ?_;refine aO (fun c1=>?_) fun c1=>?_
  ·refine bE [1,3,4,6,7,8,9] ?_;refine Z7 _ (bE [1,3,6,7,8,9] ?_);refine Z4 _ _ bD ⟨i+1,rfl,bD,?_⟩;simp (disch:=omega) only[go_sem,seval]<;>(rw[bNo,if_pos c1];first|rfl|simp)
  refine aD (Z7 _ (bE [1,3,6,7,8,9] ?_));refine Z4 _ _ bD ⟨i+1,rfl,bD,?_⟩;simp (disch:=omega) only[go_sem,seval]<;>(rw[bNo,if_neg c1,kZ];rfl)
 refine bA (Z2 _ (aA fun _ Z10=>iS 3 _ rfl rfl ?_));refine bE [3] ?_;refine Z10 _ (aL (dN 2 ?_));exact dX.encL rfl (by (rw[show i=l.xAh.length by omega];rfl))
theorem aDn (O:aN) (l:aC) (s:Int) (hl:gO l):aZ Tryz.prog O 94 [.agg (aQ l),vi s] (d5 (bSc l s)):=by
 have hl1:=hl.sec;have hl2:=hl.el;have hl3:=hl.jo;have hl4:=hl.sg;have hl5:=hl.bl;refine bG 0 rfl (.agg (d:=sL l.xAh) (by simp[aQ]) (.sl _ _ _)) fun he=>?_;refine bG 0 rfl (.agg (d:=uV l.xAe) (by simp[aQ]) (.sl _ _ _)) fun hc=>?_;refine eV Tryz.func94 ?_;refine aB [0,1] ?_;refine aA fun _ Z1=>aB [1,2] ?_;refine aO (fun c0=>?_) fun c0=>?_
 ·refine aB [] ?_;refine xL 4 1 eI rfl rfl ?_;refine aL (dN 4 ?_);exact dX.encL rfl (by (unfold bSc;rw[if_neg aV]))
 refine aD (Z1 _ (aB [1,2] ?_));refine aA fun _ Z5=>aB [1,2,5] ?_;refine aI (l4 5 3 1 eI rfl rfl ?_);refine aX [1,5,18,19,20] (fun n ρ=> ∃i,n=l.xAh.length-i∧(i≤l.xAh.length)∧ρ=dU O [(1,vi s),(5,aUu (bBw l s i)),(18,sL l.xAh),(19,vi (l.xAh.length:Nat)),(20,vi (i:Nat))]) _ ⟨0,rfl,?_,?_⟩ ?_
 ·exact bD
 ·exact dT
 rintro n ρ ⟨i,rfl,l0_0,rfl⟩ _ Z7;have hfl:=bUm l s i;refine aB [1,2,5,17,18,19,20] ?_;refine aA fun _ Z9=>aO (fun c1=>?_) fun c1=>?_
 ·refine aD (Z9 _ (aA fun _ Z10=>aI (aB [1,2,5,17,18,19,20] ?_)));refine aB [1,2,5,6,7,17,18,19,20] ?_;refine aO (fun c2=>?_) fun c2=>?_
  ·refine bE [1,2,5,6,17,18,19,20] ?_;refine Z10 _ (bE [1,2,5,17,18,19,20] ?_);refine Z7 _ _ bD ⟨i+1,rfl,bD,?_⟩;simp (disch:=omega) only[go_sem,seval]<;>(rw[bPs,if_pos c2];first|rfl|simp)
  refine aD (Z10 _ (bE [1,2,5,17,18,19,20] ?_));refine Z7 _ _ bD ⟨i+1,rfl,bD,?_⟩;simp (disch:=omega) only[go_sem,seval]<;>(rw[bPs,if_neg c2,kZ];rfl)
 refine bA (Z5 _ (aA fun _ Z13=>iS 5 _ rfl rfl ?_));refine bE [5] ?_;refine Z13 _ (aL (dN 4 ?_));exact dX.encL rfl (by (rw[show i=l.xAh.length by omega];unfold bSc;rw[if_pos aV]))
theorem f7 (O:aN) (l:aC) (x:Int):aZ Tryz.prog O 60 [.agg (aQ l),vi x] (vi (fD l x)):=by
 refine bG 0 rfl (.agg (d:=sL l.xAh) (by simp[aQ]) (.sl _ _ _)) fun he=>?_;refine eV Tryz.func60 ?_;refine aB [0,1] ?_;refine aA fun _ Z1=>aB [1,2] ?_;refine aO (fun c0=>?_) fun c0=>?_
 ·refine aB [] ?_;refine aL (dN 4 ?_);exact dX.is (by simp (disch:=omega) only[go_sem,seval]<;>((unfold fD;rw[if_neg aV]))) rfl rfl
 refine aD (Z1 _ (aB [1,2] ?_));refine aL (dN 4 ?_);exact dX.is (by simp (disch:=omega) only[go_sem,seval]<;>((unfold fD;rw[if_pos aV]))) rfl rfl
theorem aGv (O:aN) (l:aC) (x:Int):aZ Tryz.prog O 31 [.agg (aQ l),vi x] (vi (fD l x)):=by
 refine bG 0 rfl (.agg (d:=sL l.xAh) (by simp[aQ]) (.sl _ _ _)) fun he=>?_;refine eV Tryz.func31 ?_;refine aB [0,1] ?_;refine aA fun _ Z1=>aB [1,2] ?_;refine aO (fun c0=>?_) fun c0=>?_
 ·refine aB [] ?_;refine aL (dN 4 ?_);exact dX.is (by simp (disch:=omega) only[go_sem,seval]<;>((unfold fD;rw[if_neg aV]))) rfl rfl
 refine aD (Z1 _ (aB [1,2] ?_));refine aL (dN 4 ?_);exact dX.is (by simp (disch:=omega) only[go_sem,seval]<;>((unfold fD;rw[if_pos aV]))) rfl rfl
end Go.Sg
namespace Go.Sg
open Go.RowKit
open Go.Rv (FR)
def cBs (w0:World) (I0:Nat→Prop) (A0:dD) (s:Option (Nat×ByteArray×Nat)) (w:World) (I:Nat→Prop) (A:dD):Prop:=
 f8 w0 I0 A0 w I A∧ ∀g str pos,s=some (g,str,pos)→w0.heap.size≤g∧w.heap[g]?=some (.stringIter str pos)∧ ¬I g∧ ∀t c,A t≠some (some g,c)
section
variable {w0:World} {I0:Nat→Prop} {A0:dD} {P:Program} {nt:Nat} {ρ:aN}
theorem bGx {w:World} {g:Nat} {x:Obj} (h:w.heap[g]?=some x):g<w.heap.size:=(aZy.1 h).1
theorem bZz (w0:World) (I0:Nat→Prop) (A0:dD):StF (cBs w0 I0 A0):=fun s w I A w' I' A' ρ hs h k=>
 ⟨h.1.trans k,fun g str pos e=>by
  obtain ⟨h1,h2,h3,h4⟩:=h.2 g str pos e;obtain ⟨k1,k2,k3⟩:=k.old g (bGx h2) h4;exact ⟨h1,k1.trans h2,fun x=>h3 (k2 x),k3⟩⟩
theorem aUk {f:FuncId} {fn:Func} {c:Code} {O:aN} {args:List DV} {R:aN→DV→Prop} (hf:P.funcs[f]?=some fn) (hb:fn.body=some c)
  (hn:(decide (args.length≤fn.ntmps)&&decide (fn.ntmps≤100000)&&fn.results.toList.all (fun v=>match v with| .tmp t=>decide (t<fn.ntmps)| .cell t _=>decide (t<fn.ntmps)))=true)
  (h: ∀w0 I0 A0,pL P fn.ntmps (cBs w0 I0 A0) c (fun e _ ρ=>rZ P fn O R e ρ) none (nF O args)):iC P O f args R:=
 aEo hf hb hn fun w I A a hs hd=>wpIn_mono (h w I (cG A) none [] I (cG A) a w hs hd ⟨f8.refl _ _ _,fun g str pos e=>by cases e⟩) fun e a' w' ⟨I',A',ρ',s',h1,h2,h3,h4⟩=>⟨I',A',ρ',h1,h2,h3.1,h4⟩
theorem bLk {ops:Array Oper} {o:Oper} {K:Option (Nat×ByteArray×Nat)→aN→Prop} {t:TypeId} {x:Operand} {d:Nat} {str:ByteArray} (hop:o.op=.range t x) (hg:o.guard=none) (hdst:o.dst=some d) (hd:d<nt)
  (ho:eJ nt o=true) (ht:P.underlying t=some .string) (hx:ev ρ x=.v (.string str)) {s:Option (Nat×ByteArray×Nat)} (hK: ∀g,K (some (g,str,0)) (set ρ d (.v (.pointer (some ⟨g,0,none⟩))))):lW P nt (cBs w0 I0 A0) ops o K s ρ:=by
 intro ro ds I A a w hs hdf hf next Q' hn
 have hxr:=hs.opd x (bM ho (by simp[hop,Op.operands])) (by rw[hx];trivial);rw[hx] at hxr;have hxe:a.eval x=.string str:=by
  have hxr:bP w I A (.v (.string str)) (a.eval x):=hxr;generalize a.eval x=q at hxr ⊢;cases hxr;rfl
 rw[if_pos (by simp[Region.wanted,hg])];have hrun:(execOp a.eval o).run P w=.ok (.value (.pointer (some ⟨w.heap.size,0,none⟩))) (w.alloc (.stringIter str 0)):=by
  simp only[execOp,hop,hxe,Sem.run_bind,run_range_string w t str ht,Result.andThen_ok,Sem.run_pure];rfl
 refine oO hrun ?_;have hh: ∀g,g<w.heap.size→(w.alloc (.stringIter str 0)).heap[g]?=w.heap[g]?:=fun g hg=>by
  show (w.heap.push _)[g]?=_;rw[Array.getElem?_push_lt hg,iY hg]
 have hsz:w.heap.size≤(w.alloc (.stringIter str 0)).heap.size:=by show _≤(w.heap.push _).size;simp
 have hnew:(w.alloc (.stringIter str 0)).heap[w.heap.size]?=some (.stringIter str 0):=by show (w.heap.push _)[w.heap.size]?=_;simp
 have hext:f8 w I A (w.alloc (.stringIter str 0)) I A:=⟨rfl,⟨rfl,bW _⟩,rfl,hsz,fun _ h=>h,fun g hg hA=>⟨hh g hg,fun h=>h,hA⟩,fun s g c hA _ hs=>⟨s,c,hs,hA⟩,fun _ _=>rfl⟩;have hs1:dB nt (w.alloc (.stringIter str 0)) I A ρ a:=hs.steady (fun g hg=>hh g (hs.osim.imm g hg)) (fun s g c hA=>hh g (hs.osim.sep s g c hA).1) hsz;have hs2:=hs1.put (d:=d) (v:=.v (.pointer (some ⟨w.heap.size,0,none⟩))) (x:=.pointer (some ⟨w.heap.size,0,none⟩)) hd (.ofRel (.v A _)) trivial;rw[hdst];refine hn I A _ _ _ (some (w.heap.size,str,0)) hs2 (by rw[gT];exact hdf) ⟨hf.1.trans hext,fun g str' pos e=>?_⟩ (hK _);cases e;exact ⟨hf.1.size,hnew,fun hi=>by have:=hs.osim.imm _ hi;omega,fun t c hA=>by have:=(hs.osim.sep t _ c hA).1;omega⟩
theorem aZm {ops:Array Oper} {o:Oper} {K:Option (Nat×ByteArray×Nat)→aN→Prop} {x:Operand} {d g pos:Nat} {str:ByteArray} (hop:o.op=.next x true) (hg:o.guard=none) (hdst:o.dst=some d) (hd:d<nt)
  (ho:eJ nt o=true) (hx:ev ρ x=.v (.pointer (some ⟨g,0,none⟩)))
  (hT: ∀(h:pos<str.size) (r len:Nat),((str[pos]'h).toNat<128→r=(str[pos]'h).toNat∧len=1)→(128≤(str[pos]'h).toNat→128≤r)→1≤len→K (some (g,str,pos+len)) (set ρ d (.tup [.v (.bool true),vi (pos:Nat),.v (.int .i32 (r:Nat))])))
  (hE:str.size≤pos→K (some (g,str,pos)) (set ρ d (.tup [.v (.bool false)]))):lW P nt (cBs w0 I0 A0) ops o K (some (g,str,pos)) ρ:=by
 intro ro ds I A a w hs hdf hf next Q' hn
 have hxr:=hs.opd x (bM ho (by simp[hop,Op.operands])) (by rw[hx];trivial);rw[hx] at hxr;have hxe:a.eval x=.pointer (some ⟨g,0,none⟩):=by
  have hxr:bP w I A (.v (.pointer (some ⟨g,0,none⟩))) (a.eval x):=hxr;generalize a.eval x=q at hxr ⊢;cases hxr;rfl
 rw[if_pos (by simp[Region.wanted,hg])];obtain ⟨f1,f2,f3,f4⟩:=hf.2 g str pos rfl;have hgl:=bGx f2;by_cases hp:pos<str.size
 ·generalize hdec:Utf8.decode str pos=rl;obtain ⟨r,len⟩:=rl;obtain ⟨w',hw'⟩: ∃w':World,w'={w with heap:=w.heap.setIfInBounds g (.stringIter str (pos+len))}:=⟨_,rfl⟩;have hrun:(execOp a.eval o).run P w=.ok (.value (.tuple #[.bool true,.int .i64 pos,.int .i32 r])) w':=by
   simp only[execOp,hop,hxe,Sem.run_bind,Instr.next,getObj,setObj,Sem.run,f2,Result.andThen,hp,if_true,hdec];simp[goInt,Sem.run,f2,hw',hgl]
  refine oO hrun ?_;have hh: ∀k,k≠g→w'.heap[k]?=w.heap[k]?:=fun k hk=>by
   rw[hw'];show (w.heap.setIfInBounds g _)[k]?=_;rw[Array.getElem?_setIfInBounds_ne (fC hk)]
  have hsz:w'.heap.size=w.heap.size:=by rw[hw'];simp
  have hat:w'.heap[g]?=some (.stringIter str (pos+len)):=by
   rw[hw'];show (w.heap.setIfInBounds g _)[g]?=_;simp[aBx,hgl]
  have hs1:dB nt w' I A ρ a:=hs.steady (fun k hk=>hh k fun e=>f3 (e▸hk)) (fun s k c hA=>hh k fun e=>f4 s c (e▸hA)) aV;have hr:bP w' I A (.tup [.v (.bool true),vi (pos:Nat),.v (.int .i32 (r:Nat))]) (.tuple #[.bool true,.int .i64 pos,.int .i32 r]):=.tup A _ _ rfl fun j d u hd' hu=>by
   match j with
   |0=>simp at hd' hu;subst hd';subst hu;exact .v A _
   |1=>simp at hd' hu;subst hd';subst hu;exact .v A _
   |2=>simp at hd' hu;subst hd';subst hu;exact .v A _
   |j+3=>simp at hd'
  have hs2:=hs1.put (d:=d) hd (.ofRel hr) trivial;rw[hdst];have e:=hf.1;have os1:w'.os=w.os:=by rw[hw']
  have tp1:w'.tape=w.tape:=by rw[hw']
  have dr1:w'.drawn=w.drawn:=by rw[hw']
  have ou1:w'.output=w.output:=by rw[hw']
  refine hn I A _ _ _ (some (g,str,pos+len)) hs2 (by rw[gT];exact hdf) ⟨⟨os1.trans e.os,⟨tp1.trans e.tape.1,by rw[dr1];exact e.tape.2⟩,ou1.trans e.output,by rw[hsz];exact e.size,e.imm,fun k hk hA=>⟨(hh k aV).trans (e.old k hk hA).1,(e.old k hk hA).2⟩,e.loc,e.outA⟩,fun g' str' pos' e'=>?_⟩ ?_
  ·cases e';exact ⟨f1,hat,f3,f4⟩
  refine hT hp r len (fun ha=>?_) (fun ha=>?_) ?_
  ·rw[decode_ascii str pos hp ha] at hdec;cases hdec;exact ⟨rfl,rfl⟩
  ·have:=(decode_high str pos hp ha).1;rw[hdec] at this;exact this
  rcases b9 (str[pos]'hp).toNat 128 with ha|ha
  ·rw[decode_ascii str pos hp ha] at hdec;cases hdec;omega
  have:=(decode_high str pos hp ha).2;rw[hdec] at this;exact this
 have hrun:(execOp a.eval o).run P w=.ok (.value (.tuple #[.bool false])) w:=by
  simp[execOp,hop,hxe,Instr.next,getObj,Sem.run,f2,hp,Result.andThen]
 refine oO hrun ?_;have hr:bP w I A (.tup [.v (.bool false)]) (.tuple #[.bool false]):=.tup A _ _ rfl fun j d u hd' hu=>by
  match j with
  |0=>simp at hd' hu;subst hd';subst hu;exact .v A _
  |j+1=>simp at hd'
 have hs2:=hs.put (d:=d) hd (.ofRel hr) trivial;rw[hdst];exact hn I A _ _ _ (some (g,str,pos)) hs2 (by rw[gT];exact hdf) hf (hE aV)
end
end Go.Sg
namespace Go.Sg
open Go.Proofs
abbrev bt (s:ByteArray) (i:Nat):Nat:=(s.data.getD i 0).toNat
def nmC (c:Nat):Bool:=(decide (97≤c)&&decide (c≤122))||(decide (48≤c)&&decide (c≤57))||decide (c=95)
def pE (s:ByteArray):Bool:=decide (1≤s.size∧s.size≤12∧97≤bt s 0∧bt s 0≤122)&&(List.range s.size).all fun i=>nmC (bt s i)
theorem cEz {s:ByteArray} {i:Nat} (h:i<s.size):(s[i]'h).toNat=bt s i:=by
 unfold bt;have:s.size=s.data.size:=rfl;rw[oB,iY aV];rfl
theorem cUr {s:ByteArray} (h:1≤s.size∧s.size≤12∧97≤bt s 0∧bt s 0≤122) (h2:nX (fun i=>nmC (bt s i)) s.size):pE s=true:=by
 unfold pE;rw[dF h,zG];exact t6 h2 (bW _)
theorem cUx {s:ByteArray} {i:Nat} (hi:i<s.size) (h:nmC (bt s i)=false):pE s=false:=by
 unfold pE;rw[rR hi h,aBt]
theorem cNs {s:ByteArray} (h: ¬(1≤s.size∧s.size≤12∧97≤bt s 0∧bt s 0≤122)):pE s=false:=by
 unfold pE;rw[e9 h,aYa]
theorem cIz {a b:ByteArray}:a.toList=b.toList↔a=b:=by
 constructor
 ·intro h;rw[ByteArray.toList_eq,ByteArray.toList_eq] at h;cases a;cases b;congr;exact Array.toList_inj.1 h
 intro h;rw[h]
theorem cGg {s:ByteArray}:s.size=0↔s=⟨#[]⟩:=by
 constructor
 ·intro h;cases s with|mk d=>
  have:d.size=0:=h;rw[aZw this]
 rintro rfl;rfl
theorem cLg (s:ByteArray):(s.toList==({data:= #[]}:ByteArray).toList)=decide (s.size=0):=by
 rw[rE,mV,dR,cIz,cGg]
section
attribute [local go_sem] cLg
set_option maxRecDepth 20000 in
theorem aBw (O:aN) (x:ByteArray):aZ Tryz.prog O 93 [vs x] (vb (pE x)):=by
 refine aUk Tryz.func93 rfl bF fun w0 I0 A0=>?_;have hF:=bZz w0 I0 A0;refine bI hF [0] ?_;refine aW fun _ Z1=>aW fun _ Z2=>iU hF ?_;refine cS [0] bF ?_;simp (disch:=omega) only[go_sem,seval]
 repeat refine cP (by first|(intro h;exact ⟨h,by simp only[mH,uL,tD] at h;omega⟩)|(intro h;rw[h];rfl)) ?_
 refine Z2 _ _ (cQ (fun c0=>?_) fun c0=>?_)
 ·refine bI hF [] ?_;refine dV (dN 2 (xb ?_))
  ((rw[cNs (by show ¬(1≤x.size∧x.size≤12∧97≤(x.data.getD 0 0).toNat∧(x.data.getD 0 0).toNat≤122);omega)]))
 refine bU (Z1 _ _ (aW fun _ Z4=>aW fun _ Z5=>cC (Le.keepC [0] _) ?_));refine cU ?_;refine ef hF ?_;show lW _ _ _ _ _ _ _ _;refine bLk rfl rfl rfl eN bF bF sr (fun g=>?_)
 repeat refine cP kN ?_
 refine Z5 _ _ (bZ (eY [23] (fun n sF ρ=> ∃pos,n=x.size-pos∧sF=some (g,x,pos)∧(pos≤x.size)∧(nX (fun i=>nmC (bt x i)) pos)∧ρ=dU O [(23,.v (.pointer (some ⟨g,0,none⟩)))]) _ ⟨0,rfl,rfl,?_,?_,?_⟩ ?_))
 ·exact bD
 ·exact lP _
 ·exact dT
 rintro n sF ρ ⟨pos,rfl,rfl,l0_0,l0_1,rfl⟩ _ Z6;rcases b9 pos x.size with hp|hp
 ·skip
  refine aW fun _ Z7=>cC (Le.keepC [23] _) ?_;refine cU ?_;show lW _ _ _ _ _ _ _ _;refine aZm (pos:=pos) rfl rfl rfl eN bF sr (fun hp1 r len hr1 hr2 hr3=>?_) (fun hp1=>?_)<;>try (exfalso;omega)
  refine ef hF ?_;refine Z7 _ _ (aW fun _ Z8=>aMx true (by rfl) (rfl) (fun _=>?_) (fun h=>by cases h));refine bU (Z8 _ _ (bZ (bI hF [23,24] ?_)));refine bI hF [4,23] ?_;refine cQ (fun c2=>?_) fun c2=>?_
  ·refine bI hF [] ?_;refine dV (dN 2 (xb ?_))
   ((symm;refine cUx hp1 ?_;rw[cEz hp1] at hr1 hr2;unfold nmC;simp only[uL,Bool.and_eq_false_iff,tD];omega))
  refine bU ?_;obtain ⟨hl,hc⟩:len=1∧nmC (bt x pos)=true:=by
   rw[cEz hp1] at hr1 hr2;have hr:r=bt x pos∧len=1:=hr1 aV;refine ⟨hr.2,?_⟩;unfold nmC;simp only[pQ,cD,dR];omega
  subst hl;refine Z6 _ _ _ bD ⟨pos+1,rfl,rfl,bD,?_,dT⟩
  ·exact kE l0_1 hc
 skip
 refine aW fun _ Z12=>cC (Le.keepC [23] _) ?_;refine cU ?_;show lW _ _ _ _ _ _ _ _;refine aZm (pos:=pos) rfl rfl rfl eN bF sr (fun hp1 r len hr1 hr2 hr3=>?_) (fun hp1=>?_)<;>try (exfalso;omega)
 refine ef hF ?_;refine Z12 _ _ (aW fun _ Z13=>aMx false (by rfl) (rfl) (fun h=>by cases h) (fun _=>?_));refine fV (Z4 _ _ (bI hF [] ?_));refine dV (dN 2 (xb ?_))
 ((symm;exact cUr (show 1≤x.size∧x.size≤12∧97≤(x.data.getD 0 0).toNat∧(x.data.getD 0 0).toNat≤122 by omega) (by rw[show x.size=pos by omega];exact l0_1)))
end
def inI (a lo hi:Int):Bool:=decide (lo≤a∧a≤hi)
def exB (l:aC) (e:fH):Bool:=decide (0≤e.fEl∧e.fEl<(l.xAh.length:Int))&&decide (0≤e.xAj∧e.xAj<mD (lI l e.fEl.toNat).xAp)
theorem aFi (k:Int):0≤mD k∧mD k≤4:=by unfold mD;split;omega;split;omega;split<;>omega
def aPm (l:aC):Bool:=decide (1≤l.xAh.length∧l.xAh.length≤32∧1≤l.xAe.length∧l.xAe.length≤24∧l.xAa.length≤20∧l.xAu.length≤24)
def aFn (l:aC) (x:mZ):Bool:=decide ((1≤x.xAp∧x.xAp≤3)∧(500≤x.xAn∧x.xAn≤1000000)∧(-50≤x.xCa∧x.xCa≤50)∧(100≤x.xBa∧x.xBa≤10000)∧(0≤x.xBb∧x.xBb<(l.xAe.length:Int))∧(x.xAp=2→100≤x.xCg∧x.xCg≤x.xBa)∧(x.xAp≠2→x.xCg=0))
def pK (l:aC):Bool:=l.xAh.all (aFn l)
def aPz (l:aC):Bool:=(List.range l.xAe.length).all fun s=>decide ((bSc l (s:Nat)).length≠0)
theorem dP (O:aN) (a lo hi:Int):aZ Tryz.prog O 92 [vi a,vi lo,vi hi] (vb (inI a lo hi)):=by
 refine eV Tryz.func92 ?_;refine aB [0,1,2] ?_;refine aB [0,1,2] ?_;refine aL (dN 6 (xb ?_))
 ((unfold inI;rw[rE];simp))
theorem qV (O:aN) (l:aC) (e:fH) (hl:gO l):aZ Tryz.prog O 95 [.agg (aQ l),.agg (fM e)] (vb (exB l e)):=by
 have hl1:=hl.sec;have hl2:=hl.el;have hl3:=hl.jo;have hl4:=hl.sg;have hl5:=hl.bl;have hsd:=aFi (lI l e.fEl.toNat).xAp;have hsd2:=aFi (l.xAh.getD e.fEl.toNat default).xAp;refine eV Tryz.func95 ?_;refine aB [0,1] ?_;refine aA fun _ Z1=>nP [2,3] [] kR bF ?_;simp (disch:=omega) only[go_sem,seval]
 repeat refine cP (by first|(intro h;exact ⟨h,by simp only[inI,dR] at h;omega⟩)|exact kN) ?_
 refine lU (dP _ e.fEl 0 (l.xAh.length-1:Int)) ?_ ?_
 ·rfl
 try simp (disch:=omega) only[go_sem,seval]
 repeat refine cP (by first|(intro h;exact ⟨h,by simp only[inI,dR] at h;omega⟩)|exact kN) ?_
 refine rD (fun g0=>aBj _ (lI l e.fEl.toNat).xAp) ?_ ?_ ?_
 ·first|exact fun _=>trivial|simp
 ·rfl
 try simp (disch:=omega) only[go_sem,seval]
 repeat refine cP (by first|(intro h;exact ⟨h,by simp only[inI,dR] at h;omega⟩)|exact kN) ?_
 refine rD (fun g1=>dP _ e.xAj 0 (mD (lI l e.fEl.toNat).xAp-1)) ?_ ?_ ?_
 ·first|exact fun _=>trivial|simp
 ·rfl
 try simp (disch:=omega) only[go_sem,seval]
 repeat refine cP (by first|(intro h;exact ⟨h,by simp only[inI,dR] at h;omega⟩)|exact kN) ?_
 refine Z1 _ (aL (dN 4 (xb ?_)))
 ((unfold exB;rw[rE];simp only[inI,lI,cD,dR];omega))
theorem aAv (O:aN) (l:aC):aZ Tryz.prog O 49 [.agg (aQ l)] (vb (aPm l)):=by
 refine bG 0 rfl (.agg (d:=sL l.xAh) (by simp[aQ]) (.sl _ _ _)) fun he=>?_;refine bG 0 rfl (.agg (d:=uK l.xAa) (by simp[aQ]) (.sl _ _ _)) fun hs=>?_;refine bG 0 rfl (.agg (d:=uV l.xAe) (by simp[aQ]) (.sl _ _ _)) fun hc=>?_;refine bG 0 rfl (.agg (d:=aRe l.xAu) (by simp[aQ]) (.sl _ _ _)) fun hb=>?_;refine eV Tryz.func49 ?_;refine aB [0] ?_;refine aA fun _ Z1=>bN [1] ?_;refine f9 (dP _ (l.xAh.length:Nat) 1 32) ?_;refine rO (fun g0=>dP _ (l.xAe.length:Nat) 1 24) ?_;refine Z1 _ (aL (dN 2 (xb ?_)))
 ((unfold aPm;rw[rE];simp only[inI,cD,dR];omega))
theorem x5 (O:aN) (l:aC) (hl:gO l):aZ Tryz.prog O 51 [.agg (aQ l)] (vb (pK l)):=by
 have hl1:=hl.sec;have hl2:=hl.el;have hl3:=hl.jo;have hl4:=hl.sg;have hl5:=hl.bl;refine bG 0 rfl (.agg (d:=sL l.xAh) (by simp[aQ]) (.sl _ _ _)) fun he=>?_;refine eV Tryz.func51 ?_;refine aB [0] ?_;refine aA fun _ Z1=>aB [1] ?_;refine aI (aX [1,6,7,8] (fun n ρ=> ∃i,n=l.xAh.length-i∧(i≤l.xAh.length)∧(m0 (aFn l) l.xAh i)∧ρ=dU O [(1,.bx (aQ l)),(6,sL l.xAh),(7,vi (l.xAh.length:Nat)),(8,vi (i:Nat))]) _ ⟨0,rfl,?_,?_,?_⟩ ?_)
 ·exact bD
 ·exact i8 _ _
 ·exact dT
 rintro n ρ ⟨i,rfl,l0_0,l0_1,rfl⟩ _ Z3;refine aB [1,5,6,7,8] ?_;refine aA fun _ Z5=>aO (fun c0=>?_) fun c0=>?_
 ·refine aD (Z5 _ (aA fun _ Z6=>aI (aB [1,5,6,7,8] ?_)));refine aA fun _ Z8=>aA fun _ Z9=>bN [1,4,5,6,7,8] ?_;refine f9 (dP _ (l.xAh.getD i default).xAp 1 3) ?_;refine rO (fun g0=>dP _ (l.xAh.getD i default).xAn 500 1000000) ?_;refine rO (fun g1=>dP _ (l.xAh.getD i default).xCa (-50) 50) ?_;refine rO (fun g2=>dP _ (l.xAh.getD i default).xBa 100 10000) ?_;refine rO (fun g3=>dP _ (l.xAh.getD i default).xBb 0 (l.xAe.length-1:Int)) ?_;refine Z9 _ (aO (fun c1=>?_) fun c1=>?_)
  ·refine aB [] ?_;refine aL (dN 2 (xb ?_))
   ((symm;exact nK (f:=aFn l) c0 (by unfold aFn;rw[tD];simp only[inI,pQ,mH,tD,dR,cD,bne_iff_ne,mV,ne_eq] at c1;omega)))
  refine aD (Z8 _ (aA fun _ Z11=>bN [1,4,5,6,7,8] ?_));refine rO (fun g4=>dP _ (l.xAh.getD i default).xCg 100 (l.xAh.getD i default).xBa) ?_;refine Z11 _ (aO (fun c2=>?_) fun c2=>?_)
  ·refine aB [] ?_;refine aL (dN 2 (xb ?_))
   ((symm;exact nK (f:=aFn l) c0 (by unfold aFn;rw[tD];simp only[inI,pQ,mH,tD,dR,cD,bne_iff_ne,mV,ne_eq] at c1 c2;omega)))
  refine aD (Z6 _ (bE [1,5,6,7,8] ?_));refine Z3 _ _ bD ⟨i+1,rfl,bD,?_,dT⟩
  ·exact jA l0_1 (by unfold aFn;rw[dR];simp only[inI,pQ,mH,tD,dR,cD,bne_iff_ne,mV,ne_eq] at c1 c2;omega)
 refine bA (Z1 _ (aB [] ?_));refine aL (dN 2 (xb ?_))
 ((symm;exact pF l0_1 c0))
theorem wP (O:aN) (l:aC) (hl:gO l):aZ Tryz.prog O 52 [.agg (aQ l)] (vb (aPz l)):=by
 have hl1:=hl.sec;have hl2:=hl.el;have hl3:=hl.jo;have hl4:=hl.sg;have hl5:=hl.bl;refine bG 0 rfl (.agg (d:=uV l.xAe) (by simp[aQ]) (.sl _ _ _)) fun hc=>?_;refine eV Tryz.func52 ?_;refine aB [0] ?_;refine aA fun _ Z1=>aB [1] ?_;refine aI (aX [1,6,7] (fun n ρ=> ∃i,n=l.xAe.length-i∧(i≤l.xAe.length)∧(nX (fun s=>decide ((bSc l (s:Nat)).length≠0)) i)∧ρ=dU O [(1,.bx (aQ l)),(6,vi (l.xAe.length:Nat)),(7,vi (i:Nat))]) _ ⟨0,rfl,?_,?_,?_⟩ ?_)
 ·exact bD
 ·exact lP _
 ·exact dT
 rintro n ρ ⟨i,rfl,l0_0,l0_1,rfl⟩ _ Z3;refine aB [1,6,7] ?_;refine aA fun _ Z5=>aO (fun c0=>?_) fun c0=>?_
 ·refine aD (Z5 _ (aA fun _ Z6=>aI (aB [1,6,7] ?_)));refine aA fun _ Z8=>bN [1,3,6,7] ?_;refine f9 (aDn _ l (i:Nat) hl) ?_;refine Z8 _ (aO (fun c1=>?_) fun c1=>?_)
  ·refine aB [] ?_;refine aL (dN 2 (xb ?_))
   ((symm;exact rR c0 (e9 aV)))
  refine aD (Z6 _ (bE [1,6,7] ?_));refine Z3 _ _ bD ⟨i+1,rfl,bD,?_,dT⟩
  ·exact kE l0_1 (dF aV)
 refine bA (Z1 _ (aB [] ?_));refine aL (dN 2 (xb ?_))
 ((symm;exact t6 l0_1 c0))
end Go.Sg
namespace Go.Rv
open Go.RowKit Go.Sg
inductive Tr (α:Type) where
 |e
 |n (v:Option α) (a b c d:Tr α)
inductive RV where
 |und
 |nov
 |bool (b:Bool)
 |int (k:IntKind) (n:Int)
 |str (s:ByteArray)
 |nilp
 |ptr (b off:Nat)
 |gp (g off:Nat)
 |yl (b:Nat)
 |nils
 |em
 |sl (b off len z:Nat) (cap:Option Nat) (full:Bool)
 |nilm
 |mp (b:Nat)
 |nilf
 |nili
 |fn (f:FuncId) (first captured:List RV)
 |agg (cs:List RV)
 |tup (cs:List RV)
 |ifc (t:TypeId) (x:RV)
instance:Inhabited RV:=⟨.und⟩
inductive Blk where
 |cells (e:TypeId) (cs:List RV)
 |map (es:List (Value×RV×Nat)) (clock:Nat)
 |it (s:ByteArray) (pos:Nat)
 |rom (cs:List RV)
 |lp (st:LoopState) (pe:Option Code) (t:Tr RV) (nt:Nat) (ps:List Tmp) (asg body:Code)
abbrev Emb:=Nat→Option (Nat×Nat)
inductive Rr (E:Emb):RV→Value→Prop
 |und (x:Value):Rr E .und x
 |nov:Rr E .nov undef
 |bool (b:Bool):Rr E (.bool b) (.bool b)
 |int (k:IntKind) (n:Int):Rr E (.int k n) (.int k n)
 |str (s:ByteArray):Rr E (.str s) (.string s)
 |nilp:Rr E .nilp (.pointer none)
 |ptr (b off g s:Nat) (h:E b=some (g,s)):Rr E (.ptr b off) (.pointer (some ⟨g,off,none⟩))
 |gp (g off:Nat):Rr E (.gp g off) (.pointer (some ⟨g,off,none⟩))
 |yl (b g s:Nat) (h:E b=some (g,s)):Rr E (.yl b) (.func (.yield g) #[] #[])
 |nils:Rr E .nils (.slice none 0 0)
 |em (b:Option Addr) (c:Nat):Rr E .em (.slice b 0 c)
 |sl (b off len z:Nat) (cap:Option Nat) (full:Bool) (g s c:Nat) (h:E b=some (g,s)) (hl:len≤c) (hm:c≤maxLen) (hs:off+c*z≤s) (hf:full=true→off+c*z=s) (hc: ∀k,cap=some k→c=k):
   Rr E (.sl b off len z cap full) (.slice (some ⟨g,off,none⟩) len c)
 |nilm:Rr E .nilm (.map none)
 |mp (b g s:Nat) (h:E b=some (g,s)):Rr E (.mp b) (.map (some g))
 |nilf:Rr E .nilf .nilFunc
 |nili:Rr E .nili .nilIface
 |fn (f:FuncId) (fs cs:List RV) (us vs:Array Value) (hf:fs.length=us.size) (hc:cs.length=vs.size) (hfr: ∀(j:Nat) (d:RV) (u:Value),fs[j]?=some d→us[j]?=some u→Rr E d u)
   (hcr: ∀(j:Nat) (d:RV) (u:Value),cs[j]?=some d→vs[j]?=some u→Rr E d u):Rr E (.fn f fs cs) (.func (.func f) us vs)
 |agg (cs:List RV) (vs:Array Value) (hl:cs.length=vs.size) (hone: ∀u∈vs.toList,u.oneCell'=true) (hrel: ∀(j:Nat) (d:RV) (u:Value),cs[j]?=some d→vs[j]?=some u→Rr E d u):Rr E (.agg cs) (.agg vs)
 |tup (cs:List RV) (vs:Array Value) (hl:cs.length=vs.size) (hrel: ∀(j:Nat) (d:RV) (u:Value),cs[j]?=some d→vs[j]?=some u→Rr E d u):Rr E (.tup cs) (.tuple vs)
 |ifc (t:TypeId) (d:RV) (x:Value) (h:Rr E d x):Rr E (.ifc t d) (.iface t x)
abbrev Hp:=Nat→Option Blk
section
variable {lo:Nat} {E:Emb} {h:Hp} {n m:Nat} {w:World}
end
end Go.Rv
namespace Go.Rv
open Go.RowKit Go.Sg
noncomputable section
def goodB (P:Program) (k:TypeId) (v:Value):Bool:=
 match P.underlying k with
 |some .bool=>(match v with| .bool _=>true|_=>false)
 |some (.int q)=>(match v with| .int q' _=>decide (q'=q)|_=>false)
 |some .string=>(match v with| .string _=>true|_=>false)
 |some (.array _ _)=>(keyOf P k v).isSome&&P.keyTypeAt 8 k&&P.tiled 8 k
 |some (.struct _)=>(keyOf P k v).isSome&&P.keyTypeAt 8 k&&P.tiled 8 k
 |_=>false
section
variable {P:Program} {k:TypeId}
structure KeyRun (P:Program) (k:TypeId):Prop where
 check: ∀(w:World) (em:Bool) {v:Value},goodB P k v=true→(Instr.checkKey em 10000 k v).run P w=.ok () w
 find: ∀(w:World) {x:Value},goodB P k x=true→ ∀es:List MapEntry,(∀e∈es,goodB P k e.key=true)→
  ((Instr.findKey k x es).run P w=.ok none w∧ ∀e∈es,e.key≠x)∨ ∃j e,(Instr.findKey k x es).run P w=.ok (some (j,e.val)) w∧es[j]?=some e∧e.key=x
 stays: ∀(w:World) {v:Value},goodB P k v=true→(Instr.keyThatStays v v).run P w=.ok v w
theorem xP {d:TypeDesc} (hd:P.underlying k=some d) (hg: ∀v,goodB P k v=true→MapKept.IsKey d v):KeyRun P k where
 check:=fun w em v hv=>MapKept.run_checkKey hd (hg v hv) em 9999
 find:=fun w x hx es hes=>by
  rcases MapKept.findNow_spec (hg x hx) es 0 (fun e he=>hg _ (hes e he)) with ⟨h1,h2⟩|⟨j,e,h1,h2,h3⟩
  ·exact .inl ⟨MapKept.run_findKey hd h1,h2⟩
  exact .inr ⟨j,e,by rw[MapKept.run_findKey hd h1,gH],h2,h3⟩
 stays:=fun w v hv=>MapKept.run_keyThatStays (hg v hv)
theorem aIj (hw:(match P.underlying k with|some (.array _ _)|some (.struct _)=>true|_=>false)=true) (hk:P.keyTypeAt 8 k=true) (ht:P.tiled 8 k=true)
  (hg: ∀v,goodB P k v=true→ ∃l,keyOf P k v=some l):KeyRun P k where
 check:=fun w em v hv=>by obtain ⟨l,hl⟩:=hg v hv;exact (deep_law (m:=8) aV hk ht hw).check w em hl
 find:=fun w x hx es hes=>by
  obtain ⟨l,hl⟩:=hg x hx;exact (deep_law (m:=8) aV hk ht hw).find w hl es fun e he=>hg _ (hes e he)
 stays:=fun w v hv=>by obtain ⟨l,hl⟩:=hg v hv;exact (deep_law (m:=8) aV hk ht hw).stays w hl
theorem keyRun_of {v:Value} (h:goodB P k v=true):KeyRun P k:=by
 cases hu:P.underlying k with
 |none=>simp[goodB,hu] at h
 |some d=>
  cases d with
  |bool=>exact xP hu fun v hv=>by cases v<;>simp[goodB,hu] at hv<;>trivial
  |int q=>exact xP hu fun v hv=>by cases v<;>simp[goodB,hu] at hv;exact hv
  |string=>exact xP hu fun v hv=>by cases v<;>simp[goodB,hu] at hv<;>trivial
  |array n e=>
   simp[goodB,hu] at h;exact aIj (by simp[hu]) h.1.2 h.2 fun v hv=>by simp[goodB,hu] at hv;exact nQ.1 hv.1.1
  |struct fs=>
   simp[goodB,hu] at h;exact aIj (by simp[hu]) h.1.2 h.2 fun v hv=>by simp[goodB,hu] at hv;exact nQ.1 hv.1.1
  |_=>simp[goodB,hu] at h
end
end
end Go.Rv
namespace Go.Sg
open Go.RowKit
open Go.Rv (goodB KeyRun keyRun_of)
section
variable {P:Program} {nt:Nat} {ρ:aN} {ops:Array Oper}
theorem bAu {o:Oper} {K:aN→Prop} {t:TypeId} {x k:Operand} {s:Nat} {kt e:TypeId} {i:TypeInfo} {z kv:Value} {es:List (Value×Value)} (hop:o.op=.lookup t x k false) (hg:o.guard=none) (ho:eJ nt o=true) (hd:jH nt o=true)
  (hx:ev ρ x=.mr s) (hes:ρ s=.mo es) (hk:gd (ev ρ k)) (hkv: ∀w I A v,bP w I A (un (ev ρ k)) v→v=kv) (u1:P.underlying t=some (.map kt e)) (u3:P.info? e=some i) (u4:i.zero=some z)
  (hgk:goodB P kt kv=true) (hges: ∀e∈es,goodB P kt e.1=true)
  (hN:(∀e∈es,e.1≠kv)→K (cO ρ o.dst (.v z))) (hS: ∀es1 v es2,es=es1++(kv,v)::es2→K (cO ρ o.dst (.v v))):OW P nt ops o K ρ:=by
 refine iF hg fun I A a w hs=>?_;have hxr:=hs.opd x (bM ho (by simp[hop,Op.operands])) (by rw[hx];trivial);have hkr:=hkv _ _ _ _ (hs.opd k (bM ho (by simp[hop,Op.operands])) hk);rw[hx] at hxr;have hxr:bP w I A (.mr s) (a.eval x):=hxr;generalize hav:a.eval x=av at*;cases hxr with
 |mr _ _ g c hA=>
  have hown:=hs.osim.own s;rw[hes] at hown;obtain ⟨g',c',vs,cl,q1,q2,q3⟩:=hown;rw[hA] at q1;simp only[bX,cF] at q1;obtain ⟨rfl,rfl⟩:=q1;have kr:KeyRun P kt:=keyRun_of hgk;have hvs: ∀e∈vs,goodB P kt e.key=true:=fun m hm=>hges (m.key,m.val) (by rw[← q3];exact dZ.2 ⟨m,hm,rfl⟩);have hck:=kr.check w (vs.toArray.isEmpty) hgk;rcases kr.find w hgk vs hvs with ⟨f1,f2⟩|⟨j,m,f1,f2,f3⟩
  ·refine ⟨z,w,I,A,_,?_,hs.putV hd (.v _ _),f8.refl _ _ _,hN fun e he=>?_⟩
   ·simp only[execOp,hop,hav,hkr,Instr.lookup,Sem.run_bind,run_underlying u1,MapKept.run_getObj_map q2,Result.andThen_ok,Sem.run_pure,hck];simp[f1,zeroValue,typeInfo,u3,u4]
   rw[← q3] at he;obtain ⟨m,hm,rfl⟩:=dZ.1 he;exact f2 m hm
  refine ⟨m.val,w,I,A,_,?_,hs.putV hd (.v _ _),f8.refl _ _ _,hS (es.take j) m.val (es.drop (j+1)) ?_⟩
  ·simp only[execOp,hop,hav,hkr,Instr.lookup,Sem.run_bind,run_underlying u1,MapKept.run_getObj_map q2,Result.andThen_ok,Sem.run_pure,hck];simp[f1]
  rw[← q3,← f3];have hj:j<vs.length:=by
   rcases b9 j vs.length with h|h
   ·exact h
   rw[fN h] at f2;cases f2
  have hj2:(vs.map (fun (m:MapEntry)=>(m.key,m.val)))[j]?=some (m.key,m.val):=by rw[dG,f2];rfl
  have hlt:j<(vs.map (fun (m:MapEntry)=>(m.key,m.val))).length:=by simp[hj]
  rw[cH hlt] at hj2;have:=u6 j (vs.map (fun (m:MapEntry)=>(m.key,m.val)));rw[aMf hlt,dO hj2] at this;exact this.symm
theorem aGr {es:List (Value×Value)} {vs:List MapEntry} (q3:vs.map (fun (m:MapEntry)=>(m.key,m.val))=es) {j:Nat} {m:MapEntry} (f2:vs[j]?=some m):es=es.take j++(m.key,m.val)::es.drop (j+1):=by
 subst q3;have hj:j<vs.length:=by
  rcases b9 j vs.length with h|h
  ·exact h
  rw[fN h] at f2;cases f2
 have hj2:(vs.map (fun (m:MapEntry)=>(m.key,m.val)))[j]?=some (m.key,m.val):=by rw[dG,f2];rfl
 have hlt:j<(vs.map (fun (m:MapEntry)=>(m.key,m.val))).length:=by simp[hj]
 rw[cH hlt] at hj2;have:=u6 j (vs.map (fun (m:MapEntry)=>(m.key,m.val)));rw[aMf hlt,dO hj2] at this;exact this.symm
theorem bAo {o:Oper} {K:aN→Prop} {t:TypeId} {x k y:Operand} {s:Nat} {kt e:TypeId} {kv v:Value} {es:List (Value×Value)} (hop:o.op=.mapUpdate t x k y∨o.op=.insert t x k y) (hg:o.guard=none) (hdst:o.dst=none) (ho:eJ nt o=true)
  (hx:ev ρ x=.mr s) (hes:ρ s=.mo es) (hk:gd (ev ρ k)) (hkv: ∀w I A v,bP w I A (un (ev ρ k)) v→v=kv) (hy:ev ρ y=.v v) (u1:P.underlying t=some (.map kt e))
  (hgk:goodB P kt kv=true) (hges: ∀e∈es,goodB P kt e.1=true)
  (hN:(∀e∈es,e.1≠kv)→K (set ρ s (.mo (es++[(kv,v)])))) (hS: ∀es1 u es2,es=es1++(kv,u)::es2→K (set ρ s (.mo (es1++(kv,v)::es2)))):OW P nt ops o K ρ:=by
 refine aAj hg fun I A a w hs=>?_;have hmem: ∀q,q=x∨q=k∨q=y→q∈o.op.operands:=fun q hq=>by rcases hop with h|h<;>rw[h]<;>simp[Op.operands]<;>rcases hq with rfl|rfl|rfl<;>simp
 have hxr:=hs.opd x (bM ho (hmem x (.inl rfl))) (by rw[hx];trivial);have hkr:=hkv _ _ _ _ (hs.opd k (bM ho (hmem k (.inr (.inl rfl)))) hk);have hyr:=hs.opd y (bM ho (hmem y (.inr (.inr rfl)))) (by rw[hy];trivial);rw[hx] at hxr;rw[hy] at hyr;have hxr:bP w I A (.mr s) (a.eval x):=hxr;have hyr:bP w I A (.v v) (a.eval y):=hyr;generalize hav:a.eval x=av at*;generalize hyv:a.eval y=yv at*;cases hyr;cases hxr with
 |mr _ _ g c hA=>
  have hown:=hs.osim.own s;rw[hes] at hown;obtain ⟨g',c',vs,cl,q1,q2,q3⟩:=hown;rw[hA] at q1;simp only[bX,cF] at q1;obtain ⟨rfl,rfl⟩:=q1;have kr:KeyRun P kt:=keyRun_of hgk;have hvs: ∀e∈vs,goodB P kt e.key=true:=fun m hm=>hges (m.key,m.val) (by rw[← q3];exact dZ.2 ⟨m,hm,rfl⟩);have hck:=kr.check w false hgk;have hst:=kr.stays w hgk;rcases kr.find w hgk vs hvs with ⟨f1,f2⟩|⟨j,m,f1,f2,f3⟩
  ·have hset:=MapKept.heap_set (o':=.map (vs++[({key:=kv,val:=v,born:=cl}:MapEntry)]).toArray (cl+1)) q2;refine ⟨{w with heap:=w.heap.setIfInBounds g (.map (vs++[({key:=kv,val:=v,born:=cl}:MapEntry)]).toArray (cl+1))},I,A,_,?_,?_,f8.turnO hA hset.2 dH rfl ⟨rfl,bW _⟩ rfl,hN fun e he=>?_⟩
   ·rcases hop with h|h<;>simp[execOp,h,hav,hkr,hyv,Instr.mapUpdate,run_underlying u1,MapKept.run_getObj_map q2,hck,f1,MapKept.run_setObj_map _ q2]
   ·rw[hdst];refine hs.turnO hA hset.2 dH (fun x' hx'=>?_) ⟨g,c,_,_,hA,hset.1,by rw[eM,q3];rfl⟩ fun _=>rfl;rw[hes] at hx';exact hx'
   rw[← q3] at he;obtain ⟨m,hm,rfl⟩:=dZ.1 he;exact f2 m hm
  have hspl:=aGr q3 f2;rw[f3] at hspl;have hjl:j<vs.length:=by
   rcases b9 j vs.length with h|h
   ·exact h
   rw[fN h] at f2;cases f2
  have hset:=MapKept.heap_set (o':=.map (vs.toArray.modify j fun e=>{e with key:=kv,val:=v}) cl) q2;refine ⟨{w with heap:=w.heap.setIfInBounds g (.map (vs.toArray.modify j fun e=>{e with key:=kv,val:=v}) cl)},I,A,_,?_,?_,f8.turnO hA hset.2 dH rfl ⟨rfl,bW _⟩ rfl,hS _ _ _ hspl⟩
  ·have hkey:((vs.toArray[j]?).map (·.key)).getD kv=kv:=by simp[f2,f3]
   rcases hop with h|h<;>simp[execOp,h,hav,hkr,hyv,Instr.mapUpdate,run_underlying u1,MapKept.run_getObj_map q2,hck,f1,f2,f3,hst,MapKept.run_setObj_map _ q2]
  rw[hdst];refine hs.turnO hA hset.2 dH (fun x' hx'=>?_) ⟨g,c,(vs.modify j fun e=>{e with key:=kv,val:=v}),cl,hA,by rw[hset.1];congr 2;simp,?_⟩ fun _=>rfl
  ·rw[hes] at hx';exact hx'
  apply List.ext_getElem?;intro q;rw[dG,List.getElem?_modify];have hq:es[q]?=(vs[q]?).map fun (m:MapEntry)=>(m.key,m.val):=by rw[← q3,dG]
  have hjes:j≤es.length:=by rw[← q3];simp;omega
  rcases Nat.lt_trichotomy q j with h1|h1|h1
  ·rw[bVy (by rw[iO];omega),oR,if_pos h1,hq];cases vs[q]? with
   |none=>rfl
   |some m'=>simp[show j≠q by omega]
  ·subst h1;rw[aYl (by rw[iO];omega),iO,qP hjes,Nat.sub_self,List.getElem?_cons_zero,f2];simp
  rw[aYl (by rw[iO];omega),iO,qP hjes];obtain ⟨r,hr⟩: ∃r,q-j=r+1:=⟨q-j-1,by omega⟩;rw[hr,aEd,sC,show j+1+r=q by omega,hq];cases vs[q]? with
  |none=>rfl
  |some m'=>simp[show j≠q by omega]
theorem bAe {o:Oper} {K:aN→Prop} {t ty2:TypeId} {x k:Operand} {s:Nat} {kt e:TypeId} {kv:Value} {es:List (Value×Value)} (hop:o.op=.call ⟨.builtin .delete,#[x,k],#[t,ty2]⟩) (hg:o.guard=none) (hdst:o.dst=none) (ho:eJ nt o=true)
  (hx:ev ρ x=.mr s) (hes:ρ s=.mo es) (hk:gd (ev ρ k)) (hkv: ∀w I A v,bP w I A (un (ev ρ k)) v→v=kv) (u1:P.underlying t=some (.map kt e))
  (hgk:goodB P kt kv=true) (hges: ∀e∈es,goodB P kt e.1=true)
  (hN:(∀e∈es,e.1≠kv)→K (set ρ s (.mo es))) (hS: ∀es1 u es2,es=es1++(kv,u)::es2→K (set ρ s (.mo (es1++es2)))):OW P nt ops o K ρ:=by
 refine iF hg fun I A a w hs=>?_;have hxr:=hs.opd x (bM ho (by simp[hop,Op.operands,Call.operands])) (by rw[hx];trivial);have hkr:=hkv _ _ _ _ (hs.opd k (bM ho (by simp[hop,Op.operands,Call.operands])) hk);rw[hx] at hxr;have hxr:bP w I A (.mr s) (a.eval x):=hxr;generalize hav:a.eval x=av at*;cases hxr with
 |mr _ _ g c hA=>
  have hown:=hs.osim.own s;rw[hes] at hown;obtain ⟨g',c',vs,cl,q1,q2,q3⟩:=hown;rw[hA] at q1;simp only[bX,cF] at q1;obtain ⟨rfl,rfl⟩:=q1;have kr:KeyRun P kt:=keyRun_of hgk;have hvs: ∀e∈vs,goodB P kt e.key=true:=fun m hm=>hges (m.key,m.val) (by rw[← q3];exact dZ.2 ⟨m,hm,rfl⟩);have hck:=kr.check w (vs.toArray.isEmpty) hgk;have exec: ∀w',(Builtin.delete_ #[t,ty2] o.type #[.map (some g),kv]).run P w=.ok (.tuple #[]) w'→(execOp a.eval o).run P w=.ok (.value (.tuple #[])) w':=fun w' hw=>by
   simp only[execOp,hop,resolve,Sem.run_bind,Sem.run_pure,Result.andThen_ok,invoke,builtin,List.map_toArray,kH,sI,hav,hkr];rw[hw];rfl
  rcases kr.find w hgk vs hvs with ⟨f1,f2⟩|⟨j,m,f1,f2,f3⟩
  ·have hset:=MapKept.heap_set (o':=.map vs.toArray cl) q2;refine ⟨_,{w with heap:=w.heap.setIfInBounds g (.map vs.toArray cl)},I,A,_,exec _ ?_,?_,f8.turnO hA hset.2 dH rfl ⟨rfl,bW _⟩ rfl,hN fun e he=>?_⟩
   ·simp only[Builtin.delete_,Sem.run_bind,run_underlying u1,MapKept.run_getObj_map q2,Result.andThen_ok,Sem.run_pure,hck,xR,List.getElem?_cons_zero,aEd];simp[f1,MapKept.run_setObj_map _ q2]
   ·rw[hdst];refine hs.turnO hA hset.2 dH (fun x' hx'=>?_) ⟨g,c,vs,cl,hA,hset.1,q3⟩ fun _=>rfl;rw[hes] at hx';exact hx'
   rw[← q3] at he;obtain ⟨m,hm,rfl⟩:=dZ.1 he;exact f2 m hm
  have hspl:=aGr q3 f2;rw[f3] at hspl;have hjl:j<vs.length:=by
   rcases b9 j vs.length with h|h
   ·exact h
   rw[fN h] at f2;cases f2
  have hset:=MapKept.heap_set (o':=.map (vs.toArray.eraseIdxIfInBounds j) cl) q2;refine ⟨_,{w with heap:=w.heap.setIfInBounds g (.map (vs.toArray.eraseIdxIfInBounds j) cl)},I,A,_,exec _ ?_,?_,f8.turnO hA hset.2 dH rfl ⟨rfl,bW _⟩ rfl,hS _ _ _ hspl⟩
  ·simp only[Builtin.delete_,Sem.run_bind,run_underlying u1,MapKept.run_getObj_map q2,Result.andThen_ok,Sem.run_pure,hck,xR,List.getElem?_cons_zero,aEd];simp[f1,MapKept.run_setObj_map _ q2]
  rw[hdst];refine hs.turnO hA hset.2 dH (fun x' hx'=>?_) ⟨g,c,vs.eraseIdx j,cl,hA,by rw[hset.1];congr 2;simp[Array.eraseIdxIfInBounds,hjl],?_⟩ fun _=>rfl
  ·rw[hes] at hx';exact hx'
  rw[← q3,List.eraseIdx_eq_take_drop_succ,eM,List.map_take,List.map_drop]
end
end Go.Sg
namespace Go.Sg
open Go.RowKit
open Go.Rv (KeyRun keyRun_of goodB)
theorem cEs {w:World} {I:Nat→Prop} {A:dD} {d:DV} {v:Value} (ok:Bool) (h:bP w I A d v) (b:Bool):bP w I A (bif ok then .tup [d,.v (.bool b)] else d) (bif ok then .tuple #[v,.bool b] else v):=by
 cases ok with
 |false=>exact h
 |true=>
  refine .tup A _ _ rfl fun j d' u hd hu=>?_
  match j with
  |0=>simp at hd hu;subst hd;subst hu;exact h
  |1=>simp at hd hu;subst hd;subst hu;exact .v A _
  |j+2=>simp at hd
section
variable {P:Program} {nt:Nat} {ρ:aN} {ops:Array Oper}
theorem bBv {o:Oper} {K:aN→Prop} {t:TypeId} {x k:Operand} {s:Nat} {kt e:TypeId} {i:TypeInfo} {z kv:Value} {ok:Bool} {es:List (Value×Value)} (hop:o.op=.lookup t x k ok) (hg:o.guard=none) (ho:eJ nt o=true) (hd:jH nt o=true)
  (hx:ev ρ x=.mr s) (hes:ρ s=.mo es) (hk:gd (ev ρ k)) (hkv: ∀w I A v,bP w I A (un (ev ρ k)) v→v=kv) (u1:P.underlying t=some (.map kt e)) (u3:P.info? e=some i) (u4:i.zero=some z)
  (hgk:goodB P kt kv=true) (hges: ∀e∈es,goodB P kt e.1=true)
  {dz:DV} (hz: ∀w I A,bP w I A dz z) (hN:(∀e∈es,e.1≠kv)→K (cO ρ o.dst (bif ok then .tup [dz,.v (.bool false)] else dz))) (hS: ∀es1 v es2,es=es1++(kv,v)::es2→ ∃dv,(∀w I A,bP w I A dv v)∧K (cO ρ o.dst (bif ok then .tup [dv,.v (.bool true)] else dv))):OW P nt ops o K ρ:=by
 refine iF hg fun I A a w hs=>?_;have hxr:=hs.opd x (bM ho (by simp[hop,Op.operands])) (by rw[hx];trivial);have hkr:=hkv _ _ _ _ (hs.opd k (bM ho (by simp[hop,Op.operands])) hk);rw[hx] at hxr;have hxr:bP w I A (.mr s) (a.eval x):=hxr;generalize hav:a.eval x=av at*;cases hxr with
 |mr _ _ g c hA=>
  have hown:=hs.osim.own s;rw[hes] at hown;obtain ⟨g',c',vs,cl,q1,q2,q3⟩:=hown;rw[hA] at q1;simp only[bX,cF] at q1;obtain ⟨rfl,rfl⟩:=q1;have kr:KeyRun P kt:=keyRun_of hgk;have hvs: ∀e∈vs,goodB P kt e.key=true:=fun m hm=>hges (m.key,m.val) (by rw[← q3];exact dZ.2 ⟨m,hm,rfl⟩);have hck:=kr.check w (vs.toArray.isEmpty) hgk;rcases kr.find w hgk vs hvs with ⟨f1,f2⟩|⟨j,m,f1,f2,f3⟩
  ·refine ⟨bif ok then .tuple #[z,.bool false] else z,w,I,A,_,?_,hs.putV hd (cEs ok (hz w I A) false),f8.refl _ _ _,hN fun e he=>?_⟩
   ·simp only[execOp,hop,hav,hkr,Instr.lookup,Sem.run_bind,run_underlying u1,MapKept.run_getObj_map q2,Result.andThen_ok,Sem.run_pure,hck];cases ok<;>simp[f1,zeroValue,typeInfo,u3,u4]
   rw[← q3] at he;obtain ⟨m,hm,rfl⟩:=dZ.1 he;exact f2 m hm
  have hsp:es=es.take j++(kv,m.val)::es.drop (j+1):=by
   rw[← q3,← f3];have hj:j<vs.length:=by
    rcases b9 j vs.length with h|h
    ·exact h
    rw[fN h] at f2;cases f2
   have hj2:(vs.map (fun (m:MapEntry)=>(m.key,m.val)))[j]?=some (m.key,m.val):=by rw[dG,f2];rfl
   have hlt:j<(vs.map (fun (m:MapEntry)=>(m.key,m.val))).length:=by simp[hj]
   rw[cH hlt] at hj2;have:=u6 j (vs.map (fun (m:MapEntry)=>(m.key,m.val)));rw[aMf hlt,dO hj2] at this;exact this.symm
  obtain ⟨dv,hdv,hKv⟩:=hS _ _ _ hsp;refine ⟨bif ok then .tuple #[m.val,.bool true] else m.val,w,I,A,_,?_,hs.putV hd (cEs ok (hdv w I A) true),f8.refl _ _ _,hKv⟩;simp only[execOp,hop,hav,hkr,Instr.lookup,Sem.run_bind,run_underlying u1,MapKept.run_getObj_map q2,Result.andThen_ok,Sem.run_pure,hck];cases ok<;>simp[f1]
theorem bBl {o:Oper} {K:aN→Prop} {t:TypeId} {x k y:Operand} {s:Nat} {kt e:TypeId} {kv v:Value} {es:List (Value×Value)} (hop:o.op=.mapUpdate t x k y∨o.op=.insert t x k y) (hg:o.guard=none) (hdst:o.dst=none) (ho:eJ nt o=true)
  (hx:ev ρ x=.mr s) (hes:ρ s=.mo es) (hk:gd (ev ρ k)) (hkv: ∀w I A v,bP w I A (un (ev ρ k)) v→v=kv) (hyg:gd (ev ρ y)) (hy: ∀w I A u,bP w I A (un (ev ρ y)) u→u=v) (u1:P.underlying t=some (.map kt e))
  (hgk:goodB P kt kv=true) (hges: ∀e∈es,goodB P kt e.1=true)
  (hN:(∀e∈es,e.1≠kv)→K (set ρ s (.mo (es++[(kv,v)])))) (hS: ∀es1 u es2,es=es1++(kv,u)::es2→K (set ρ s (.mo (es1++(kv,v)::es2)))):OW P nt ops o K ρ:=by
 refine aAj hg fun I A a w hs=>?_;have hmem: ∀q,q=x∨q=k∨q=y→q∈o.op.operands:=fun q hq=>by rcases hop with h|h<;>rw[h]<;>simp[Op.operands]<;>rcases hq with rfl|rfl|rfl<;>simp
 have hxr:=hs.opd x (bM ho (hmem x (.inl rfl))) (by rw[hx];trivial);have hkr:=hkv _ _ _ _ (hs.opd k (bM ho (hmem k (.inr (.inl rfl)))) hk);have hyr:=hy _ _ _ _ (hs.opd y (bM ho (hmem y (.inr (.inr rfl)))) hyg);rw[hx] at hxr;have hxr:bP w I A (.mr s) (a.eval x):=hxr;generalize hav:a.eval x=av at*;have hyv:=hyr;cases hxr with
 |mr _ _ g c hA=>
  have hown:=hs.osim.own s;rw[hes] at hown;obtain ⟨g',c',vs,cl,q1,q2,q3⟩:=hown;rw[hA] at q1;simp only[bX,cF] at q1;obtain ⟨rfl,rfl⟩:=q1;have kr:KeyRun P kt:=keyRun_of hgk;have hvs: ∀e∈vs,goodB P kt e.key=true:=fun m hm=>hges (m.key,m.val) (by rw[← q3];exact dZ.2 ⟨m,hm,rfl⟩);have hck:=kr.check w false hgk;have hst:=kr.stays w hgk;rcases kr.find w hgk vs hvs with ⟨f1,f2⟩|⟨j,m,f1,f2,f3⟩
  ·have hset:=MapKept.heap_set (o':=.map (vs++[({key:=kv,val:=v,born:=cl}:MapEntry)]).toArray (cl+1)) q2;refine ⟨{w with heap:=w.heap.setIfInBounds g (.map (vs++[({key:=kv,val:=v,born:=cl}:MapEntry)]).toArray (cl+1))},I,A,_,?_,?_,f8.turnO hA hset.2 dH rfl ⟨rfl,bW _⟩ rfl,hN fun e he=>?_⟩
   ·rcases hop with h|h<;>simp[execOp,h,hav,hkr,hyv,Instr.mapUpdate,run_underlying u1,MapKept.run_getObj_map q2,hck,f1,MapKept.run_setObj_map _ q2]
   ·rw[hdst];refine hs.turnO hA hset.2 dH (fun x' hx'=>?_) ⟨g,c,_,_,hA,hset.1,by rw[eM,q3];rfl⟩ fun _=>rfl;rw[hes] at hx';exact hx'
   rw[← q3] at he;obtain ⟨m,hm,rfl⟩:=dZ.1 he;exact f2 m hm
  have hspl:=aGr q3 f2;rw[f3] at hspl;have hjl:j<vs.length:=by
   rcases b9 j vs.length with h|h
   ·exact h
   rw[fN h] at f2;cases f2
  have hset:=MapKept.heap_set (o':=.map (vs.toArray.modify j fun e=>{e with key:=kv,val:=v}) cl) q2;refine ⟨{w with heap:=w.heap.setIfInBounds g (.map (vs.toArray.modify j fun e=>{e with key:=kv,val:=v}) cl)},I,A,_,?_,?_,f8.turnO hA hset.2 dH rfl ⟨rfl,bW _⟩ rfl,hS _ _ _ hspl⟩
  ·have hkey:((vs.toArray[j]?).map (·.key)).getD kv=kv:=by simp[f2,f3]
   rcases hop with h|h<;>simp[execOp,h,hav,hkr,hyv,Instr.mapUpdate,run_underlying u1,MapKept.run_getObj_map q2,hck,f1,f2,f3,hst,MapKept.run_setObj_map _ q2]
  rw[hdst];refine hs.turnO hA hset.2 dH (fun x' hx'=>?_) ⟨g,c,(vs.modify j fun e=>{e with key:=kv,val:=v}),cl,hA,by rw[hset.1];congr 2;simp,?_⟩ fun _=>rfl
  ·rw[hes] at hx';exact hx'
  apply List.ext_getElem?;intro q;rw[dG,List.getElem?_modify];have hq:es[q]?=(vs[q]?).map fun (m:MapEntry)=>(m.key,m.val):=by rw[← q3,dG]
  have hjes:j≤es.length:=by rw[← q3];simp;omega
  rcases Nat.lt_trichotomy q j with h1|h1|h1
  ·rw[bVy (by rw[iO];omega),oR,if_pos h1,hq];cases vs[q]? with
   |none=>rfl
   |some m'=>simp[show j≠q by omega]
  ·subst h1;rw[aYl (by rw[iO];omega),iO,qP hjes,Nat.sub_self,List.getElem?_cons_zero,f2];simp
  rw[aYl (by rw[iO];omega),iO,qP hjes];obtain ⟨r,hr⟩: ∃r,q-j=r+1:=⟨q-j-1,by omega⟩;rw[hr,aEd,sC,show j+1+r=q by omega,hq];cases vs[q]? with
  |none=>rfl
  |some m'=>simp[show j≠q by omega]
structure KE (α:Type) where
 val:α→Value
 dv:α→DV
 inj: ∀a b,val a=val b→a=b
 to: ∀a w I A v,bP w I A (dv a) v→v=val a
 of: ∀a w I A,bP w I A (dv a) (val a)
variable {α β:Type}
def esT (k:KE α) (v:KE β) (M:List (α×β)):List (Value×Value):=M.map fun p=>(k.val p.1,v.val p.2)
theorem aGd {k:KE α} {v:KE β}: ∀{M:List (α×β)} {es1 es2:List (Value×Value)} {a:α} {u:Value},esT k v M=es1++(k.val a,u)::es2→ ∃M1 b M2,M=M1++(a,b)::M2∧es1=esT k v M1∧u=v.val b∧es2=esT k v M2
 | [],[],_,_,_,h=>by cases h
 | [],_::_,_,_,_,h=>by cases h
 |p::M,[],es2,a,u,h=>by
  simp only[esT,kH,yS,List.cons.injEq,cF] at h;obtain ⟨⟨h1,h2⟩,h3⟩:=h;have:=k.inj _ _ h1;subst this;exact ⟨[],p.2,M,rfl,rfl,h2.symm,h3.symm⟩
 |p::M,e::es1,es2,a,u,h=>by
  simp only[esT,kH,wA,List.cons.injEq] at h;obtain ⟨M1,b,M2,rfl,h2,h3,h4⟩:=aGd (k:=k) (v:=v) h.2;exact ⟨p::M1,b,M2,rfl,by rw[h2,← h.1];rfl,h3,h4⟩
theorem aDb {M1 M2:List (α×β)} {a:α} {b:β} (h:((M1++(a,b)::M2).map (·.1)).Nodup): ∀p∈M1,p.1≠a:=fun p hp e=>by
 rw[eM,nO] at h;exact h.2.2 p.1 (dZ.2 ⟨p,hp,rfl⟩) a dH e
variable [DecidableEq α]
def lD:List (α×β)→α→Option β
 | [],_=>none
 |p::M,a=>if p.1=a then some p.2 else lD M a
def rI:List (α×β)→α→β→List (α×β)
 | [],a,b=>[(a,b)]
 |p::M,a,b=>if p.1=a then (a,b)::M else p::rI M a b
theorem bKq {M:List (α×β)} {a:α} (h: ∀p∈M,p.1≠a):lD M a=none:=by
 induction M with
 |nil=>rfl
 |cons p M ih=>rw[lD,if_neg (h p dH),ih fun q hq=>h q (by simp[hq])]
theorem bAw {M1 M2:List (α×β)} {a:α} {b:β} (h: ∀p∈M1,p.1≠a):lD (M1++(a,b)::M2) a=some b:=by
 induction M1 with
 |nil=>rw[yS,lD,if_pos rfl]
 |cons p M ih=>rw[wA,lD,if_neg (h p dH),ih fun q hq=>h q (by simp[hq])]
theorem vL {M:List (α×β)} {a:α} {b:β} (h: ∀p∈M,p.1≠a):rI M a b=M++[(a,b)]:=by
 induction M with
 |nil=>rfl
 |cons p M ih=>rw[rI,if_neg (h p dH),ih fun q hq=>h q (by simp[hq])];rfl
theorem aLj {M1 M2:List (α×β)} {a:α} {b c:β} (h: ∀p∈M1,p.1≠a):rI (M1++(a,c)::M2) a b=M1++(a,b)::M2:=by
 induction M1 with
 |nil=>rw[yS,rI,if_pos rfl,yS]
 |cons p M ih=>rw[wA,rI,if_neg (h p dH),ih fun q hq=>h q (by simp[hq])];rfl
theorem pZ (k:KE α) (v:KE β) {K:aN→Prop} {o:Oper} {t:TypeId} {x kk:Operand} {s:Nat} {kt e:TypeId} {i:TypeInfo} {ok:Bool} {M:List (α×β)} {a:α} {zb:β} (hop:o.op=.lookup t x kk ok) (hg:o.guard=none) (ho:eJ nt o=true) (hd:jH nt o=true)
  (hx:ev ρ x=.mr s) (hes:ρ s=.mo (esT k v M)) (hk:ev ρ kk=k.dv a) (hkg:gd (k.dv a)) (hku:un (k.dv a)=k.dv a) (u1:P.underlying t=some (.map kt e)) (u3:P.info? e=some i) (u4:i.zero=some (v.val zb))
  (hga:goodB P kt (k.val a)=true) (hgM: ∀p∈M,goodB P kt (k.val p.1)=true) (hnd:(M.map (·.1)).Nodup)
  (hK:K (cO ρ o.dst (bif ok then .tup [v.dv ((lD M a).getD zb),.v (.bool (lD M a).isSome)] else v.dv ((lD M a).getD zb)))):OW P nt ops o K ρ:=by
 refine bBv hop hg ho hd hx hes (by rw[hk];exact hkg) (fun w I A u hr=>k.to a w I A u (by rw[hk,hku] at hr;exact hr)) u1 u3 u4 hga (fun e he=>?_) (v.of zb) (fun hN=>?_) fun es1 u es2 hs=>?_
 ·obtain ⟨p,hp,rfl⟩:=dZ.1 he;exact hgM p hp
 ·rw[bKq fun p hp e=>hN _ (dZ.2 ⟨p,hp,rfl⟩) (by rw[e])] at hK;exact hK
 obtain ⟨M1,b,M2,rfl,_,rfl,_⟩:=aGd hs;rw[bAw (aDb hnd)] at hK;exact ⟨v.dv b,v.of b,hK⟩
theorem wK (k:KE α) (v:KE β) {K:aN→Prop} {o:Oper} {t:TypeId} {x kk y:Operand} {s:Nat} {kt e:TypeId} {M:List (α×β)} {a:α} {b:β} (hop:o.op=.mapUpdate t x kk y∨o.op=.insert t x kk y) (hg:o.guard=none) (hdst:o.dst=none) (ho:eJ nt o=true)
  (hx:ev ρ x=.mr s) (hes:ρ s=.mo (esT k v M)) (hk:ev ρ kk=k.dv a) (hkg:gd (k.dv a)) (hku:un (k.dv a)=k.dv a) (hy:ev ρ y=v.dv b) (hyg:gd (v.dv b)) (hyu:un (v.dv b)=v.dv b) (u1:P.underlying t=some (.map kt e))
  (hga:goodB P kt (k.val a)=true) (hgM: ∀p∈M,goodB P kt (k.val p.1)=true) (hnd:(M.map (·.1)).Nodup) (hK:K (set ρ s (.mo (esT k v (rI M a b))))):OW P nt ops o K ρ:=by
 refine bBl hop hg hdst ho hx hes (by rw[hk];exact hkg) (fun w I A u hr=>k.to a w I A u (by rw[hk,hku] at hr;exact hr)) (by rw[hy];exact hyg) (fun w I A u hr=>v.to b w I A u (by rw[hy,hyu] at hr;exact hr)) u1 hga (fun e he=>?_) (fun hN=>?_) fun es1 u es2 hs=>?_
 ·obtain ⟨p,hp,rfl⟩:=dZ.1 he;exact hgM p hp
 ·rw[vL fun p hp e=>hN _ (dZ.2 ⟨p,hp,rfl⟩) (by rw[e])] at hK;unfold esT at hK;rw[eM] at hK;exact hK
 obtain ⟨M1,c,M2,rfl,rfl,rfl,rfl⟩:=aGd hs;rw[aLj (aDb hnd)] at hK;unfold esT at hK;rw[eM] at hK;exact hK
theorem aHg {M:List (α×β)} {a:α} {b:β} (h:(M.map (·.1)).Nodup):((rI M a b).map (·.1)).Nodup:=by
 by_cases hx: ∀p∈M,p.1≠a
 ·rw[vL hx,eM,nO];refine ⟨h,by simp,fun x hx' y hy e=>?_⟩;obtain ⟨p,hp,rfl⟩:=dZ.1 hx';simp at hy;exact hx p hp (e.trans hy)
 simp only[ne_eq,Classical.not_forall,zY] at hx;obtain ⟨p,hp,rfl⟩:=hx;obtain ⟨M1,M2,rfl⟩:=List.append_of_mem hp;have: ∀q∈M1,q.1≠p.1:=aDb (b:=p.2) h;rw[show M1++p::M2=M1++(p.1,p.2)::M2 from rfl,aLj this];simpa using h
theorem aPr {M:List (α×β)} {a c:α} {b:β}:lD (rI M a b) c=if c=a then some b else lD M c:=by
 induction M with
 |nil=>
  show (if a=c then some b else none)=if c=a then some b else none
  by_cases e:c=a
  ·subst e;rw[if_pos rfl]
  rw[if_neg (fC e),if_neg e]
 |cons p M ih=>
  unfold rI;split
  ·rename_i h;unfold lD;by_cases e:c=a
   ·subst e;rw[if_pos rfl,if_pos rfl]
   rw[if_neg (fC e),if_neg e,if_neg (by rw[h];exact fC e)]
  rename_i h;unfold lD;by_cases e:p.1=c
  ·subst e;rw[if_pos rfl,if_neg h,if_pos rfl]
  rw[if_neg e,if_neg e,ih]
theorem y0 {M:List (α×β)} {a:α}:(lD M a).isSome=true↔ ∃p∈M,p.1=a:=by
 induction M with
 |nil=>simp[lD]
 |cons p M ih=>
  unfold lD;split
  ·rename_i h;simp[h]
  rename_i h;rw[ih];simp[h]
def aLx:KE ByteArray:=⟨fun s=>.string s,fun s=>.v (.string s),fun _ _ h=>by cases h;rfl,fun a w I A v h=>(by cases h;rfl),fun a w I A=>.v A _⟩
def oG:KE Int:=⟨fun n=>.int .i64 n,fun n=>.v (.int .i64 n),fun _ _ h=>by cases h;rfl,fun a w I A v h=>(by cases h;rfl),fun a w I A=>.v A _⟩
def pA:KE Bool:=⟨fun b=>.bool b,fun b=>.v (.bool b),fun _ _ h=>by cases h;rfl,fun a w I A v h=>(by cases h;rfl),fun a w I A=>.v A _⟩
end
end Go.Sg
namespace Go.Sg
open Go.Proofs
def nuS (n:List ByteArray) (i:Nat):Bool:=(List.range i).all fun k=>decide (n.getD k default≠n.getD i default)
def ndS (n:List ByteArray):Bool:=(List.range n.length).all (nuS n)
def aGh (l:aC):Bool:=(d9 l).all fun n=>n.all pE
def ndB (l:aC):Bool:=(d9 l).all ndS
def nmI (l:aC):Int:=if aGh l=true then (if ndB l=true then 0 else 8) else 3
abbrev aYc (ls:List (List ByteArray)):DV:=encL 1 (fun x=>[uV x]) ls
abbrev bAv (l:List ByteArray):DV:=rowL 9 1 eS l
theorem cRb {α:Type} [Inhabited α] (f:α→ByteArray) (a:List α) {i:Nat} (h:i<a.length):(a.map f).take (i+1)=(a.map f).take i++[f (a.getD i default)]:=by
 rw[List.take_succ_eq_append_getElem (by simpa using h),List.getElem_map,cA,cH h];rfl
theorem cGh (l:aC) {i:Nat} (h:i<l.xAh.length):(aLy l).take (i+1)=(aLy l).take i++[(l.xAh.getD i default).xAq]:=cRb _ _ h
theorem cFp (l:aC) {i:Nat} (h:i<l.xAa.length):(aBb l).take (i+1)=(aBb l).take i++[(l.xAa.getD i default).xAq]:=cRb _ _ h
theorem aVo (l:aC):(aLy l).length=l.xAh.length:=by unfold aLy;simp
theorem aYs (l:aC):(aBb l).length=l.xAa.length:=by unfold aBb;simp
theorem cIc (l:aC) {i:Nat} (h:l.xAh.length≤i):(aLy l).take i=aLy l:=jD (by rw[aVo];exact h)
theorem cLo (l:aC) {i:Nat} (h:l.xAa.length≤i):(aBb l).take i=aBb l:=jD (by rw[aYs];exact h)
theorem bOq (n:ByteArray) (a b c:List ByteArray):eK (.sl 1 4 fun i=>[[.sl 1 1 fun i=>[[vs n]].getD i []],[uV a],[uV b],[uV c]].getD i []) (aYc [[n],a,b,c]):=by
 refine eK.slW fun i hi=>?_
 match i,hi with
 |0,_=>exact .cons (eK.litL [n] rfl rfl) .nil
 |1,_=>exact .cons (eK.refl _) .nil
 |2,_=>exact .cons (eK.refl _) .nil
 |3,_=>exact .cons (eK.refl _) .nil
def aKw (n:List ByteArray) (i:Nat):List (Value×Value):=(List.range i).map fun k=>(.string (n.getD k default),.bool true)
theorem cDq (n:List ByteArray) (i:Nat):aKw n i++[(.string (n.getD i default),.bool true)]=aKw n (i+1):=by
 unfold aKw;rw[xS,eM];rfl
theorem aEt {n:List ByteArray} {i:Nat} {e:Value×Value} (h:e∈aKw n i): ∃k,k<i∧e=(.string (n.getD k default),.bool true):=by
 unfold aKw at h;obtain ⟨k,hk,rfl⟩:=dZ.1 h;exact ⟨k,gU.1 hk,rfl⟩
theorem bTz {n:List ByteArray} {i k:Nat} (h:nuS n i=true) (hk:k<i):n.getD k default≠n.getD i default:=dK (aMz h hk)
theorem aYq {n:List ByteArray}: ∀{i:Nat},nX (nuS n) i→bSg (aKw n i)
 |0,_=>⟨fun e he=>(by obtain ⟨k,hk,_⟩:=aEt he;omega),List.nodup_nil⟩
 |i+1,h=>by
  obtain ⟨h1,h2⟩:=aYq (i:=i) fun j hj=>h j aV;refine ⟨fun e he=>?_,?_⟩
  ·obtain ⟨k,hk,rfl⟩:=aEt he;rfl
  rw[← cDq,eM,nO];refine ⟨h2,by simp,fun a ha b hb=>?_⟩;obtain ⟨e,he,rfl⟩:=dZ.1 ha;obtain ⟨k,hk,rfl⟩:=aEt he;simp only[kH,sI,lH] at hb;subst hb;intro e;simp only[Value.string.injEq] at e;exact bTz (h i aV) hk e
theorem bDy {n:List ByteArray} {i:Nat} (h:nuS n i=true):cKi (aKw n i) (n.getD i default):=
 ⟨fun e he=>(by obtain ⟨k,hk,rfl⟩:=aEt he;rfl),fun e he=>by
  obtain ⟨k,hk,rfl⟩:=aEt he;intro e;simp only[Value.string.injEq] at e;exact bTz h hk e⟩
theorem cBh {n:List ByteArray} {i:Nat} (h:bSg (aKw n i)):aWi (aKw n i) (n.getD i default) (.bool false)=.bool (!nuS n i):=by
 cases hq:nuS n i with
 |true=>exact aFr (bDy hq).2
 |false=>
  have: ∃k,k<i∧n.getD k default=n.getD i default:=by
   apply aIp;intro hno;rw[← rL] at hq;refine hq ?_;unfold nuS;rw[dI];intro k hk;exact dF fun e=>hno ⟨k,gU.1 hk,e⟩
  obtain ⟨k,hk,e⟩:=this;refine aEh h.2 ?_;unfold aKw;exact dZ.2 ⟨k,gU.2 hk,by rw[e];rfl⟩
theorem nm3 {l:aC} {i j:Nat} (hi:i<(d9 l).length) (hj:j<((d9 l).getD i default).length) (h:pE (((d9 l).getD i default).getD j default)=false):nmI l=3:=by
 unfold nmI;have:aGh l=false:=by
  show (d9 l).all (fun n=>n.all pE)=false;exact nK (f:=fun n=>n.all pE) hi (nK (f:=pE) hj h)
 rw[this,if_neg dH]
theorem nm8 {l:aC} {i j:Nat} (h0:aGh l=true) (hi:i<(d9 l).length) (hj:j<((d9 l).getD i default).length) (h:nuS ((d9 l).getD i default) j=false):nmI l=8:=by
 unfold nmI;have:ndB l=false:=by
  show (d9 l).all ndS=false;exact nK (f:=ndS) hi (rR hj h)
 rw[if_pos h0,this,if_neg dH]
theorem nm0 {l:aC} (h0:aGh l=true) (h:ndB l=true):nmI l=0:=by unfold nmI;rw[if_pos h0,if_pos h]
theorem zB (O:aN) (l:aC) (hl:gO l):aZ Tryz.prog O 50 [.agg (aQ l)] (vi (nmI l)):=by
 have hl1:=hl.sec;have hl2:=hl.el;have hl3:=hl.jo;have hl4:=hl.sg;have hl5:=hl.bl;have hn4:(d9 l).length=4:=rfl;have hns:=fun (i:Nat) (hi:i<(d9 l).length)=>(show ((d9 l).getD i default).length≤60 by
   have:=kI (l:=d9 l) hi;unfold d9 at this ⊢;simp only[gN,aHu,or_false] at this;rcases this with h|h|h|h<;>rw[h]<;>first|(rw[aVo];omega)|(rw[aYs];omega)|omega|(simp;done))
 refine bG 0 rfl (.agg (d:=sL l.xAh) (by simp[aQ]) (.sl _ _ _)) fun he=>?_;refine bG 0 rfl (.agg (d:=uK l.xAa) (by simp[aQ]) (.sl _ _ _)) fun hs=>?_;refine bG 0 rfl (.agg (d:=uV l.xAe) (by simp[aQ]) (.sl _ _ _)) fun hc=>?_;refine eV Tryz.func50 ?_;refine aB [0] ?_;refine aB [1] ?_;refine aA fun _ Z2=>aB [1,3] ?_;refine aI (aX [1,3,24,25,26] (fun n ρ=> ∃i,n=l.xAh.length-i∧(i≤l.xAh.length)∧ρ=dU O [(1,.bx (aQ l)),(3,bAv ((aLy l).take i)),(24,sL l.xAh),(25,vi (l.xAh.length:Nat)),(26,vi (i:Nat))]) _ ⟨0,rfl,?_,?_⟩ ?_)
 ·exact bD
 ·exact dT
 rintro n ρ ⟨i,rfl,l0_0,rfl⟩ _ Z4;have htl:((aLy l).take i).length≤i:=by rw[iO];omega
 refine aB [1,3,23,24,25,26] ?_;refine aA fun _ Z6=>aO (fun c0=>?_) fun c0=>?_
 ·refine aD (Z6 _ (aA fun _ Z7=>aI (aB [1,3,23,24,25,26] ?_)));refine bE [1,3,5,23,24,25,26] ?_;refine Z7 _ (bE [1,3,23,24,25,26] ?_);refine Z4 _ _ bD ⟨i+1,rfl,bD,?_⟩;simp (disch:=omega) only[go_sem,seval]<;>(rw[cGh l aV,eM];rfl)
 refine bA (Z2 _ (aB [1,3] ?_));refine aA fun _ Z10=>aB [1,3,6] ?_;refine aI (aX [1,3,6,41,42,43] (fun n ρ=> ∃i,n=l.xAa.length-i∧(i≤l.xAa.length)∧ρ=dU O [(1,.bx (aQ l)),(3,bAv (aLy l)),(6,bAv ((aBb l).take i)),(41,uK l.xAa),(42,vi (l.xAa.length:Nat)),(43,vi (i:Nat))]) _ ⟨0,rfl,?_,?_⟩ ?_)
 ·exact bD
 ·simp (disch:=omega) only[go_sem,seval]<;>rw[cIc l aV]
 rintro n ρ ⟨i,rfl,l1_0,rfl⟩ _ Z12;have htl:((aBb l).take i).length≤i:=by rw[iO];omega
 refine aB [1,3,6,40,41,42,43] ?_;refine aA fun _ Z14=>aO (fun c1=>?_) fun c1=>?_
 ·refine aD (Z14 _ (aA fun _ Z15=>aI (aB [1,3,6,40,41,42,43] ?_)));refine bE [1,3,6,8,40,41,42,43] ?_;refine Z15 _ (bE [1,3,6,40,41,42,43] ?_);refine Z12 _ _ bD ⟨i+1,rfl,bD,?_⟩;simp (disch:=omega) only[go_sem,seval]<;>(rw[cFp l aV,eM];rfl)
 refine bA (Z10 _ (aA fun _ Z17=>?_));rw[cLo l aV];refine iS 3 (aLy l) rfl rfl ?_;refine iS 6 (aBb l) rfl rfl ?_;refine bE [1,3,6] ?_;refine Z17 _ (aA fun _ Z18=>aA fun _ Z19=>bRt 9 (aYc (d9 l)) rfl rfl (bOq _ _ _ _) rfl rfl ?_);refine bE [9] ?_;refine Z19 _ (aI (aX [9,61,62,63] (fun n ρ=> ∃i,n=4-i∧(i≤4)∧(m0 (fun n=>n.all pE) (d9 l) i)∧ρ=dU O [(9,aYc (d9 l)),(61,aYc (d9 l)),(62,vi 4),(63,vi (i:Nat))]) _ ⟨0,rfl,?_,?_,?_⟩ ?_))
 ·exact bD
 ·exact i8 _ _
 ·exact dT
 rintro n ρ ⟨i,rfl,l2_0,l2_1,rfl⟩ _ Z20;refine aB [9,61,62,63] ?_;refine aA fun _ Z22=>aO (fun c2=>?_) fun c2=>?_
 ·refine aD (Z22 _ (aA fun _ Z23=>aI (aB [9,61,62,63] ?_)));refine aB [9,11,61,62,63,65] ?_;refine aI (aX [9,61,62,63,67,68,69] (fun n ρ=> ∃j,n=((d9 l).getD i default).length-j∧(j≤((d9 l).getD i default).length)∧(m0 pE ((d9 l).getD i default) j)∧ρ=dU O [(9,aYc (d9 l)),(61,aYc (d9 l)),(62,vi 4),(63,vi (i:Nat)),(67,uV ((d9 l).getD i default)),(68,vi (((d9 l).getD i default).length:Nat)),(69,vi (j:Nat))]) _ ⟨0,rfl,?_,?_,?_⟩ ?_)
  ·exact bD
  ·exact i8 _ _
  ·exact dT
  rintro n ρ ⟨j,rfl,l3_0,l3_1,rfl⟩ _ Z26;have hnl:=hns i aV;refine aB [9,11,61,62,63,65,67,68,69] ?_;refine aA fun _ Z28=>aO (fun c3=>?_) fun c3=>?_
  ·refine aD (Z28 _ (aA fun _ Z29=>aI (aB [9,11,61,62,63,65,67,68,69] ?_)));refine aA fun _ Z31=>bN [9,11,13,61,62,63,65,67,68,69,71] ?_;refine f9 (aBw _ (((d9 l).getD i default).getD j default)) ?_;refine Z31 _ (aO (fun c4=>?_) fun c4=>?_)
   ·refine aB [] ?_;refine aL (dN 2 ?_);exact dX.is (by simp (disch:=omega) only[go_sem,seval]<;>((exact congrArg vi (nm3 aV c3 c4).symm))) rfl rfl
   refine aD (Z29 _ (bE [9,11,61,62,63,65,67,68,69] ?_));refine Z26 _ _ bD ⟨j+1,rfl,bD,?_,dT⟩
   ·exact jA l3_1 c4
  refine bA (Z23 _ (bE [9,61,62,63] ?_));refine Z20 _ _ bD ⟨i+1,rfl,bD,?_,dT⟩
  ·exact jA l2_1 (pF l3_1 c3)
 refine bA (Z18 _ (aA fun _ Z33=>aA fun _ Z34=>?_));have hnm:aGh l=true:=(show (d9 l).all (fun n=>n.all pE)=true from pF l2_1 aV);refine bE [9] ?_;refine Z34 _ (aI (aX [78,79,80] (fun n ρ=> ∃i,n=4-i∧(i≤4)∧(m0 ndS (d9 l) i)∧ρ=dU O [(78,aYc (d9 l)),(79,vi 4),(80,vi (i:Nat))]) _ ⟨0,rfl,?_,?_,?_⟩ ?_))
 ·exact bD
 ·exact i8 _ _
 ·exact dT
 rintro n ρ ⟨i,rfl,l4_0,l4_1,rfl⟩ _ Z35;refine aB [9,78,79,80] ?_;refine aA fun _ Z37=>aO (fun c5=>?_) fun c5=>?_
 ·refine aD (Z37 _ (aA fun _ Z38=>aI (aB [9,78,79,80] ?_)));refine aB [9,15,78,79,80,82] ?_;refine aB [9,15,16,78,79,80,82] ?_;refine aI (aX [16,78,79,80,85,86,87] (fun n ρ=> ∃j,n=((d9 l).getD i default).length-j∧(j≤((d9 l).getD i default).length)∧(nX (nuS ((d9 l).getD i default)) j)∧ρ=dU O [(16,.mo (aKw ((d9 l).getD i default) j)),(78,aYc (d9 l)),(79,vi 4),(80,vi (i:Nat)),(85,uV ((d9 l).getD i default)),(86,vi (((d9 l).getD i default).length:Nat)),(87,vi (j:Nat))]) _ ⟨0,rfl,?_,?_,?_⟩ ?_)
  ·exact bD
  ·exact lP _
  ·exact dT
  rintro n ρ ⟨j,rfl,l5_0,l5_1,rfl⟩ _ Z42;have hnl:=hns i aV;have hK:=aYq l5_1;have hsx:=cBh hK;refine bB [9,15,16,78,79,80,82,85,86,87] ?_;refine aA fun _ Z44=>aO (fun c6=>?_) fun c6=>?_
  ·refine aD (Z44 _ (aA fun _ Z45=>aI (bB [9,15,16,78,79,80,82,85,86,87] ?_)));refine aA fun _ Z47=>bB [9,15,16,18,78,79,80,82,85,86,87,89] ?_;refine aO (fun c7=>?_) fun c7=>?_
   ·refine bB [] ?_;refine aL (mA 2 ?_);exact dX.is (by simp (disch:=omega) only[go_sem,seval,hsx]<;>((exact congrArg vi (nm8 hnm aV c6 c7).symm))) rfl rfl
   refine aD (Z47 _ (cS [9,15,16,18,78,79,80,82,85,86,87,89] bF ?_));simp (disch:=omega) only[go_sem,seval,hsx]
   repeat refine cP (by first|(exact bDy c7)|exact kN) ?_
   refine Z45 _ (cN [9,15,16,78,79,80,82,85,86,87] ?_);refine Z42 _ _ bD ⟨j+1,rfl,bD,?_,?_⟩
   ·exact kE l5_1 c7
   simp (disch:=omega) only[go_sem,seval,hsx]<;>(rw[← cDq];rfl)
  refine bA (Z38 _ (cN [9,78,79,80] ?_));refine Z35 _ _ bD ⟨i+1,rfl,bD,?_,?_⟩
  ·exact jA l4_1 (t6 l5_1 c6)
  exact eX
 refine bA (Z33 _ (aB [] ?_));refine aL (dN 2 ?_);exact dX.is (by simp (disch:=omega) only[go_sem,seval]<;>((exact congrArg vi (nm0 hnm (show (d9 l).all ndS=true from pF l4_1 aV)).symm))) rfl rfl
def nuT {α:Type} [DecidableEq α] [Inhabited α] (q:List α) (i:Nat):Bool:=(List.range i).all fun k=>decide (q.getD k default≠q.getD i default)
def ndT {α:Type} [DecidableEq α] [Inhabited α] (q:List α):Bool:=(List.range q.length).all (nuT q)
section
variable {α:Type} [DecidableEq α] [Inhabited α] {q:List α} {i j:Nat}
end
abbrev bRd (l:List fH):DV:=encL 2 fM l
open Go.Rv (goodB)
def aMp (e:fH):Value:=.agg #[.int .i64 e.fEl,.int .i64 e.xAj]
def i6:KE fH:=⟨aMp,fun e=>.agg (fM e),fun a b h=>by
  unfold aMp at h;simp only[Value.agg.injEq,Array.mk.injEq,List.cons.injEq,Value.int.injEq,jE,jC] at h;exact (mB a b).2 h,
 fun a w I A v h=>by
  cases h with
  |agg _ _ vs hl hone hrel=>
   have h0:=hrel 0 (vi a.fEl) (vs[0]'(by simp[fM] at hl;omega)) rfl (iY _);have h1:=hrel 1 (vi a.xAj) (vs[1]'(by simp[fM] at hl;omega)) rfl (iY _);unfold aMp;congr 1;apply Array.ext
   ·simpa[fM] using hl.symm
   intro i hi1 hi2
   match i,hi2 with
   |0,_=>generalize vs[0]=x at h0;cases h0;rfl
   |1,_=>generalize vs[1]=x at h1;cases h1;rfl,
 fun a w I A=>.agg A _ _ rfl (fun u hu=>by simp[aMp] at hu;rcases hu with rfl|rfl<;>rfl) fun j d u hd hu=>by
  match j with
  |0=>simp[fM] at hd hu;subst hd;subst hu;exact .v A _
  |1=>simp[fM] at hd hu;subst hd;subst hu;exact .v A _
  |j+2=>simp[fM] at hd⟩
noncomputable def fsE:Array Field:=match Tryz.prog.underlying 89 with
 |some (.struct fs)=>fs
 |_=> #[]
theorem cMk {n:Int} (h1: -9223372036854775808≤n) (h2:n≤9223372036854775807) (d:Nat):Tryz.prog.keyLits (d+1) 3 [.int .i64 n]=some [.int .i64 n]:=by
 have u3:Tryz.prog.underlying 3=some (.int .i64):=by kernel_rfl
 have hw:(Lit.int .i64 n).wf=true:=by
  show (decide (IntKind.i64.min≤n)&&decide (n≤IntKind.i64.max))=true;rw[dF (show IntKind.i64.min≤n from h1),dF (show n≤IntKind.i64.max from h2)];rfl
 unfold Program.keyLits;rw[u3];simp[hw]
def cBv (e:fH):Prop:=(-9223372036854775808≤e.fEl∧e.fEl≤9223372036854775807)∧(-9223372036854775808≤e.xAj∧e.xAj≤9223372036854775807)
theorem aDl {e:fH} (h:cBv e):goodB Tryz.prog 89 (aMp e)=true:=by
 have u:Tryz.prog.underlying 89=some (.struct fsE):=by kernel_rfl
 have c49:Tryz.prog.cellsOf 89=2:=by kernel_rfl
 have c3:Tryz.prog.cellsOf 3=1:=by kernel_rfl
 have k1:Tryz.prog.keyType 89=true:=by kernel_rfl
 have k2:Tryz.prog.keyTypeAt 8 89=true:=by kernel_rfl
 have k3:Tryz.prog.tiled 8 89=true:=by kernel_rfl
 obtain ⟨d,hd⟩: ∃d,Tryz.prog.types.size+1=d+1+1:=⟨Tryz.prog.types.size-1,by kernel_rfl⟩;have hf:(aMp e).formed Tryz.prog 89=true:=by unfold aMp Value.formed;simp only[u,c49];rfl
 have hn:fsE.all (·.name != "_")=true:=by kernel_rfl
 have hm:fsE.toList.map (fun f=>(f.type,f.offset))=[(3,0),(3,1)]:=by kernel_rfl
 have hl:Tryz.prog.keyLits (d+1+1) 89 (aMp e).cells.toList=some [.int .i64 e.fEl,.int .i64 e.xAj]:=by
  have hcells:(aMp e).cells.toList=[.int .i64 e.fEl,.int .i64 e.xAj]:=rfl;have key: ∀(fs:List Field),fs.map (fun f=>(f.type,f.offset))=[(3,0),(3,1)]→(fs.mapM fun f=>Tryz.prog.keyLits (d+1) f.type (([Value.int .i64 e.fEl,.int .i64 e.xAj].drop f.offset).take (Tryz.prog.cellsOf f.type)))=some [[.int .i64 e.fEl],[.int .i64 e.xAj]]:=by
   intro fs hfs;rcases fs with _|⟨f,_|⟨g,_|⟨q,r⟩⟩⟩
   ·cases hfs
   ·simp at hfs
   ·simp only[kH,sI,List.cons.injEq,cF,jC] at hfs;obtain ⟨⟨a1,a2⟩,b1,b2⟩:=hfs;simp only[aXi,List.mapM_nil,a1,a2,b1,b2,c3,iP,aHc,List.take_zero,List.drop_succ_cons];simp[cMk h.1.1 h.1.2,cMk h.2.1 h.2.2]
   simp at hfs
  unfold Program.keyLits;rw[u,hcells];simp only[c49,hn,qH,aPq,gH,Nat.reduceAdd,and_self,if_true,key fsE.toList hm,gG];rfl
 unfold goodB keyOf;rw[u];simp only[k1,k2,k3,hf,hd,hl,Bool.and_self,if_true,gG,Option.isSome_some]
theorem bMr (e:fH):i6.dv e=.agg (fM e):=rfl
theorem bQn: ∃i,Tryz.prog.info? 89=some i∧i.zero=some (aMp E0):=by
 obtain ⟨i,hi⟩: ∃i,Tryz.prog.info? 89=some i:=nQ.1 bF;have:((Tryz.prog.info? 89).bind (·.zero))=some (aMp E0):=by kernel_rfl
 rw[hi] at this;exact ⟨i,hi,this⟩
def joB (l:aC) (j:l0):Bool:=exB l j.fA&&(exB l j.fB&&decide (j.fA≠j.fB))
def jR (js:List l0):List fH:=js.flatMap fun j=>[j.fA,j.fB]
def jM (js:List l0):List (fH×fH):=js.flatMap fun j=>[(j.fA,j.fB),(j.fB,j.fA)]
theorem uA (js:List l0):(jM js).map (·.1)=jR js:=by
 unfold jM jR
 induction js with
 |nil=>rfl
 |cons j js ih=>simp only[aIh,eM,ih];rfl
theorem bFh {js:List l0} {i:Nat} (h:i<js.length):jR (js.take (i+1))=jR (js.take i)++[(js.getD i default).fA,(js.getD i default).fB]:=by
 rw[kX default h];unfold jR;rw[aBl];rfl
theorem cTm {js:List l0} {i:Nat} (h:i<js.length):jM (js.take (i+1))=jM (js.take i)++[((js.getD i default).fA,(js.getD i default).fB),((js.getD i default).fB,(js.getD i default).fA)]:=by
 rw[kX default h];unfold jM;rw[aBl];rfl
theorem aEw {α:Type} [DecidableEq α] [Inhabited α] {q:List α}:ndT q=true↔q.Nodup:=by
 have e: ∀(i:Nat) (h:i<q.length),q.getD i default=q[i]:=fun i h=>by rw[cA,cH h];rfl
 unfold ndT nuT List.Nodup;rw[dI,aFj];constructor
 ·intro h i j hi hj hij;have h2:=h j (gU.2 hj);rw[dI] at h2;have h3:=dK (h2 i (gU.2 hij));rw[e i hi,e j hj] at h3;exact h3
 intro h i hi;rw[dI];intro k hk;have hi:=gU.1 hi;have hk:=gU.1 hk;refine dF ?_;rw[e i hi,e k aV];exact h k i aV hi hk
def joI (l:aC):Int:=if l.xAd.all (joB l)=true then (if ndT (jR l.xAd)=true then 0 else 8) else 1
theorem cDo {l:aC} (h:l.xAd.all (joB l)=false):joI l=1:=by unfold joI;rw[h,if_neg dH]
theorem cDj {l:aC} (h:l.xAd.all (joB l)=true) {i:Nat} (hi:i<l.xAd.length) (hd: ¬(jR (l.xAd.take (i+1))).Nodup):joI l=8:=by
 unfold joI;rw[if_pos h,if_neg];intro hn;refine hd ?_;have hn:=aEw.1 hn;have:jR l.xAd=jR (l.xAd.take (i+1))++jR (l.xAd.drop (i+1)):=by
  unfold jR;rw[← aBl,u6]
 rw[this,nO] at hn;exact hn.1
theorem cRe {l:aC} (h:l.xAd.all (joB l)=true) (hn:(jR l.xAd).Nodup):joI l=0:=by
 unfold joI;rw[if_pos h,if_pos (aEw.2 hn)]
theorem aEv {l:aC} (hl:gO l) {e:fH} (h:exB l e=true):cBv e:=by
 unfold exB at h;simp only[cD,dR] at h;have h1:=hl.el;have h2:=aFi (lI l e.fEl.toNat).xAp;unfold cBv;omega
theorem bIj {l:aC} (hl:gO l) (h:l.xAd.all (joB l)=true): ∀p∈jR l.xAd,cBv p:=fun p hp=>by
 unfold jR at hp;obtain ⟨j,hj,hp⟩:=y1.1 hp;have:=dI.1 h j hj;unfold joB at this;simp only[cD] at this;simp only[gN,aHu,or_false] at hp;rcases hp with rfl|rfl
 ·exact aEv hl this.1
 exact aEv hl this.2.1
theorem aFh {l:aC} (hl:gO l) (h:l.xAd.all (joB l)=true) {i:Nat}: ∀p∈jM (l.xAd.take i),goodB Tryz.prog 89 (i6.val p.1)=true:=fun p hp=>by
 have hk:p.1∈jR (l.xAd.take i):=by rw[← uA];exact dZ.2 ⟨p,hp,rfl⟩
 refine aDl (bIj hl h _ ?_);unfold jR at hk ⊢;obtain ⟨j,hj,hk⟩:=y1.1 hk;exact y1.2 ⟨j,bHi hj,hk⟩
section
variable {l:aC} {i:Nat} (hl:gO l) (h:l.xAd.all (joB l)=true) (hi:i<l.xAd.length)
include hl h hi
theorem bTx:joB l (l.xAd.getD i default)=true:=rY h hi
theorem bOk:goodB Tryz.prog 89 (i6.val (l.xAd.getD i default).fA)=true:=by
 have:=bTx hl h hi;unfold joB at this;simp only[cD] at this;exact aDl (aEv hl this.1)
theorem cDz:goodB Tryz.prog 89 (i6.val (l.xAd.getD i default).fB)=true:=by
 have:=bTx hl h hi;unfold joB at this;simp only[cD] at this;exact aDl (aEv hl this.2.1)
theorem cDr:(l.xAd.getD i default).fA≠(l.xAd.getD i default).fB:=by
 have:=bTx hl h hi;unfold joB at this;simp only[cD,dR] at this;exact this.2.2
end
theorem aSq {M:List (fH×fH)} {e:fH}:(lD M e).isSome=true↔e∈M.map (·.1):=by
 rw[y0,dZ]
theorem bTp {l:aC} {i:Nat} (hi:i<l.xAd.length) (h:(lD (jM (l.xAd.take i)) (l.xAd.getD i default).fA).isSome=true∨(lD (jM (l.xAd.take i)) (l.xAd.getD i default).fB).isSome=true): ¬(jR (l.xAd.take (i+1))).Nodup:=by
 intro hn;rw[bFh hi,nO] at hn;rw[aSq,aSq,uA] at h;rcases h with h|h
 ·exact hn.2.2 _ h _ dH rfl
 exact hn.2.2 _ h _ dH rfl
section
variable {l:aC} {i:Nat} (hi:i<l.xAd.length) (hn:(jR (l.xAd.take i)).Nodup) (hA:(lD (jM (l.xAd.take i)) (l.xAd.getD i default).fA).isSome=false) (hB:(lD (jM (l.xAd.take i)) (l.xAd.getD i default).fB).isSome=false) (hne:(l.xAd.getD i default).fA≠(l.xAd.getD i default).fB)
include hi hn hA hB hne
theorem cJe:(jR (l.xAd.take (i+1))).Nodup:=by
 rw[← rL,aSq,uA] at hA hB;rw[bFh hi,nO];refine ⟨hn,by simpa using hne,fun a ha b hb e=>?_⟩;subst e;simp only[gN,aHu,or_false] at hb;rcases hb with rfl|rfl
 ·exact hA ha
 exact hB ha
theorem cKh:rI (rI (jM (l.xAd.take i)) (l.xAd.getD i default).fA (l.xAd.getD i default).fB) (l.xAd.getD i default).fB (l.xAd.getD i default).fA=jM (l.xAd.take (i+1)):=by
 have h1: ∀p∈jM (l.xAd.take i),p.1≠(l.xAd.getD i default).fA:=fun p hp e=>by
  have:(lD (jM (l.xAd.take i)) (l.xAd.getD i default).fA).isSome=true:=y0.2 ⟨p,hp,e⟩;rw[hA] at this;cases this
 have h2: ∀p∈jM (l.xAd.take i),p.1≠(l.xAd.getD i default).fB:=fun p hp e=>by
  have:(lD (jM (l.xAd.take i)) (l.xAd.getD i default).fB).isSome=true:=y0.2 ⟨p,hp,e⟩;rw[hB] at this;cases this
 rw[vL h1,vL,cTm hi,tB]
 ·rfl
 intro p hp;rw[iV] at hp;rcases hp with hp|hp
 ·exact h2 p hp
 simp only[lH] at hp;subst hp;exact hne
end
end Go.Sg
namespace Go.Sg
open Go.Proofs
open Go.Rv (goodB)
theorem aLb {P:Program} {ρ:aN} {fn:Func} {O:aN} {R:List Rg→aN→DV→Prop} {a b:ResultVar} {vs:List ResultVar} {rl:List DV} {rs:List Rg} (hf:fn.results.toList=a::b::vs) (h1:hi ρ=bS O) (h:RO P ρ (a::b::vs) rl) (hR:R rs O (.tup rl)):aQm P fn O R .ret rs ρ:=
 ⟨O,.tup rl,iK h1,fun _=>fR.refl _,fun _ h=>h,by rw[hf];cases a<;>exact ⟨rl,rfl,h.len,h.get⟩,rfl,hR⟩
theorem aTu {P:Program} {ρ:aN} {fn:Func} {O:aN} {R:List Rg→aN→DV→Prop} {r:DV} {rs:List Rg} (t:Nat) (hf:fn.results= #[.tmp t]) (h1:hi ρ=bS O) (h:ρ t=r) (hp:lG r=true) (hs:sh r=r) (hR:R rs O r):aQm P fn O R .ret rs ρ:=
 ⟨O,r,iK h1,fun _=>fR.refl _,fun _ h=>h,by rw[hf];exact dX.is h hp hs,(by cases r<;>first|rfl|cases hp),hR⟩
def JoR (O:aN) (l:aC) (rs:List Rg) (O':aN) (r:DV):Prop:=O'=O∧ ∃og,r=.tup [.v (.map og),vi (joI l)]∧(joI l=0→ ∃g c,og=some g∧rs=[.map g c (esT i6 i6 (jM l.xAd))])
attribute [go_sem] bMr
theorem cDb {l:aC} {j:l0} (h:(exB l j.fA=false∨exB l j.fB=false)∨j.fA.fEl=j.fB.fEl∧j.fA.xAj=j.fB.xAj):joB l j=false:=by
 unfold joB;rcases h with (h|h)|h
 ·rw[h];rfl
 ·rw[h];simp
 rw[(mB j.fA j.fB).2 h];simp
theorem cRr {l:aC} {j:l0} (h:(exB l j.fA=true∧exB l j.fB=true)∧(¬j.fA.fEl=j.fB.fEl∨ ¬j.fA.xAj=j.fB.xAj)):joB l j=true:=by
 unfold joB;have hne:j.fA≠j.fB:=fun e=>by rw[mB] at e;omega
 rw[h.1.1,h.1.2];simp[hne]
theorem bVp {α β:Type} [DecidableEq α] {p:α→Prop} {M:List (α×β)} {a:α} {b:β} (h: ∀x∈M,p x.1) (ha:p a): ∀x∈rI M a b,p x.1:=by
 induction M with
 |nil=>intro x hx;simp only[rI,lH] at hx;subst hx;exact ha
 |cons q M ih=>
  intro x hx;unfold rI at hx;split at hx
  ·rcases gN.1 hx with rfl|hx
   ·exact ha
   exact h x (by simp[hx])
  rcases gN.1 hx with rfl|hx
  ·exact h x dH
  exact ih (fun y hy=>h y (by simp[hy])) x hx
set_option maxRecDepth 20000 in
theorem aCh (O:aN) (l:aC) (hl:gO l):aNj Tryz.prog O 53 [.agg (aQ l)] [] (JoR O l):=by
 have hl1:=hl.sec;have hl2:=hl.el;have hl3:=hl.jo;have hl4:=hl.sg;have hl5:=hl.bl;obtain ⟨i9,hi9,hz9⟩:=bQn;refine sU Tryz.func53 rfl bF fun w0 I0 A0=>?_;have hF:=pS w0 I0 (cG A0) (GOf []);refine bI hF [0] ?_;refine aW fun _ Z1=>bI hF [1] ?_;refine bZ (eY [1,14,15,16] (fun n sF ρ=> ∃i,n=l.xAd.length-i∧sF=[]∧(i≤l.xAd.length)∧(m0 (joB l) l.xAd i)∧ρ=dU O [(1,.bx (aQ l)),(14,bBt l.xAd),(15,vi (l.xAd.length:Nat)),(16,vi (i:Nat))]) _ ⟨0,rfl,rfl,?_,?_,?_⟩ ?_)
 ·exact bD
 ·exact i8 _ _
 ·exact dT
 rintro n sF ρ ⟨i,rfl,rfl,l0_0,l0_1,rfl⟩ _ Z3;refine bI hF [1,13,14,15,16] ?_;refine aW fun _ Z5=>cQ (fun c0=>?_) fun c0=>?_
 ·refine bU (Z5 _ _ (aW fun _ Z6=>bZ (bI hF [1,13,14,15,16] ?_)));refine aW fun _ Z8=>gI hF [1,5,13,14,15,16] ?_;refine f9 (qV _ l (l.xAd.getD i default).fA hl) ?_;refine rO (fun g0=>qV _ l (l.xAd.getD i default).fB hl) ?_;refine Z8 _ _ (cQ (fun c1=>?_) fun c1=>?_)
  ·refine bI hF [] ?_;refine dV ?_;exact aLb rfl (by simp (disch:=omega) only[go_sem,seval,seval]) (.cons (vU rfl rfl rfl) (.cons (vU rfl rfl rfl) .nil)) ⟨rfl,none,congrArg (fun x=>DV.tup [DV.v (.map none),vi x]) (cDo (nK (f:=joB l) c0 (cDb c1))).symm,fun h=>by rw[cDo (nK (f:=joB l) c0 (cDb c1))] at h;cases h⟩
  refine bU (Z6 _ _ (eO hF [1,13,14,15,16] ?_));refine Z3 _ _ _ bD ⟨i+1,rfl,rfl,bD,?_,dT⟩
  ·exact jA l0_1 (cRr c1)
 refine fV (Z1 _ _ (bI hF [1] ?_));refine aW fun _ Z11=>bI hF [1,6] ?_;refine bZ ?_;have hjo:l.xAd.all (joB l)=true:=pF l0_1 c0;refine eY [1,6,42,43,44] (fun n sF ρ=> ∃i,n=l.xAd.length-i∧sF=[]∧(i≤l.xAd.length)∧((jR (l.xAd.take i)).Nodup)∧ρ=dU O [(1,.bx (aQ l)),(6,.mo (esT i6 i6 (jM (l.xAd.take i)))),(42,bBt l.xAd),(43,vi (l.xAd.length:Nat)),(44,vi (i:Nat))]) _ ⟨0,rfl,rfl,?_,?_,?_⟩ ?_
 ·exact bD
 ·exact List.nodup_nil
 ·exact dT
 rintro n sF ρ ⟨i,rfl,rfl,l1_0,l1_1,rfl⟩ _ Z13;refine bI hF [1,6,41,42,43,44] ?_;refine aW fun _ Z15=>cQ (fun c2=>?_) fun c2=>?_
 ·refine bU (Z15 _ _ (aW fun _ Z16=>bZ (bI hF [1,6,41,42,43,44] ?_)));refine aW fun _ Z18=>cC (Le.keepC [1,6,8,41,42,43,44] _) ?_;refine cU ?_;refine ef hF ?_;refine ef hF ?_;refine ef hF ?_;show lW _ _ _ _ _ _ _ _;refine fK hF ?_;refine pZ i6 i6 (s:=6) (M:=jM (l.xAd.take i)) (a:=(l.xAd.getD i default).fA) (zb:=E0) (ok:=true) rfl rfl bF bF sr sr sr trivial rfl bF hi9 hz9 (bOk hl hjo c2) (aFh hl hjo) (by rw[uA];exact l1_1) ?_;simp (disch:=omega) only[go_sem,seval];refine ef hF ?_;refine ef hF ?_;refine ef hF ?_;refine ef hF ?_;refine ef hF ?_;refine ef hF ?_;refine Z18 _ _ (aW fun _ Z19=>cC (Le.keepC [1,6,8,10,41,42,43,44] _) ?_);refine cU ?_;refine ef hF ?_;refine ef hF ?_;refine ef hF ?_;show lW _ _ _ _ _ _ _ _;refine fK hF ?_;refine pZ i6 i6 (s:=6) (M:=jM (l.xAd.take i)) (a:=(l.xAd.getD i default).fB) (zb:=E0) (ok:=true) rfl rfl bF bF sr sr sr trivial rfl bF hi9 hz9 (cDz hl hjo c2) (aFh hl hjo) (by rw[uA];exact l1_1) ?_;simp (disch:=omega) only[go_sem,seval];refine ef hF ?_;refine ef hF ?_;refine ef hF ?_;refine ef hF ?_;refine ef hF ?_;refine ef hF ?_;refine Z19 _ _ (aW fun _ Z20=>bI hF [1,6,8,10,12,41,42,43,44] ?_);refine cQ (fun c3=>?_) fun c3=>?_
  ·refine bI hF [] ?_;refine dV ?_;exact aLb rfl (by simp (disch:=omega) only[go_sem,seval,seval]) (.cons (vU rfl rfl rfl) (.cons (vU rfl rfl rfl) .nil)) ⟨rfl,none,congrArg (fun x=>DV.tup [DV.v (.map none),vi x]) (cDj hjo c2 (bTp c2 c3)).symm,fun h=>by rw[cDj hjo c2 (bTp c2 c3)] at h;cases h⟩
  refine bU (Z20 _ _ ?_);have hc3:=c3;have hg1: ∀p∈rI (jM (l.xAd.take i)) (l.xAd.getD i default).fA (l.xAd.getD i default).fB,goodB Tryz.prog 89 (i6.val p.1)=true:=bVp (p:=fun a=>goodB Tryz.prog 89 (i6.val a)=true) (aFh hl hjo) (bOk hl hjo c2)
  skip
  refine aCa 12 [1,6,8,41,42,43,44] [1,8,42,43,44,66,67,68,69,70,71,72,73,74,75,6] [[],[],[1],[],[],[4],[],[6],[],[8],[0,1,2,6,7],[0,1,2,3,4,5,6,7,8,9,10]] [[10,11],[10,11],[10,11],[11],[11],[11],[10,11],[10,11],[11],[11],[11],[]] (fun (_:_root_.Unit) bQ=>dU O [(1,.bx (aQ l)),(8,.bx (pU (l.xAd.getD i default))),(42,bBt l.xAd),(43,vi (l.xAd.length:Nat)),(44,vi (i:Nat)),(66,bC (bQ 0) (.mr 6)),(67,bC (bQ 1) (.bp 8 0)),(68,bC (bQ 2) (.agg (fM (l.xAd.getD i default).fA))),(69,bC (bQ 3) (.mr 6)),(70,bC (bQ 4) (.bp 8 2)),(71,bC (bQ 5) (.agg (fM (l.xAd.getD i default).fB))),(72,bC (bQ 6) (.bp 8 2)),(73,bC (bQ 7) (.agg (fM (l.xAd.getD i default).fB))),(74,bC (bQ 8) (.bp 8 0)),(75,bC (bQ 9) (.agg (fM (l.xAd.getD i default).fA))),(6,.mo (esT i6 i6 ((cond (bQ 11) (rI (rI (jM (l.xAd.take i)) (l.xAd.getD i default).fA (l.xAd.getD i default).fB) (l.xAd.getD i default).fB (l.xAd.getD i default).fA) (cond (bQ 10) (rI (jM (l.xAd.take i)) (l.xAd.getD i default).fA (l.xAd.getD i default).fB) (jM (l.xAd.take i)))))))]) (fun (_:_root_.Unit) bQ=>[]) () hF (fun iQ hiQ oQ hoQ gg bQ hbQ KQ hKQ=>?_) (fun gg=>?_)
  ·match iQ,hiQ with
   |0,_|1,_|2,_|3,_|4,_|5,_|6,_|7,_|8,_|9,_=>
    exact qC hF hoQ hbQ (hKQ ())
   |10,_=>
    obtain rfl:=dO hoQ;simp only[stM,tE,tI,oK,oS,pH,jC,jE] at hbQ;show lW _ _ _ _ _ _ _ _;refine fK hF ?_;refine wK i6 i6 (kt:=89) (e:=89) (s:=6) (M:=jM (l.xAd.take i)) (a:=(l.xAd.getD i default).fA) (b:=(l.xAd.getD i default).fB) (.inl rfl) rfl rfl bF (by simp (disch:=omega) only[go_sem,seval,hbQ]<;>rfl) (by simp (disch:=omega) only[go_sem,seval,hbQ]<;>rfl) (by simp (disch:=omega) only[go_sem,seval,hbQ]<;>rfl) trivial rfl (by simp (disch:=omega) only[go_sem,seval,hbQ]<;>rfl) trivial rfl bF (bOk hl hjo c2) (aFh hl hjo) (by rw[uA];exact l1_1) ?_;simp (disch:=omega) only[go_sem,seval,hbQ];refine hKQ () _ _ ?_ ?_
    ·first|rfl|(simp (disch:=omega) only[go_sem,seval,hbQ];done)|(simp (disch:=omega) only[go_sem,seval,hbQ]<;>rfl)
    simp (disch:=omega) only[go_sem,seval,hbQ]<;>first|rfl|simp
   |11,_=>
    obtain rfl:=dO hoQ;simp only[stM,tE,tI,oK,oS,pH,jC,jE] at hbQ;show lW _ _ _ _ _ _ _ _;refine fK hF ?_;refine wK i6 i6 (kt:=89) (e:=89) (s:=6) (M:=rI (jM (l.xAd.take i)) (l.xAd.getD i default).fA (l.xAd.getD i default).fB) (a:=(l.xAd.getD i default).fB) (b:=(l.xAd.getD i default).fA) (.inl rfl) rfl rfl bF (by simp (disch:=omega) only[go_sem,seval,hbQ]<;>rfl) (by simp (disch:=omega) only[go_sem,seval,hbQ]<;>rfl) (by simp (disch:=omega) only[go_sem,seval,hbQ]<;>rfl) trivial rfl (by simp (disch:=omega) only[go_sem,seval,hbQ]<;>rfl) trivial rfl bF (cDz hl hjo c2) hg1 (aHg (by rw[uA];exact l1_1)) ?_;simp (disch:=omega) only[go_sem,seval,hbQ];refine hKQ () _ _ ?_ ?_
    ·first|rfl|(simp (disch:=omega) only[go_sem,seval,hbQ];done)|(simp (disch:=omega) only[go_sem,seval,hbQ]<;>rfl)
    simp (disch:=omega) only[go_sem,seval,hbQ]<;>first|rfl|simp
  refine lL ?_;refine Z16 _ _ (eO hF [1,6,41,42,43,44] ?_);refine Z13 _ _ _ bD ⟨i+1,rfl,rfl,bD,?_,?_⟩
  ·exact cJe c2 l1_1 c3.1 c3.2 (cDr hl hjo c2)
  simp (disch:=omega) only[go_sem,seval]<;>(rw[cKh c2 l1_1 c3.1 c3.2 (cDr hl hjo c2)];rfl)
 refine fV (Z11 _ _ (aW fun _ Z23=>?_));have hie:i=l.xAd.length:=by omega
 rw[hie,iL] at l1_1;rw[hie,iL];refine bJa (s1:=[]) (s2:=[]) 6 eN (by simp (disch:=omega) only[go_sem,seval,seval]<;>rfl) rfl (fun g0 k0=>?_);refine eO hF [6] ?_;refine Z23 _ _ (dV ?_);exact aLb rfl (by simp (disch:=omega) only[go_sem,seval,seval]) (.cons (vU rfl rfl rfl) (.cons (vU rfl rfl rfl) .nil)) ⟨rfl,some g0,congrArg (fun x=>DV.tup [DV.v (.map (some g0)),vi x]) (cRe hjo l1_1).symm,fun _=>⟨g0,k0,rfl,rfl⟩⟩
end Go.Sg
namespace Go.Sg
open Go.Proofs
open Go.Rv (goodB)
theorem aPw (js:List l0) (e:fH):lD (jM js) e=if (i7 js e).2=true then some (i7 js e).1 else none:=by
 unfold jM
 induction js with
 |nil=>rfl
 |cons j js ih=>
  rw[aIh,wA,wA,yS];unfold lD lD i7;split
  ·rfl
  split
  ·rfl
  exact ih
theorem bKu (js:List l0) (e:fH):(lD (jM js) e).isSome=(i7 js e).2:=by
 rw[aPw];split
 ·rename_i h;rw[h];rfl
 rename_i h;rw[rL] at h;rw[h];rfl
theorem bCf {js:List l0} {e:fH} (h:(i7 js e).2=false):(i7 js e).1=E0:=by
 induction js with
 |nil=>rfl
 |cons j js ih=>
  unfold i7 at h ⊢;split
  ·rename_i g;rw[if_pos g] at h;cases h
  rename_i g;rw[if_neg g] at h;split
  ·rename_i g2;rw[if_pos g2] at h;cases h
  rename_i g2;rw[if_neg g2] at h;exact ih h
theorem bOx (js:List l0) (e:fH):(lD (jM js) e).getD E0=(i7 js e).1:=by
 rw[aPw];split
 ·rfl
 rename_i h;rw[rL] at h;exact (bCf h).symm
def aAn (l:aC) (s:mS):Bool:=exB l s.fAt&&inI s.xBn 0 1000000
def aSr (l:aC) (s:mS):Bool:=(bH l s.fAt).2&&decide (fD l (bH l s.fAt).1.fEl≠fD l s.fAt.fEl)
def sdB (l:aC):Bool:=(List.range l.xAa.length).all fun i=>decide (lX l (l.xAa.getD i default).fAt=(i:Int))
def sgI (l:aC):Int:=if l.xAa.all (aAn l)=true then (if sdB l=true then (if l.xAa.all (aSr l)=true then 0 else 14) else 8) else 1
theorem cPq {l:aC} (h:l.xAa.all (aAn l)=false):sgI l=1:=by unfold sgI;rw[h,if_neg dH]
theorem cOx {l:aC} (h:l.xAa.all (aAn l)=true) (h2:sdB l=false):sgI l=8:=by unfold sgI;rw[if_pos h,h2,if_neg dH]
theorem cIl {l:aC} (h:l.xAa.all (aAn l)=true) (h2:sdB l=true) (h3:l.xAa.all (aSr l)=false):sgI l=14:=by unfold sgI;rw[if_pos h,if_pos h2,h3,if_neg dH]
theorem cNk {l:aC} (h:l.xAa.all (aAn l)=true) (h2:sdB l=true) (h3:l.xAa.all (aSr l)=true):sgI l=0:=by unfold sgI;rw[if_pos h,if_pos h2,if_pos h3]
def aKt (l:aC) (b:tL):Bool:=inI b.fId 1 1073741824&&(inI b.fEl 0 (l.xAh.length-1:Int)&&inI b.xCe 0 (lI l b.fEl.toNat).xAn)
def aMw (l:aC):List Int:=l.xAu.map (·.fId)
theorem aJz (l:aC):(aMw l).length=l.xAu.length:=by unfold aMw;simp
theorem aUy {l:aC} {i:Nat} (h:i<l.xAu.length):(aMw l).getD i default=(l.xAu.getD i default).fId:=by
 unfold aMw;rw[cA,cA,dG,cH h];rfl
def blI (l:aC):Int:=if l.xAu.all (aKt l)=true then (if ndT (aMw l)=true then 0 else 8) else 1
theorem cRf {l:aC} (h:l.xAu.all (aKt l)=false):blI l=1:=by unfold blI;rw[h,if_neg dH]
theorem cOl {l:aC} (h:l.xAu.all (aKt l)=true) (h2:ndT (aMw l)=false):blI l=8:=by unfold blI;rw[if_pos h,h2,if_neg dH]
theorem cNw {l:aC} (h:l.xAu.all (aKt l)=true) (h2:ndT (aMw l)=true):blI l=0:=by unfold blI;rw[if_pos h,if_pos h2]
theorem cLc {l:aC} {b:tL} (h:((!inI b.fId 1 1073741824)||(!inI b.fEl 0 (l.xAh.length-1:Int))||(!inI b.xCe 0 (lI l b.fEl.toNat).xAn))=true):aKt l b=false:=by
 unfold aKt;simp only[pQ,mH] at h;rcases h with (h|h)|h
 ·rw[h];rfl
 ·rw[h];simp
 rw[h];simp
theorem cHo {l:aC} {b:tL} (h:((!inI b.fId 1 1073741824)||(!inI b.fEl 0 (l.xAh.length-1:Int))||(!inI b.xCe 0 (lI l b.fEl.toNat).xAn))=false):aKt l b=true:=by
 unfold aKt;simp only[uL,aPy] at h;rw[h.1.1,h.1.2,h.2];rfl
theorem jN (n:Int):goodB Tryz.prog 3 (oG.val n)=true:=by
 have u3:Tryz.prog.underlying 3=some (.int .i64):=by kernel_rfl
 unfold goodB;rw[u3];rfl
theorem vY (s:ByteArray):goodB Tryz.prog 9 (aLx.val s)=true:=by
 have u9:Tryz.prog.underlying 9=some .string:=by kernel_rfl
 unfold goodB;rw[u9];rfl
theorem bHf: ∃i,Tryz.prog.info? 4=some i∧i.zero=some (pA.val false):=by
 obtain ⟨i,hi⟩: ∃i,Tryz.prog.info? 4=some i:=nQ.1 bF;have:((Tryz.prog.info? 4).bind (·.zero))=some (.bool false):=by kernel_rfl
 rw[hi] at this;exact ⟨i,hi,this⟩
theorem bUr (n:Int):oG.dv n=vi n:=rfl
theorem bKg (b:Bool):pA.dv b=vb b:=rfl
theorem bMv (s:ByteArray):aLx.dv s=vs s:=rfl
attribute [go_sem] bUr bKg bMv
def aDf {α:Type} (q:List α) (i:Nat):List (α×Bool):=(q.take i).map fun x=>(x,true)
section
variable {α:Type} [DecidableEq α] [Inhabited α] {q:List α} {i:Nat}
theorem aHf (q:List α) (i:Nat):(aDf q i).map (·.1)=q.take i:=by unfold aDf;rw[List.map_map];exact List.map_id _
theorem aMo (a:α):(lD (aDf q i) a).getD false=true↔a∈q.take i:=by
 unfold aDf
 induction q.take i with
 |nil=>simp[lD]
 |cons x l ih=>
  rw[kH];unfold lD;by_cases h:x=a
  ·subst h;simp
  rw[if_neg h,ih];simp[fC h]
theorem cKj (hi:i<q.length) (hn:(lD (aDf q i) (q.getD i default)).getD false=false):rI (aDf q i) (q.getD i default) true=aDf q (i+1):=by
 have h: ∀p∈aDf q i,p.1≠q.getD i default:=fun p hp e=>by
  have:q.getD i default∈q.take i:=by rw[← aHf q i,← e];exact dZ.2 ⟨p,hp,rfl⟩
  rw[(aMo _).2 this] at hn;cases hn
 rw[vL h];unfold aDf;rw[kX default hi,eM];rfl
theorem bVs (hi:i<q.length) (hd:(q.take i).Nodup) (hn:(lD (aDf q i) (q.getD i default)).getD false=false):(q.take (i+1)).Nodup:=by
 rw[kX default hi,nO];refine ⟨hd,by simp,fun a ha b hb e=>?_⟩;simp only[lH] at hb;subst e;subst hb;rw[(aMo _).2 ha] at hn;cases hn
theorem bVr (hi:i<q.length) (h:(lD (aDf q i) (q.getD i default)).getD false=true):ndT q=false:=by
 rw[← rL,aEw];intro hn;have:=(aMo _).1 h;rw[← u6 (i+1) q,nO,kX default hi,nO] at hn;exact hn.1.2.2 _ this _ dH rfl
end
set_option maxRecDepth 20000 in
theorem wN (O:aN) (l:aC) (hl:gO l):aZ Tryz.prog O 55 [.agg (aQ l)] (vi (blI l)):=by
 have hl1:=hl.sec;have hl2:=hl.el;have hl3:=hl.jo;have hl4:=hl.sg;have hl5:=hl.bl;obtain ⟨i4,hi4,hz4⟩:=bHf;refine bG 0 rfl (.agg (d:=aRe l.xAu) (by simp[aQ]) (.sl _ _ _)) fun hb=>?_;refine bG 0 rfl (.agg (d:=sL l.xAh) (by simp[aQ]) (.sl _ _ _)) fun he=>?_;refine eV Tryz.func55 ?_;refine aB [0] ?_;refine aA fun _ Z1=>aB [1] ?_;refine aI (aX [1,9,10,11] (fun n ρ=> ∃i,n=l.xAu.length-i∧(i≤l.xAu.length)∧(m0 (aKt l) l.xAu i)∧ρ=dU O [(1,.bx (aQ l)),(9,aRe l.xAu),(10,vi (l.xAu.length:Nat)),(11,vi (i:Nat))]) _ ⟨0,rfl,?_,?_,?_⟩ ?_)
 ·exact bD
 ·exact i8 _ _
 ·exact dT
 rintro n ρ ⟨i,rfl,l0_0,l0_1,rfl⟩ _ Z3;refine aB [1,8,9,10,11] ?_;refine aA fun _ Z5=>aO (fun c0=>?_) fun c0=>?_
 ·refine aD (Z5 _ (aA fun _ Z6=>aI (aB [1,8,9,10,11] ?_)));refine aA fun _ Z8=>nP [1,4,8,9,10,11] [] kR bF ?_;simp (disch:=omega) only[go_sem,seval]
  repeat refine cP (by first|(intro h;exact ⟨h,by simp only[mH,uL,aPy,inI,dR] at h;omega⟩)|exact kN) ?_
  refine lU (dP _ (l.xAu.getD i default).fId 1 1073741824) ?_ ?_
  ·rfl
  try simp (disch:=omega) only[go_sem,seval]
  repeat refine cP (by first|(intro h;exact ⟨h,by simp only[mH,uL,aPy,inI,dR] at h;omega⟩)|exact kN) ?_
  refine rD (fun g0=>dP _ (l.xAu.getD i default).fEl 0 (l.xAh.length-1:Int)) ?_ ?_ ?_
  ·first|exact fun _=>trivial|simp
  ·rfl
  try simp (disch:=omega) only[go_sem,seval]
  repeat refine cP (by first|(intro h;exact ⟨h,by simp only[mH,uL,aPy,inI,dR] at h;omega⟩)|exact kN) ?_
  refine rD (fun g1=>dP _ (l.xAu.getD i default).xCe 0 (lI l (l.xAu.getD i default).fEl.toNat).xAn) ?_ ?_ ?_
  ·first|exact fun _=>trivial|simp
  ·rfl
  try simp (disch:=omega) only[go_sem,seval]
  repeat refine cP (by first|(intro h;exact ⟨h,by simp only[mH,uL,aPy,inI,dR] at h;omega⟩)|exact kN) ?_
  refine Z8 _ (aO (fun c1=>?_) fun c1=>?_)
  ·refine aB [] ?_;refine aL (dN 2 ?_);exact dX.is (by simp (disch:=omega) only[go_sem,seval]<;>((exact congrArg vi (cRf (nK (f:=aKt l) c0 (cLc (by simpa using c1)))).symm))) rfl rfl
  refine aD (Z6 _ (bE [1,8,9,10,11] ?_));refine Z3 _ _ bD ⟨i+1,rfl,bD,?_,dT⟩
  ·exact jA l0_1 (cHo (by simpa using c1))
 refine bA (Z1 _ (aB [1] ?_));refine aA fun _ Z11=>aB [1,5] ?_;refine aI ?_;have hall:l.xAu.all (aKt l)=true:=pF l0_1 c0;refine aX [1,5,45,46,47] (fun n ρ=> ∃i,n=l.xAu.length-i∧(i≤l.xAu.length)∧(((aMw l).take i).Nodup)∧ρ=dU O [(1,.bx (aQ l)),(5,.mo (esT oG pA (aDf (aMw l) i))),(45,aRe l.xAu),(46,vi (l.xAu.length:Nat)),(47,vi (i:Nat))]) _ ⟨0,rfl,?_,?_,?_⟩ ?_
 ·exact bD
 ·exact List.nodup_nil
 ·exact dT
 rintro n ρ ⟨i,rfl,l1_0,l1_1,rfl⟩ _ Z13;refine aB [1,5,44,45,46,47] ?_;refine aA fun _ Z15=>aO (fun c2=>?_) fun c2=>?_
 ·refine aD (Z15 _ (aA fun _ Z16=>aI (aB [1,5,44,45,46,47] ?_)));refine aA fun _ Z18=>aA fun _ Z19=>cM (Le.keepC [1,5,7,44,45,46,47] _) ?_;refine fU ?_;refine ez ?_;refine ez ?_;refine ez ?_;show OW _ _ _ _ _ _;refine pZ oG pA (s:=5) (M:=aDf (aMw l) i) (a:=(l.xAu.getD i default).fId) (zb:=false) (ok:=false) rfl rfl bF bF sr sr sr trivial rfl bF hi4 hz4 (jN _) (fun p _=>jN p.1) (by rw[aHf];exact l1_1) ?_;refine lL ?_;refine Z19 _ (aO (fun c3=>?_) fun c3=>?_)
  ·refine aB [] ?_;refine aL (dN 2 ?_);exact dX.is (by simp (disch:=omega) only[go_sem,seval]<;>((exact congrArg vi (cOl hall (bVr (i:=i) (by rw[aJz];exact c2) (by rw[aUy c2];exact c3))).symm))) rfl rfl
  refine aD (Z18 _ (cM (Le.keepC [1,5,7,44,45,46,47] _) ?_));refine fU ?_;refine ez ?_;refine ez ?_;refine ez ?_;show OW _ _ _ _ _ _;refine wK oG pA (kt:=3) (e:=4) (s:=5) (M:=aDf (aMw l) i) (a:=(l.xAu.getD i default).fId) (b:=true) (.inl rfl) rfl rfl bF sr sr sr trivial rfl sr trivial rfl bF (jN _) (fun p _=>jN p.1) (by rw[aHf];exact l1_1) ?_;refine lL ?_;refine Z16 _ (bE [1,5,44,45,46,47] ?_);refine Z13 _ _ bD ⟨i+1,rfl,bD,?_,?_⟩
  ·exact bVs (by rw[aJz];exact c2) l1_1 (by rw[aUy c2];exact c3)
  rw[← aUy c2,cKj (by rw[aJz];exact c2) (by rw[aUy c2];exact c3)];simp (disch:=omega) only[go_sem,seval,seval];rfl
 refine bA (Z11 _ (aB [] ?_));refine aL (dN 2 ?_);exact dX.is (by simp (disch:=omega) only[go_sem,seval]<;>((exact congrArg vi (cNw hall (aEw.2 (by rw[jD (by rw[aJz];exact c2)] at l1_1;exact l1_1))).symm))) rfl rfl
end Go.Sg
namespace Go.Sg
open Go.Proofs
open Go.Rv (goodB)
theorem bLo {l:aC} (hl:gO l) (h:l.xAa.all (aAn l)=true) {i:Nat} (hi:i<l.xAa.length):goodB Tryz.prog 89 (i6.val (l.xAa.getD i default).fAt)=true:=by
 have:=rY (f:=aAn l) h hi;unfold aAn at this;simp only[cD] at this;exact aDl (aEv hl this.1)
theorem bQp {l:aC} (hl:gO l) (h:l.xAd.all (joB l)=true): ∀p∈jM l.xAd,goodB Tryz.prog 89 (i6.val p.1)=true:=by
 have:=aFh hl h (i:=l.xAd.length);rw[iL] at this;exact this
theorem aTn {l:aC} (h:joI l=0):l.xAd.all (joB l)=true∧(jR l.xAd).Nodup:=by
 unfold joI at h;split at h
 ·rename_i h1;split at h
  ·rename_i h2;exact ⟨h1,aEw.1 h2⟩
  cases h
 cases h
def mK (l:aC):Int:=
 if aPm l=false then 2 else if nmI l≠0 then nmI l else if pK l=false∨aPz l=false then 1 else if joI l≠0 then joI l else if sgI l≠0 then sgI l else blI l
section
variable {l:aC}
theorem cRy (h:aPm l=false):mK l=2:=by unfold mK;rw[if_pos h]
theorem cPc (h:aPm l=true) (h2:nmI l≠0):mK l=nmI l:=by unfold mK;rw[if_neg (by rw[h];simp),if_pos h2]
theorem cLy (h:aPm l=true) (h2:nmI l=0) (h3:pK l=false∨aPz l=false):mK l=1:=by unfold mK;rw[if_neg (by rw[h];simp),if_neg (by simp[h2]),if_pos h3]
theorem cTd (h:aPm l=true) (h2:nmI l=0) (h3:pK l=true∧aPz l=true) (h4:joI l≠0):mK l=joI l:=by unfold mK;rw[if_neg (by rw[h];simp),if_neg (by simp[h2]),if_neg (by rw[h3.1,h3.2];simp),if_pos h4]
theorem cQg (h:aPm l=true) (h2:nmI l=0) (h3:pK l=true∧aPz l=true) (h4:joI l=0) (h5:sgI l≠0):mK l=sgI l:=by unfold mK;rw[if_neg (by rw[h];simp),if_neg (by simp[h2]),if_neg (by rw[h3.1,h3.2];simp),if_neg (by simp[h4]),if_pos h5]
theorem cOd (h:aPm l=true) (h2:nmI l=0) (h3:pK l=true∧aPz l=true) (h4:joI l=0) (h5:sgI l=0):mK l=blI l:=by unfold mK;rw[if_neg (by rw[h];simp),if_neg (by simp[h2]),if_neg (by rw[h3.1,h3.2];simp),if_neg (by simp[h4]),if_neg (by simp[h5])]
end
theorem cJz {l:aC} {s:mS} (h:exB l s.fAt=false∨inI s.xBn 0 1000000=false):aAn l s=false:=by
 unfold aAn;rcases h with h|h
 ·rw[h];rfl
 rw[h];simp
theorem cGk {l:aC} {s:mS} (h:exB l s.fAt=true∧inI s.xBn 0 1000000=true):aAn l s=true:=by
 unfold aAn;rw[h.1,h.2];rfl
theorem cKt {l:aC} {s:mS} (h:(i7 l.xAd s.fAt).2=false∨fD l (i7 l.xAd s.fAt).1.fEl=fD l s.fAt.fEl):aSr l s=false:=by
 unfold aSr;rcases h with h|h
 ·rw[show (bH l s.fAt).2=false from h];rfl
 rw[e9 (by simpa using h)];simp
theorem cGb {l:aC} {s:mS} (h:(i7 l.xAd s.fAt).2=true∧ ¬fD l (i7 l.xAd s.fAt).1.fEl=fD l s.fAt.fEl):aSr l s=true:=by
 unfold aSr;rw[show (bH l s.fAt).2=true from h.1,dF h.2];rfl
set_option maxRecDepth 20000 in
theorem wO (O:aN) (l:aC) (g0 k0:Nat) (hl:gO l) (h0:joI l=0):aNj Tryz.prog O 54 [.agg (aQ l),.v (.map (some g0))] [.map g0 k0 (esT i6 i6 (jM l.xAd))] (fun _ O' r=>O'=O∧r=vi (sgI l)):=by
 have hl1:=hl.sec;have hl2:=hl.el;have hl3:=hl.jo;have hl4:=hl.sg;have hl5:=hl.bl;have hjo:=aTn h0;obtain ⟨i9,hi9,hz9⟩:=bQn;refine sU Tryz.func54 rfl bF fun w0 I0 A0=>?_;have hF:=pS w0 I0 (cG A0) (GOf [.map g0 k0 (esT i6 i6 (jM l.xAd))]);refine bJe (s1:=[]) (s2:=[]) 1 eN (by simp (disch:=omega) only[go_sem,seval,seval]<;>rfl) rfl ?_;refine bI hF [0,1] ?_;refine aW fun _ Z1=>bI hF [1,2] ?_;refine bZ (eY [1,2,14,15,16] (fun n sF ρ=> ∃i,n=l.xAa.length-i∧sF=[]∧(i≤l.xAa.length)∧(m0 (aAn l) l.xAa i)∧ρ=dU O [(1,.mo (esT i6 i6 (jM l.xAd))),(2,.bx (aQ l)),(14,uK l.xAa),(15,vi (l.xAa.length:Nat)),(16,vi (i:Nat))]) _ ⟨0,rfl,rfl,?_,?_,?_⟩ ?_)
 ·exact bD
 ·exact i8 _ _
 ·exact dT
 rintro n sF ρ ⟨i,rfl,rfl,l0_0,l0_1,rfl⟩ _ Z3;refine bI hF [1,2,13,14,15,16] ?_;refine aW fun _ Z5=>cQ (fun c0=>?_) fun c0=>?_
 ·refine bU (Z5 _ _ (aW fun _ Z6=>bZ (bI hF [1,2,13,14,15,16] ?_)));refine aW fun _ Z8=>gI hF [1,2,6,13,14,15,16] ?_;refine f9 (qV _ l (l.xAa.getD i default).fAt hl) ?_;refine rO (fun g0=>dP _ (l.xAa.getD i default).xBn 0 1000000) ?_;refine Z8 _ _ (cQ (fun c1=>?_) fun c1=>?_)
  ·refine bI hF [] ?_;refine dV ?_
   (try simp only[d8,fQ]);exact aTu 4 rfl (by simp (disch:=omega) only[go_sem,seval,seval]) (by simp (disch:=omega) only[go_sem,seval,seval]) rfl rfl ⟨rfl,congrArg vi (cPq (nK (f:=aAn l) c0 (cJz (by simpa using c1)))).symm⟩
  refine bU (Z6 _ _ (eO hF [1,2,13,14,15,16] ?_));refine Z3 _ _ _ bD ⟨i+1,rfl,rfl,bD,?_,dT⟩
  ·exact jA l0_1 (cGk (by simpa using c1))
 refine fV (Z1 _ _ (aW fun _ Z10=>bI hF [1,2] ?_));refine bZ ?_;have hsa:l.xAa.all (aAn l)=true:=pF l0_1 c0;refine eY [1,2,33,34,35] (fun n sF ρ=> ∃i,n=l.xAa.length-i∧sF=[]∧(i≤l.xAa.length)∧(nX (fun i=>decide (lX l (l.xAa.getD i default).fAt=(i:Int))) i)∧ρ=dU O [(1,.mo (esT i6 i6 (jM l.xAd))),(2,.bx (aQ l)),(33,uK l.xAa),(34,vi (l.xAa.length:Nat)),(35,vi (i:Nat))]) _ ⟨0,rfl,rfl,?_,?_,?_⟩ ?_
 ·exact bD
 ·exact lP _
 ·exact dT
 rintro n sF ρ ⟨i,rfl,rfl,l1_0,l1_1,rfl⟩ _ Z12;refine bI hF [1,2,32,33,34,35] ?_;refine aW fun _ Z14=>cQ (fun c2=>?_) fun c2=>?_
 ·refine bU (Z14 _ _ (aW fun _ Z15=>bZ (bI hF [1,2,32,33,34,35] ?_)));refine aW fun _ Z17=>gI hF [1,2,7,8,32,33,34,35] ?_;refine f9 (lS _ l (l.xAa.getD i default).fAt) ?_;refine Z17 _ _ (cQ (fun c3=>?_) fun c3=>?_)
  ·refine bI hF [] ?_;refine dV ?_
   (try simp only[d8,fQ]);exact aTu 4 rfl (by simp (disch:=omega) only[go_sem,seval,seval]) (by simp (disch:=omega) only[go_sem,seval,seval]) rfl rfl ⟨rfl,congrArg vi (cOx hsa (rR c2 (e9 (by simpa using c3)))).symm⟩
  refine bU (Z15 _ _ (eO hF [1,2,32,33,34,35] ?_));refine Z12 _ _ _ bD ⟨i+1,rfl,rfl,bD,?_,dT⟩
  ·exact kE l1_1 (dF (by simpa using c3))
 refine fV (Z10 _ _ (aW fun _ Z19=>bI hF [1,2] ?_));refine bZ ?_;have hsd:sdB l=true:=t6 l1_1 aV;refine eY [1,2,48,49,50] (fun n sF ρ=> ∃i,n=l.xAa.length-i∧sF=[]∧(i≤l.xAa.length)∧(m0 (aSr l) l.xAa i)∧ρ=dU O [(1,.mo (esT i6 i6 (jM l.xAd))),(2,.bx (aQ l)),(48,uK l.xAa),(49,vi (l.xAa.length:Nat)),(50,vi (i:Nat))]) _ ⟨0,rfl,rfl,?_,?_,?_⟩ ?_
 ·exact bD
 ·exact i8 _ _
 ·exact dT
 rintro n sF ρ ⟨i,rfl,rfl,l2_0,l2_1,rfl⟩ _ Z21;refine bI hF [1,2,47,48,49,50] ?_;refine aW fun _ Z23=>cQ (fun c4=>?_) fun c4=>?_
 ·refine bU (Z23 _ _ (aW fun _ Z24=>bZ (bI hF [1,2,47,48,49,50] ?_)));refine aW fun _ Z26=>cC (Le.keepC [1,2,10,47,48,49,50] _) ?_;refine cU ?_;refine ef hF ?_;refine ef hF ?_;refine ef hF ?_;show lW _ _ _ _ _ _ _ _;refine fK hF ?_;refine pZ i6 i6 (s:=1) (M:=jM l.xAd) (a:=(l.xAa.getD i default).fAt) (zb:=E0) (ok:=true) rfl rfl bF bF sr sr sr trivial rfl bF hi9 hz9 (bLo hl hsa c4) (bQp hl hjo.1) (by rw[uA];exact hjo.2) ?_
  try simp (disch:=omega) only[go_sem,seval]
  simp only[bKu,bOx];refine ef hF ?_;refine ef hF ?_;refine ef hF ?_;refine ef hF ?_;refine ef hF ?_;refine ef hF ?_;refine Z26 _ _ (aW fun _ Z27=>iU hF ?_);refine gJ [1,2,10,11,12,47,48,49,50] [] ?_;refine rO (fun g1=>f7 _ l (i7 l.xAd (l.xAa.getD i default).fAt).1.fEl) ?_;refine rO (fun g2=>f7 _ l (l.xAa.getD i default).fAt.fEl) ?_;refine Z27 _ _ (cQ (fun c5=>?_) fun c5=>?_)
  ·refine bI hF [] ?_;refine dV ?_
   (try simp only[d8,fQ]);exact aTu 4 rfl (by simp (disch:=omega) only[go_sem,seval,seval]) (by simp (disch:=omega) only[go_sem,seval,seval]) rfl rfl ⟨rfl,congrArg vi (cIl hsa hsd (nK (f:=aSr l) c4 (cKt (by simpa using c5)))).symm⟩
  refine bU (Z24 _ _ (eO hF [1,2,47,48,49,50] ?_));refine Z21 _ _ _ bD ⟨i+1,rfl,rfl,bD,?_,dT⟩
  ·exact jA l2_1 (cGb (by simpa using c5))
 refine fV (Z19 _ _ (bI hF [] ?_));refine dV ?_
 (try simp only[d8,fQ]);exact aTu 4 rfl (by simp (disch:=omega) only[go_sem,seval,seval]) (by simp (disch:=omega) only[go_sem,seval,seval]) rfl rfl ⟨rfl,congrArg vi (cNk hsa hsd (pF l2_1 c4)).symm⟩
end Go.Sg
namespace Go.Sg
open Go.Proofs
open Go.Rv (goodB)
set_option maxRecDepth 20000 in
theorem oW (O:aN) (l:aC) (hl:gO l):aZ Tryz.prog O 22 [.agg (aQ l)] (vi (mK l)):=by
 have hl1:=hl.sec;have hl2:=hl.el;have hl3:=hl.jo;have hl4:=hl.sg;have hl5:=hl.bl;refine iT Tryz.func22 rfl bF fun w0 I0 A0=>?_;have hF:=pS w0 I0 (cG A0) (GOf []);refine bI hF [0] ?_;refine aW fun _ Z1=>aW fun _ Z2=>gI hF [1] ?_;refine f9 (aAv _ l) ?_;refine Z2 _ _ (cQ (fun c0=>?_) fun c0=>?_)
 ·refine bI hF [] ?_;refine dV ?_
  (try simp only[fQ,d8]);refine dN 2 ?_;exact dX.is (by simp (disch:=omega) only[go_sem,seval,seval]<;>exact (congrArg vi (cRy c0)).symm) rfl rfl
 refine bU (Z1 _ _ (aW fun _ Z4=>aW fun _ Z5=>gI hF [1] ?_));refine f9 (zB _ l hl) ?_;refine Z5 _ _ (bI hF [1,3] ?_);refine cQ (fun c1=>?_) fun c1=>?_
 ·refine bI hF [3] ?_;refine dV ?_
  (try simp only[fQ,d8]);refine dN 2 ?_;exact dX.is (by simp (disch:=omega) only[go_sem,seval,seval]<;>exact (congrArg vi (cPc c0 c1)).symm) rfl rfl
 refine bU (Z4 _ _ (aW fun _ Z8=>aW fun _ Z9=>gI hF [1] ?_));refine f9 (x5 _ l hl) ?_;refine rO (fun g0=>wP _ l hl) ?_;refine Z9 _ _ (cQ (fun c2=>?_) fun c2=>?_)
 ·refine bI hF [] ?_;refine dV ?_
  (try simp only[fQ,d8]);refine dN 2 ?_;exact dX.is (by simp (disch:=omega) only[go_sem,seval,seval]<;>exact (congrArg vi (cLy c0 c1 c2)).symm) rfl rfl
 refine bU (Z8 _ _ (aW fun _ Z11=>cC (Le.keepC [1] _) ?_));refine cU ?_;refine ef hF ?_;show lW _ _ _ _ _ _ _ _;refine sZ (cur:=[]) (rs:=[]) (s2:=[]) rfl rfl rfl eN bF sz sz sr bF (by simp (disch:=omega) only[go_sem,seval]<;>exact List.Perm.refl _) (aCh _ l hl) ?_;rintro rs1 O1 r1 ⟨rfl,og,rfl,hjR⟩
 try simp (disch:=omega) only[go_sem,seval]
 refine ef hF ?_;refine ef hF ?_;refine ef hF ?_;refine ef hF ?_;refine ef hF ?_;refine Z11 _ _ (aW fun _ Z12=>bI hF [1,4,5,23,25] ?_);refine cQ (fun c3=>?_) fun c3=>?_
 ·refine bI hF [5] ?_;refine dV ?_
  (try simp only[fQ,d8]);refine dN 2 ?_;exact dX.is (by simp (disch:=omega) only[go_sem,seval,seval]<;>exact (congrArg vi (cTd c0 c1 c2 c3)).symm) rfl rfl
 refine bU (Z12 _ _ (aW fun _ Z15=>aW fun _ Z16=>cC (Le.keepC [1,4,23,25] _) ?_));refine cU ?_;have hj0:joI l=0:=c3;obtain ⟨g1,k1,rfl,rfl⟩:=hjR hj0;refine ef hF ?_;refine ef hF ?_;show lW _ _ _ _ _ _ _ _;refine sZ (cur:=_) (rs:=_) (s2:=[]) rfl rfl rfl eN bF sz sz sr bF (by simp (disch:=omega) only[go_sem,seval]<;>exact List.Perm.refl _) (wO _ l g1 k1 hl hj0) ?_;rintro rs2 O2 r2 ⟨rfl,rfl⟩
 try simp (disch:=omega) only[go_sem,seval]
 refine ef hF ?_;refine Z16 _ _ (bI hF [1,6] ?_);refine cQ (fun c4=>?_) fun c4=>?_
 ·refine bI hF [6] ?_;refine dV ?_
  (try simp only[fQ,d8]);refine dN 2 ?_;exact dX.is (by simp (disch:=omega) only[go_sem,seval,seval]<;>exact (congrArg vi (cQg c0 c1 c2 c3 c4)).symm) rfl rfl
 refine bU (Z15 _ _ (aW fun _ Z19=>gI hF [1] ?_));refine f9 (wN _ l hl) ?_;refine Z19 _ _ (dV ?_)
 (try simp only[fQ,d8]);refine dN 2 ?_;exact dX.is (by simp (disch:=omega) only[go_sem,seval,seval]<;>exact (congrArg vi (cOd c0 c1 c2 c3 c4)).symm) rfl rfl
end Go.Sg
namespace Go.Sg
open Go.Proofs
abbrev cMp (l:List fH):DV:=rowL 89 2 fM l
section
variable {l:aC}
theorem bOg {js:List l0} (h:js.all (joB l)=true) {e:fH} (h2:(i7 js e).2=true):exB l (i7 js e).1=true:=by
 induction js with
 |nil=>cases h2
 |cons j js ih=>
  rw[List.all_cons,cD] at h;have hj:=h.1;unfold joB at hj;simp only[cD] at hj;unfold i7 at h2 ⊢;split
  ·exact hj.2.1
  rename_i n1;rw[if_neg n1] at h2;split
  ·exact hj.1
  rename_i n2;rw[if_neg n2] at h2;exact ih h.2 h2
end
attribute [go_sem] Bool.not_false Bool.not_true
def vD (l:aC) (e:Int):Bool:=decide (0≤e∧e<(l.xAh.length:Int))
theorem mG {l:aC} {e:Int}:vD l e=true↔0≤e∧e<(l.xAh.length:Int):=decide_eq_true_iff
theorem cLu {l:aC} {e:Int}:vD l e=false↔ ¬(0≤e∧e<(l.xAh.length:Int)):=tD
def tN (l:aC) (s:bJ):Int×Bool:=if vD l s.fEl=true then gS (lI l s.fEl.toNat).xAp s.fIn s.xAv else (0,false)
def eT (l:aC) (s:bJ):fH×Bool:=bH l ⟨s.fEl,s.xAv⟩
def iZ (l:aC) (a:fH):List bJ:=if vD l a.fEl=true then (lE (lI l a.fEl.toNat).xAp a.xAj).map (fun o=>⟨a.fEl,a.xAj,o⟩) else []
def mI (l:aC) (q:List bJ):Int:=(q.map fun s=>if vD l s.fEl=true then (lI l s.fEl.toNat).xAn else 0).sum
abbrev fJ (l:List bJ):DV:=encL 3 cV l
abbrev yR (l:List bJ):DV:=rowL 87 3 cV l
theorem aSd {l:aC} {s:bJ} (h:vD l s.fEl=false):tN l s=(0,false):=by unfold tN;rw[if_neg (by rw[h];simp)]
theorem aCn {l:aC} {s:bJ} (h:vD l s.fEl=true):tN l s=gS (lI l s.fEl.toNat).xAp s.fIn s.xAv:=by unfold tN;rw[if_pos h]
theorem bUx {l:aC} {a:fH} (h:vD l a.fEl=false):iZ l a=[]:=by unfold iZ;rw[if_neg (by rw[h];simp)]
theorem bOb {l:aC} {a:fH} (h:vD l a.fEl=true):iZ l a=(lE (lI l a.fEl.toNat).xAp a.xAj).map (fun o=>⟨a.fEl,a.xAj,o⟩):=by unfold iZ;rw[if_pos h]
theorem bHw (k i:Int):(lE k i).length≤10:=by
 unfold lE aBh;rw[cJ];exact eL (aHv _ _) eN
theorem cUn {q:List Int} {f:Int→bJ} {i:Nat} (h:i<q.length):(q.map f).take (i+1)=(q.map f).take i++[f (q.getD i default)]:=by
 rw[List.take_succ_eq_append_getElem (by simpa using h),List.getElem_map,cA,cH h];rfl
theorem lN (O:aN) (l:aC) (e:Int):aZ Tryz.prog O 119 [.agg (aQ l),vi e] (vb (vD l e)):=by
 refine bG 0 rfl (.agg (d:=sL l.xAh) (by simp[aQ]) (.sl _ _ _)) fun he=>?_;refine eV Tryz.func119 ?_;refine aB [0,1] ?_;refine aB [1,2] ?_;refine aL (dN 4 (xb ?_))
 ((unfold vD;rw[rE];simp))
theorem vX (O:aN) (l:aC) (s:bJ) (hl:gO l):aZ Tryz.prog O 77 [.agg (aQ l),.agg (cV s)] (.tup [vi (tN l s).1,vb (tN l s).2]):=by
 have hl1:=hl.sec;have hl2:=hl.el;have hl3:=hl.jo;have hl4:=hl.sg;have hl5:=hl.bl;refine bG 0 rfl (.agg (d:=sL l.xAh) (by simp[aQ]) (.sl _ _ _)) fun he=>?_;refine eV Tryz.func77 ?_;refine aB [0,1] ?_;refine aA fun _ Z1=>aA fun _ Z2=>bN [2,3] ?_;refine f9 (lN _ l s.fEl) ?_;refine Z2 _ (aO (fun c0=>?_) fun c0=>?_)
 ·refine aB [] ?_;refine aL (rtu (.cons ?_ (.cons ?_ .nil)))
  ·exact vU (by simp (disch:=omega) only[go_sem,seval]<;>((rw[aSd (by simpa using c0)]))) rfl rfl
  exact vU (by simp (disch:=omega) only[go_sem,seval]<;>((rw[aSd (by simpa using c0)]))) rfl rfl
 refine aD (Z1 _ (aA fun _ Z4=>nP [2,3] [] kR bF ?_));simp (disch:=omega) only[go_sem,seval]
 repeat refine cP (by first|exact mG.1 (by simpa using c0)|exact kN) ?_
 refine lU (wH _ (lI l s.fEl.toNat).xAp s.fIn s.xAv) ?_ ?_
 ·rfl
 try simp (disch:=omega) only[go_sem,seval]
 repeat refine cP (by first|exact mG.1 (by simpa using c0)|exact kN) ?_
 refine Z4 _ (aL (rtu (.cons ?_ (.cons ?_ .nil))))
 ·exact vU (by simp (disch:=omega) only[go_sem,seval]<;>((rw[aCn (by simpa using c0)]))) rfl rfl
 exact vU (by simp (disch:=omega) only[go_sem,seval]<;>((rw[aCn (by simpa using c0)]))) rfl rfl
theorem vF (O:aN) (l:aC) (a:fH) (hl:gO l):aZ Tryz.prog O 154 [.agg (aQ l),.agg (fM a)] (fJ (iZ l a)):=by
 have hl1:=hl.sec;have hl2:=hl.el;have hl3:=hl.jo;have hl4:=hl.sg;have hl5:=hl.bl;have hlg:=bHw (lI l a.fEl.toNat).xAp a.xAj;refine bG 0 rfl (.agg (d:=sL l.xAh) (by simp[aQ]) (.sl _ _ _)) fun he=>?_;refine eV Tryz.func154 ?_;refine aB [0,1] ?_;refine aA fun _ Z1=>aA fun _ Z2=>bN [2,3] ?_;refine f9 (lN _ l a.fEl) ?_;refine Z2 _ (aO (fun c0=>?_) fun c0=>?_)
 ·refine aB [] ?_;refine xL 4 3 cV rfl rfl ?_;refine aL (dN 4 ?_);exact dX.encL rfl (by (rw[bUx (by simpa using c0)]))
 refine aD (Z1 _ (aB [2,3] ?_));refine aA fun _ Z5=>aA fun _ Z6=>nP [2,3,5] [] kR bF ?_;simp (disch:=omega) only[go_sem,seval]
 repeat refine cP (by first|exact mG.1 (by simpa using c0)|exact kN) ?_
 refine lU (aEm _ (lI l a.fEl.toNat).xAp a.xAj) ?_ ?_
 ·rfl
 try simp (disch:=omega) only[go_sem,seval]
 repeat refine cP (by first|exact mG.1 (by simpa using c0)|exact kN) ?_
 refine Z6 _ (aI (l4 5 87 3 cV rfl rfl ?_));refine aX [3,5,22,23,24] (fun n ρ=> ∃i,n=(lE (lI l a.fEl.toNat).xAp a.xAj).length-i∧(i≤(lE (lI l a.fEl.toNat).xAp a.xAj).length)∧ρ=dU O [(3,.bx (fM a)),(5,yR (((lE (lI l a.fEl.toNat).xAp a.xAj).map fun o=>(⟨a.fEl,a.xAj,o⟩:bJ)).take i)),(22,d5 (lE (lI l a.fEl.toNat).xAp a.xAj)),(23,vi ((lE (lI l a.fEl.toNat).xAp a.xAj).length:Nat)),(24,vi (i:Nat))]) _ ⟨0,rfl,?_,?_⟩ ?_
 ·exact bD
 ·exact dT
 rintro n ρ ⟨i,rfl,l0_0,rfl⟩ _ Z7;refine aB [3,5,22,23,24] ?_;refine aA fun _ Z9=>aO (fun c1=>?_) fun c1=>?_
 ·refine aD (Z9 _ (aA fun _ Z10=>aI (aB [3,5,22,23,24] ?_)));refine bE [3,5,7,22,23,24] ?_;refine Z10 _ (cS [3,5,22,23,24] bF ?_);simp (disch:=omega) only[go_sem,seval]
  repeat refine cP (by first|exact kN|(rw[cJ];exact bW _)|(simp only[iO,cJ,fP,aBo];omega)) ?_
  refine Z7 _ _ bD ⟨i+1,rfl,bD,?_⟩;simp (disch:=omega) only[go_sem,seval]<;>(rw[cUn c1,eM];rfl)
 refine bA (Z5 _ (aA fun _ Z12=>iS 5 _ rfl rfl ?_));refine bE [5] ?_;refine Z12 _ (aL (dN 4 ?_));exact dX.encL rfl (by (rw[bOb (by simpa using c0),jD (by simpa using c1)]))
theorem uB (O:aN) (l:aC) (s:bJ):aZ Tryz.prog O 198 [.agg (cV s),.dp (aQ l)] (.tup [.agg (fM (eT l s).1),vb (eT l s).2]):=by
 refine eV Tryz.func198 ?_;refine aB [0,1] ?_;refine aA fun _ Z1=>bN [1,2,3] ?_;refine f9 (n0 _ l ⟨s.fEl,s.xAv⟩) ?_;refine Z1 _ (aL (rtu (.cons ?_ (.cons ?_ .nil))))
 ·exact roC sr sv bF (by first|rfl|(simp (disch:=omega) only[go_sem,seval]))
 exact vU sv rfl rfl
open Go.Rv (goodB)
def aMd (l:aC) (s:bJ):Int:=if vD l s.fEl=true then (lI l s.fEl.toNat).xAn else 0
theorem aOi (l:aC) {q:List bJ} {i:Nat} (h:i<q.length):mI l (q.take (i+1))=mI l (q.take i)+aMd l (q.getD i default):=by
 rw[kX default h];unfold mI aMd;rw[eM,List.sum_append];simp
theorem aZq {l:aC} (he:pK l=true) (s:bJ):0≤aMd l s∧aMd l s≤1000000:=by
 unfold aMd;split
 ·rename_i h;have h:=mG.1 h;have:=rY (f:=aFn l) he (i:=s.fEl.toNat) aV;unfold aFn at this;have:=dK this;show 0≤(l.xAh.getD s.fEl.toNat default).xAn∧(l.xAh.getD s.fEl.toNat default).xAn≤1000000;omega
 omega
theorem aFy {l:aC} (he:pK l=true) (q:List bJ): ∀i,0≤mI l (q.take i)∧mI l (q.take i)≤1000000*(i:Int)
 |0=>by simp[mI]
 |i+1=>by
  have ih:=aFy he q i;by_cases h:i<q.length
  ·rw[aOi l h];have:=aZq he (q.getD i default);omega
  rw[jD aV] at ih ⊢;omega
def aRu (q:List Int) (x:Int):List Int:=if x∈q then q else q++[x]
def qZ (l:aC) (q:List Int) (s:bJ):List Int:=if vD l s.fEl=true then aRu q (lI l s.fEl.toNat).xBb else q
def jK (l:aC) (q:List bJ):List Int:=q.foldl (qZ l) []
theorem aGg (l:aC) {q:List bJ} {i:Nat} (h:i<q.length):jK l (q.take (i+1))=qZ l (jK l (q.take i)) (q.getD i default):=by
 rw[kX default h];unfold jK;rw[aVw];rfl
theorem bNj (l:aC) {q:List bJ} {i:Nat} (h:i<q.length) (he:vD l (q.getD i default).fEl=false):jK l (q.take (i+1))=jK l (q.take i):=by
 rw[aGg l h];unfold qZ;rw[he];rfl
theorem bMd (l:aC) {q:List bJ} {i:Nat} (h:i<q.length) (hm:(lI l (q.getD i default).fEl.toNat).xBb∈jK l (q.take i)):jK l (q.take (i+1))=jK l (q.take i):=by
 rw[aGg l h];unfold qZ aRu;rw[if_pos hm];split<;>rfl
theorem bNm (l:aC) {q:List bJ} {i:Nat} (h:i<q.length) (he:vD l (q.getD i default).fEl=true) (hm:(lI l (q.getD i default).fEl.toNat).xBb∉jK l (q.take i)):jK l (q.take (i+1))=jK l (q.take i)++[(lI l (q.getD i default).fEl.toNat).xBb]:=by
 rw[aGg l h];unfold qZ aRu;rw[if_pos he,if_neg hm]
theorem xA (l:aC) (q:List bJ): ∀i,(jK l (q.take i)).Nodup
 |0=>by simp[jK]
 |i+1=>by
  have ih:=xA l q i;by_cases h:i<q.length
  ·rw[aGg l h];unfold qZ aRu;split
   ·split
    ·exact ih
    rename_i hn;rw[nO];exact ⟨ih,by simp,fun a ha b hb e=>hn (by simp only[lH] at hb;rw[← hb,← e];exact ha)⟩
   exact ih
  rw[jD aV] at ih ⊢;exact ih
theorem zJ (l:aC) (q:List bJ): ∀i,(jK l (q.take i)).length≤i
 |0=>by simp[jK]
 |i+1=>by
  have ih:=zJ l q i;by_cases h:i<q.length
  ·rw[aGg l h];unfold qZ aRu;split
   ·split
    ·omega
    rw[fP];simp;omega
   omega
  rw[jD aV] at ih ⊢;omega
def mtS (q:List Int):List (Int×Bool):=q.map fun x=>(x,true)
theorem tM (q:List Int):(mtS q).map (·.1)=q:=by unfold mtS;rw[List.map_map];exact List.map_id _
theorem aAd (q:List Int) (a:Int):(lD (mtS q) a).getD false=decide (a∈q):=by
 unfold mtS
 induction q with
 |nil=>rfl
 |cons x l ih=>
  rw[kH];unfold lD;by_cases h:x=a
  ·subst h;simp
  rw[if_neg h,ih];simp[fC h]
theorem aVb {q:List Int} {a:Int} (h:a∉q):rI (mtS q) a true=mtS (q++[a]):=by
 rw[vL (fun p hp e=>h (by rw[← tM q,← e];exact dZ.2 ⟨p,hp,rfl⟩))];unfold mtS;rw[eM];rfl
theorem pR (O:aN) (l:aC) (q:List bJ) (hl:gO l) (hes:pK l=true) (hq:q.length≤100):aZ Tryz.prog O 127 [.agg (aQ l),fJ q] (vi (mI l q)):=by
 have hl1:=hl.sec;have hl2:=hl.el;have hl3:=hl.jo;have hl4:=hl.sg;have hl5:=hl.bl;refine bG 0 rfl (.agg (d:=sL l.xAh) (by simp[aQ]) (.sl _ _ _)) fun he=>?_;refine bG 1 rfl (.sl _ _ _) fun hql=>?_;refine eV Tryz.func127 ?_;refine aB [0,1] ?_;refine aB [1,2] ?_;refine aA fun _ Z2=>aB [1,2,5] ?_;refine aI (aX [2,5,8,9,10] (fun n ρ=> ∃i,n=q.length-i∧(i≤q.length)∧ρ=dU O [(2,.bx (aQ l)),(5,vi (mI l (q.take i))),(8,fJ q),(9,vi (q.length:Nat)),(10,vi (i:Nat))]) _ ⟨0,rfl,?_,?_⟩ ?_)
 ·exact bD
 ·simp (disch:=omega) only[go_sem,seval]<;>rfl
 rintro n ρ ⟨i,rfl,l0_0,rfl⟩ _ Z4;have hlb:=aFy hes q i;have heb:=aZq hes (q.getD i default);refine aB [1,2,5,8,9,10] ?_;refine aA fun _ Z6=>aO (fun c0=>?_) fun c0=>?_
 ·refine aD (Z6 _ (aA fun _ Z7=>aI (aB [1,2,5,8,9,10] ?_)));refine aA fun _ Z9=>bN [1,2,5,7,8,9,10] ?_;refine f9 (lN _ l (q.getD i default).fEl) ?_;refine Z9 _ (aO (fun c1=>?_) fun c1=>?_)
  ·have hex:=mG.1 c1;have heq:aMd l (q.getD i default)=(l.xAh.getD (q.getD i default).fEl.toNat default).xAn:=by unfold aMd;rw[if_pos c1]
   rw[heq] at heb;refine bE [1,2,5,7,8,9,10] ?_;refine Z7 _ (bE [1,2,5,8,9,10] ?_);refine Z4 _ _ bD ⟨i+1,rfl,bD,?_⟩;simp (disch:=omega) only[go_sem,seval]<;>(rw[aOi l (by assumption),heq];rfl)
  refine aD (Z7 _ (bE [1,2,5,8,9,10] ?_));refine Z4 _ _ bD ⟨i+1,rfl,bD,?_⟩;simp (disch:=omega) only[go_sem,seval]<;>(rw[aOi l (by assumption)];unfold aMd;rw[if_neg (by simpa using c1)];simp)
 refine bA (Z2 _ (aB [5] ?_));refine aL (dN 4 ?_);exact dX.is (by simp (disch:=omega) only[go_sem,seval]<;>((rw[jD aV]))) rfl rfl
set_option maxRecDepth 20000 in
theorem vR (O:aN) (l:aC) (q:List bJ) (hl:gO l) (hes:pK l=true) (hq:q.length≤100):aZ Tryz.prog O 72 [.agg (aQ l),fJ q] (d5 (jK l q)):=by
 have hl1:=hl.sec;have hl2:=hl.el;have hl3:=hl.jo;have hl4:=hl.sg;have hl5:=hl.bl;obtain ⟨i4,hi4,hz4⟩:=bHf;refine bG 0 rfl (.agg (d:=sL l.xAh) (by simp[aQ]) (.sl _ _ _)) fun he=>?_;refine bG 1 rfl (.sl _ _ _) fun hql=>?_;refine eV Tryz.func72 ?_;refine aB [0,1] ?_;refine aB [1,2] ?_;refine aB [1,2,5] ?_;refine aA fun _ Z3=>aB [1,2,5,6] ?_;refine aI (l4 5 3 1 eI rfl rfl ?_);refine aX [2,5,6,11,12,13] (fun n ρ=> ∃i,n=q.length-i∧(i≤q.length)∧ρ=dU O [(2,.bx (aQ l)),(5,aUu (jK l (q.take i))),(6,.mo (esT oG pA (mtS (jK l (q.take i))))),(11,fJ q),(12,vi (q.length:Nat)),(13,vi (i:Nat))]) _ ⟨0,rfl,?_,?_⟩ ?_
 ·exact bD
 ·exact dT
 rintro n ρ ⟨i,rfl,l0_0,rfl⟩ _ Z5;have hsl:=zJ l q i;refine aB [1,2,5,6,11,12,13] ?_;refine aA fun _ Z7=>aO (fun c0=>?_) fun c0=>?_
 ·refine aD (Z7 _ (aA fun _ Z8=>aI (aB [1,2,5,6,11,12,13] ?_)));refine aA fun _ Z10=>aA fun _ Z11=>bN [1,2,5,6,8,11,12,13] ?_;refine f9 (lN _ l (q.getD i default).fEl) ?_;refine Z11 _ (aO (fun c1=>?_) fun c1=>?_)
  ·refine bA (Z8 _ (bE [1,2,5,6,11,12,13] ?_));refine Z5 _ _ bD ⟨i+1,rfl,bD,?_⟩;simp (disch:=omega) only[go_sem,seval]<;>(rw[bNj l c0 (by simpa using c1)];rfl)
  have hex:=mG.1 (by simpa using c1);have hex2:vD l (q.getD i default).fEl=true:=(by simpa using c1);refine aD (Z10 _ (aB [1,2,5,6,8,11,12,13] ?_));refine aA fun _ Z13=>cM (Le.keepC [1,2,5,6,9,11,12,13] _) ?_;refine fU ?_;refine ez ?_;refine ez ?_;show OW _ _ _ _ _ _;refine pZ oG pA (s:=6) (M:=mtS (jK l (q.take i))) (a:=(lI l (q.getD i default).fEl.toNat).xBb) (zb:=false) (ok:=false) rfl rfl bF bF sr sr sr trivial rfl bF hi4 hz4 (jN _) (fun p _=>jN p.1) (by rw[tM];exact xA l q i) ?_
  try simp (disch:=omega) only[go_sem,seval]
  refine ez ?_;refine Z13 _ (aO (fun c2=>?_) fun c2=>?_)
  ·have hn:(lI l (q.getD i default).fEl.toNat).xBb∉(jK l (q.take i)):=aLh (by rw[← aAd];simpa using c2);refine aA fun _ Z14=>cM (Le.keepC [1,2,5,6,9,11,12,13] _) ?_;refine fU ?_;refine ez ?_;refine ez ?_;show OW _ _ _ _ _ _;refine wK oG pA (kt:=3) (e:=4) (s:=6) (M:=mtS (jK l (q.take i))) (a:=(lI l (q.getD i default).fEl.toNat).xBb) (b:=true) (.inl rfl) rfl rfl bF sr sr sr trivial rfl sr trivial rfl bF (jN _) (fun p _=>jN p.1) (by rw[tM];exact xA l q i) ?_;refine lL ?_;refine Z14 _ (bE [1,2,5,6,9,11,12,13] ?_);refine Z8 _ (bE [1,2,5,6,11,12,13] ?_);refine Z5 _ _ bD ⟨i+1,rfl,bD,?_⟩;simp (disch:=omega) only[go_sem,seval]<;>(rw[bNm l c0 hex2 hn,aVb hn,eM];rfl)
  have hn:(lI l (q.getD i default).fEl.toNat).xBb∈(jK l (q.take i)):=dK (by rw[← aAd];simpa using c2);refine aD (Z8 _ (bE [1,2,5,6,11,12,13] ?_));refine Z5 _ _ bD ⟨i+1,rfl,bD,?_⟩;simp (disch:=omega) only[go_sem,seval]<;>(rw[bMd l c0 hn];rfl)
 refine bA (Z3 _ (aA fun _ Z15=>iS 5 _ rfl rfl ?_));refine bE [5] ?_;refine Z15 _ (aL (dN 4 ?_));exact dX.encL rfl (by (rw[jD c0]))
end Go.Sg
namespace Go.Sg
open Go.Proofs
theorem xX (O:aN) (l:aC):aZ Tryz.prog O 164 [.agg (aQ l)] (.fn 198 [] [.dp (aQ l)]):=by
 refine eV Tryz.func164 ?_;refine aB [0] ?_;refine aA fun _ Z1=>mC 1 rfl rfl rfl ?_;refine bE [1] ?_;refine Z1 _ (aL (dN 2 ?_));exact dX.is (by simp (disch:=omega) only[go_sem,seval]<;>(rfl)) rfl rfl
set_option maxRecDepth 20000 in
theorem aEs (O:aN) (l:aC) (s:bJ):aZ Tryz.prog O 155 [.agg (aQ l),.agg (cV s)] (.tup [.agg (fM (eT l s).1),vb (eT l s).2]):=by
 refine eV Tryz.func155 ?_;refine aB [0,1] ?_;refine aA fun _ Z1=>aBi 8 [2,3,4] [2,3,6,7,8,9,10,11,5,4] [] [] [[],[0],[],[0,1,2],[0,1,2,3],[0,1,2,3],[0,1,2,3,4,5],[0,1,2,3,4,5,6]] [[6],[6],[6],[6],[6],[6],[],[]] (fun bQ=>dU O [(2,.bx (aQ l)),(3,.bx (cV s)),(6,bC (bQ 0) (.agg (aQ l))),(7,bC (bQ 1) (.fn 198 [] [.dp (aQ l)])),(8,bC (bQ 2) (.agg (cV s))),(9,bC (bQ 3) (.tup [.agg (fM (eT l s).1),vb (eT l s).2])),(10,bC (bQ 4) (.agg (fM (eT l s).1))),(11,bC (bQ 5) (vb (eT l s).2)),(5,bC (bQ 7) (vb (eT l s).2)),(4,rP (bQ 6) true (.bx (fM (eT l s).1)) (.bx [vi 0,vi 0]))]) (fun iQ hiQ oQ hoQ bQ hbQ KQ hKQ=>?_) ?_
 ·match iQ,hiQ with
  |0,_|2,_|4,_|5,_|6,_|7,_=>
   exact mkp hoQ hbQ hKQ
  |1,_=>
   exact mkc hoQ hbQ hKQ (xX _ l)
  |3,_=>
   exact mkc hoQ hbQ hKQ (uB _ l s)
 refine lL ?_;refine Z1 _ (aL (rtu (.cons ?_ (.cons ?_ .nil))))
 ·exact roC sr sv bF (by first|rfl|(simp (disch:=omega) only[go_sem,seval]))
 exact vU sv rfl rfl
end Go.Sg
