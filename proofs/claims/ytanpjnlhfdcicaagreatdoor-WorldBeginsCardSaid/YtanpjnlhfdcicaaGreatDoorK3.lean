/- Several texts as one. -/
import Derived.Test.YtanpjnlhfdcicaaGreatDoorK2
import Derived.ChangeArms
import Derived.Lib.LaidTab
import Derived.SizedLaws
import Derived.WideShapes
set_option linter.unusedSectionVars false
set_option linter.unusedVariables false
set_option linter.unusedSimpArgs false
namespace Go.Sg
open Go.RowKit
open Go.Rv (FR)
def dU (O:aN):List (Nat×DV)->aN
 | []=>bS O
 |p::l=>set (dU O l) p.1 p.2
theorem aKi (O:aN):dU O []=bS O:=rfl
theorem aDs (O:aN) (i:Nat) (d:DV) (l:List (Nat×DV)):dU O ((i,d)::l)=set (dU O l) i d:=rfl
inductive Has:DV->Nat->Prop
 |sl (z n:Nat) (f:Nat->List DV):Has (.sl z n f) n
 |el {z m n:Nat} {f:Nat->List DV} (i:Nat) {d:DV} (hi:i<m) (hd:d∈f i) (h:Has d n):Has (.sl z m f) n
 |agg {cs:List DV} {n:Nat} {d:DV} (hd:d∈cs) (h:Has d n):Has (.agg cs) n
 |tup {cs:List DV} {n:Nat} {d:DV} (hd:d∈cs) (h:Has d n):Has (.tup cs) n
 |dp {cs:List DV} {n:Nat} {d:DV} (hd:d∈cs) (h:Has d n):Has (.dp cs) n
theorem bP.has {w:World} {I:Nat->Prop} {d:DV} {n:Nat} (hh:Has d n): ∀{A:dD} {x:Value},bP w I A d x->n<=9223372036854775807:=by
 induction hh with
 |sl z n f=>
  intro A x h;cases h with
  |sl0=>omega
  |sl _ _ _ _ b o c us hn hc hm hI hz hcell hone hrel=>exact eL hc hm
 |el i hi hd h ih=>
  intro A x hr;cases hr with
  |sl0=>omega
  |sl _ _ _ _ b o c us hn hc hm hI hz hcell hone hrel=>
   obtain⟨j,hj⟩:=aEa hd;exact ih (hrel i j _ hi hj)
 |agg hd h ih=>
  intro A x hr;cases hr with
  |agg _ _ vs hl hone hrel=>
   obtain⟨j,hj⟩:=aEa hd;have hlt:j<vs.size:=by
    rw[<- hl];rcases b9 j _ with h1|h1
    ·exact h1
    rw[fN h1] at hj;cases hj
   exact ih (hrel j _ _ hj (iY hlt))
 |tup hd h ih=>
  intro A x hr;cases hr with
  |tup _ _ vs hl hrel=>
   obtain⟨j,hj⟩:=aEa hd;have hlt:j<vs.size:=by
    rw[<- hl];rcases b9 j _ with h1|h1
    ·exact h1
    rw[fN h1] at hj;cases hj
   exact ih (hrel j _ _ hj (iY hlt))
 |dp hd h ih=>
  intro A x hr;cases hr with
  |dp _ _ b o us hI hcell hone hrel=>
   obtain⟨j,hj⟩:=aEa hd;exact ih (hrel j _ hj)
section
variable {P:Program} {nt:Nat} {ρ O:aN} {Q:Exit->aN->Prop} {c:Code}
theorem bKr {f:FuncId} {args:List DV} {R:aN->DV->Prop} (j:Nat) {d:DV} {n:Nat} (hj:args[j]?=some d) (hh:Has d n) (k:n<=9223372036854775807->iC P O f args R):iC P O f args R:=
 fun w I A vals hO hl hv=>by
  have hlt:j<vals.size:=by
   rw[hl];rcases b9 j args.length with h1|h1
   ·exact h1
   rw[fN h1] at hj;cases hj
  exact k ((hv j d _ hj (iY hlt)).has hh) w I A vals hO hl hv
theorem bG {f:FuncId} {args:List DV} {r:DV} (j:Nat) {d:DV} {n:Nat} (hj:args[j]?=some d) (hh:Has d n) (k:n<=9223372036854775807->aZ P O f args r):aZ P O f args r:=bKr j hj hh k
theorem sX {fn:Func} {O:aN} {r:DV} (t:Nat) (hf:fn.results= #[.tmp t]) (h1:hi ρ=bS O) (h2:dX ρ t r):rZ P fn O (fun O' r'=>O'=O/\r'=r) .ret ρ:=
 aEe h1 (by rw[hf];exact h2)
theorem dX.is {t:Nat} {r:DV} (h:ρ t=r) (hr:lG r=true) (hs:sh r=r):dX ρ t r:=.pure r (h.symm▸hr) (by rw[h,hs];exact eK.refl _) (by cases r<;>first|rfl|cases hr)
theorem uJ {x:Int} (h: -9223372036854775808<=x) (h':x<=9223372036854775807):IntKind.i64.wrap x=x:=by
 rw[IntKind.wrap_i64];omega
theorem cJu (i n:Nat):((i:Int)<(n:Int))=(i<n):=by apply propext;omega
theorem cIf (i n:Nat):((i:Int)<=(n:Int))=(i<=n):=by apply propext;omega
theorem cKv (i:Nat):((0:Int)<=(i:Int))=True:=by apply propext;simp
theorem dL {α:Type} {l:List α} {i:Nat} (d:α) (h:i<l.length):l.drop i=l.getD i d::l.drop (i+1):=by
 rw[aMf h,cA,cH h];rfl
theorem iW {α:Type} {l:List α} {i:Nat} (h:l.length<=i):l.drop i=[]:=List.drop_eq_nil_of_le h
end
attribute [go_sem] aKi aDs yG cJu cIf cKv
end Go.Sg
namespace Go.Sg
open Go.RowKit
open Go.Rv (FR)
def frz (z:Nat) (xs:List (List DV)):DV:=.sl z xs.length fun i=>xs.getD i []
section
variable {P:Program} {nt:Nat} {w w':World} {I I':Nat->Prop} {A:dD} {ρ O:aN} {Q:Exit->aN->Prop} {c:Code}
theorem eU.keep {s:Nat} {d:DV} {x:Value} (hr:eU w I A s d x) (h: ∀B d x,bP w I B d x->bP w' I' B d x):eU w' I' A s d x:=by
 cases d with
 |bx cs=>exact hr
 |row e z xs=>exact hr
 |cond g y=>exact⟨fun hg=>h _ _ _ (hr.1 hg),hr.2⟩
 |any=>exact .any A x
 |v y=>exact h _ _ _ hr
 |sl z n f=>exact h _ _ _ hr
 |agg cs=>exact h _ _ _ hr
 |tup cs=>exact h _ _ _ hr
 |dp cs=>exact h _ _ _ hr
 |bp t o=>exact h _ _ _ hr
 |own t n=>exact h _ _ _ hr
 |rp t z i o=>exact h _ _ _ hr
 |fn f b c=>exact h _ _ _ hr
 |iface t y=>exact h _ _ _ hr
 |mr t=>exact h _ _ _ hr
 |ez=>exact h _ _ _ hr
 |mo es=>exact hr
theorem jX.frz {e:TypeId} {z:Nat} {xs:List (List DV)} {B:Option Nat} {c:Nat} (h:jX w I e z xs B c) (hI: ∀g,B=some g->I' g) (hm: ∀g,I g->I' g) {A:dD}:
  ∀{b:Option Addr},mU B b->bP w I' A (frz z xs) (.slice b xs.length c):=by
 intro b hb;unfold Sg.frz;cases B with
 |none=>obtain⟨rfl,rfl⟩:=h;exact .sl0 A _ _ _ _
 |some g=>
  obtain rfl:=iX hb;obtain⟨us,h1,h2,h3,h4,h5⟩:=h;rcases nL xs.length with h0|h0
  ·rw[h0];exact .sl0 A _ _ _ _
  have hget: ∀i,i<xs.length->xs[i]?=some (xs.getD i []):=fun i hi=>by rw[cA,cH hi];rfl
  have hb: ∀i j,i<xs.length->j<z->i*z+j<us.size:=fun i j hi hj=>by
   rw[h2];have:(i+1)*z<=c*z:=gF _ aV;rw[jV] at this;omega
  refine .sl A z _ _ g 0 c (fun i j=>us.getD (i*z+j) undef) h0 h4 h3 (hI g rfl) (fun i hi=>(h5 i _ (hget i hi)).1) (fun i j hi hj=>?_) (fun i j hi hj=>?_) fun i j d hi hd=>?_
  ·unfold World.cell?;rw[h1];simp only[Option.isSome_none,gH];rw[iY (hb i j hi hj),oB,iY (hb i j hi hj)];rfl
  ·have hl:=(h5 i _ (hget i hi)).1;have hj':j<(xs.getD i []).length:=by omega
   have e2:us[i*z+j]?=some (us.getD (i*z+j) undef):=by rw[oB,iY (hb i j hi hj)];rfl
   exact ((h5 i _ (hget i hi)).2 j _ _ (cH hj') e2).1
  have hl:=(h5 i _ (hget i hi)).1;have hj:j<z:=by
   rw[<- hl];rcases b9 j (xs.getD i []).length with h|h
   ·exact h
   rw[fN h] at hd;cases hd
  have e2:us[i*z+j]?=some (us.getD (i*z+j) undef):=by rw[oB,iY (hb i j hi hj)];rfl
  exact ((h5 i _ (hget i hi)).2 j d _ hd e2).2.mono fun g' hg'=>⟨hm g' hg',fun _=>rfl⟩
theorem bJx {f:FuncId} {args:List DV} {e:TypeId} {z:Nat} {xs:List (List DV)} (h:aZ P O f args (.row e z xs)):aZ P O f args (frz z xs):=
 fun w I A vals h1 h2 h3=>(h w I A vals h1 h2 h3).mono fun _ w' ⟨v,I',O',r,k1,k2,k3,k4,k5,k6,k7,k8⟩=>by
  subst k8;obtain⟨B,c,⟨b,hb,rfl⟩,q2,q3⟩:=k6;have hm: ∀g,I' g->(I' g\/B=some g):=fun g hg=>.inl hg;have hmono: ∀(B':dD) d x,bP w' I' B' d x->bP w' (fun g=>I' g\/B=some g) B' d x:=fun B' d x hr=>hr.mono fun g hg=>⟨hm g hg,fun _=>rfl⟩;refine⟨_,fun g=>I' g\/B=some g,_,frz z xs,k1,⟨fun s=>(k2.own s).keep (fun _ _ _=>rfl) hmono,k2.inj,fun s g c' hA=>⟨(k2.sep s g c' hA).1,fun hi=>hi.elim (k2.sep s g c' hA).2 fun hB=>?_⟩,k2.imm.step (fun g hg=>hg.elim (k2.imm g) fun hB=>(q3 g hB).2.1) fun g hg=>⟨.inl hg,rfl⟩⟩,k3,k4,
   ⟨k5.os,k5.tape,k5.output,k5.size,fun g hg=>.inl (k5.imm g hg),fun g hg hA=>?_,k5.loc,k5.outA⟩,q2.frz (fun g hg=>.inr hg) hm hb,k7,rfl⟩
  ·have:=(h1.sep s g c' hA).1;have:=(q3 g hB).1;omega
  obtain⟨e1,e2,e3⟩:=k5.old g hg hA;refine⟨e1,fun hi=>hi.elim e2 fun hB=>?_,e3⟩;have:=(q3 g hB).1;omega
theorem dB.frz {a:Act} (hs:dB nt w I A ρ a) {s:Nat} (hlt:s<100000) {e:TypeId} {z:Nat} {xs:List (List DV)} (h:ρ s=.row e z xs):
  ∃I' A',dB nt w I' A' (set (d4 s ρ) s (Sg.frz z xs)) a/\f8 w I A w I' A':=by
 have ho:=hs.osim.own s;have hsl:=hs.slot s;rw[h] at ho hsl;obtain⟨B,c,h1,h2⟩:=ho;have hd:=hs.disown hlt;have hm: ∀g,I g->(I g\/B=some g):=fun g hg=>.inl hg;have hmono: ∀(B':dD) d x,bP w I B' d x->bP w (fun g=>I g\/B=some g) B' d x:=fun B' d x hr=>hr.mono fun g hg=>⟨hm g hg,fun _=>rfl⟩;have hB: ∀g,B=some g->g<w.heap.size:=fun g hg=>(hs.osim.sep s g c (by rw[h1,hg])).1;refine⟨fun g=>I g\/B=some g,kC A s none,⟨⟨fun t=>?_,hd.osim.inj,fun t g c' hA=>⟨(hd.osim.sep t g c' hA).1,fun hi=>hi.elim (hd.osim.sep t g c' hA).2 fun hb=>?_⟩,hs.osim.imm.step (fun g hg=>hg.elim (hs.osim.imm g) (hB g)) fun g hg=>⟨.inl hg,rfl⟩⟩,hs.size,hs.bound,fun i hi=>?_,fun t ht=>?_⟩,
  ⟨rfl,⟨rfl,bW _⟩,rfl,bW _,hm,fun g hg hA=>⟨rfl,fun hi=>hi.elim id fun hb=>absurd h1 (by rw[hb];exact hA s c),fun t c' ht=>?_⟩,fun t g c' hA _ ht=>⟨t,c',ht,?_⟩,fun t ht=>fF A _ aV⟩⟩
 ·have:=(hd.osim.own t).keep (I':=fun g=>I g\/B=some g) (fun _ _ _=>rfl) hmono;unfold set at this ⊢;split
  ·trivial
  rename_i hne;rw[if_neg hne] at this;exact this
 ·unfold kC at hA;split at hA
  ·cases hA
  rename_i hne;exact hne (hs.osim.inj t s g c' c hA (by rw[h1,hb]))
 ·by_cases hi':i=s
  ·subst hi';obtain⟨B',c',q1,b,hb',q2⟩:=hsl hi;rw[h1] at q1;simp only[bX,cF] at q1;obtain⟨rfl,rfl⟩:=q1;rw[aK,if_pos rfl,q2];exact h2.frz (fun g hg=>.inr hg) hm hb'
  have:=(hd.slot i hi).keep (I':=fun g=>I g\/B=some g) hmono;rw[aK,if_neg hi'] at this ⊢;exact this
 ·have:=hd.out t ht;rw[aK,if_neg aV] at this ⊢;exact this
 ·unfold kC at ht;split at ht
  ·cases ht
  exact hA t c' ht
 unfold kC at hA;split at hA
 ·cases hA
 exact hA
theorem cLf (s:Nat) (hlt:(decide (s<100000))=true) {e:TypeId} {z:Nat} {xs:List (List DV)} (h:ρ s=.row e z xs) (k:AW P nt c Q (set (d4 s ρ) s (frz z xs))):AW P nt c Q ρ:=
 fun ro ds I A a w hw hd=>by
  obtain⟨I',A',h1,h2⟩:=hw.frz (dK hlt) h;exact wpIn_mono (k ro ds I' A' a w h1 hd) fun _ _ _ ⟨I2,A2,ρ2,k1,k2,k3,k4⟩=>⟨I2,A2,ρ2,k1,k2,h2.trans k3,k4⟩
theorem bRt (s:Nat) {d:DV} (d':DV) (hlt:(decide (s<100000))=true) (h:ρ s=d) (hw:eK d d') (hp:lG d=true) (hp':lG d'=true) (k:AW P nt c Q (set ρ s d')):AW P nt c Q ρ:=
 fun ro ds I A a w hs hd=>k ro ds I A a w ⟨⟨fun t=>by
   rw[aK];split
   ·exact fW.ofPure (by cases d'<;>first|rfl|cases hp')
   ·exact hs.osim.own t,hs.osim.inj,hs.osim.sep,hs.osim.imm⟩,hs.size,hs.bound,fun i hi=>by
   rw[aK];split
   ·rename_i e;subst e;have:=hs.slot i hi;rw[h] at this;exact .ofRel (hw _ _ _ _ (this.rel hp))
   ·exact hs.slot i hi,fun t ht=>by
   have:=dK hlt;rw[aK,if_neg aV];exact hs.out t ht⟩ hd
theorem bAq (s:Nat) (e:TypeId) (z:Nat) (hlt:(decide (s<nt))=true) (h:ρ s=.v (.slice none 0 0)\/ρ s=.ez) (k:AW P nt c Q (set (d4 s ρ) s (.row e z []))):AW P nt c Q ρ:=
 fun ro ds I A a w hs hd=>by
  have hlt:=dK hlt;have hsl:=hs.slot s hlt;obtain⟨b,hx⟩: ∃b,a.tmps.getD s undef=.slice b 0 0:=by
   generalize a.tmps.getD s undef=x at hsl ⊢;rcases h with h|h<;>rw[h] at hsl
   ·have hsl:bP w I A (.v (.slice none 0 0)) x:=hsl;cases hsl;exact⟨_,rfl⟩
   have hsl:bP w I A .ez x:=hsl;cases hsl;exact⟨_,rfl⟩
  have hput:a.put (some s) (.slice b 0 0)=a:=aLd (by rw[hs.size];exact hlt) hx;have hnew:=hs.own (d:=s) hlt (B:=none) (c:=0) (v:=.row e z []) (x:=.slice b 0 0) (fun g hg=>by cases hg) ⟨none,0,by unfold kC;rw[if_pos rfl],b,lY _,rfl⟩ ⟨none,0,by unfold kC;rw[if_pos rfl],rfl,rfl⟩;rw[hput] at hnew;refine wpIn_mono (k ro ds I (kC A s (some (none,0))) a w hnew hd) fun _ _ _ ⟨I2,A2,ρ2,k1,k2,k3,k4⟩=>⟨I2,A2,ρ2,k1,k2,f8.trans ?_ k3,k4⟩;refine⟨rfl,⟨rfl,bW _⟩,rfl,bW _,fun _ h=>h,fun g hg hA=>⟨rfl,fun h=>h,fun t c' ht=>?_⟩,fun t g c' hA _ ht=>⟨t,c',ht,?_⟩,fun t ht=>fF A _ (by have:=hs.bound;omega)⟩
  ·unfold kC at ht;split at ht
   ·cases ht
   exact hA t c' ht
  unfold kC at hA;split at hA
  ·cases hA
  exact hA
theorem bId (s:Nat) (e:TypeId) (z:Nat) (hlt:(decide (s<nt))=true) (h:ρ s=.v (.slice none 0 0)) (k:AW P nt c Q (set (d4 s ρ) s (.row e z []))):AW P nt c Q ρ:=bAq s e z hlt (.inl h) k
theorem eK.ez (z:Nat) (f:Nat->List DV):eK .ez (.sl z 0 f):=fun _ _ A x h=>by cases h;exact .sl0 A z f _ _
inductive rQ:List DV->List DV->Prop
 |nil:rQ [] []
 |cons {d d':DV} {l l':List DV} (h:eK d d') (t:rQ l l'):rQ (d::l) (d'::l')
theorem rQ.refl: ∀l,rQ l l
 | []=>.nil
 |_::l=>.cons (eK.refl _) (rQ.refl l)
theorem rQ.len {l l':List DV} (h:rQ l l'):l.length=l'.length:=by
 induction h with
 |nil=>rfl
 |cons h t ih=>simp[ih]
theorem rQ.get {l l':List DV} (h:rQ l l'): ∀(j:Nat) (d:DV),l'[j]?=some d-> ∃d',l[j]?=some d'/\eK d' d:=by
 induction h with
 |nil=>intro j d h;simp at h
 |cons h t ih=>
  intro j d hd;cases j with
  |zero=>simp at hd;subst hd;exact⟨_,rfl,h⟩
  |succ j=>simpa using ih j d (by simpa using hd)
theorem bDl {f:FuncId} {args args':List DV} {R:aN->DV->Prop} (hw:rQ args args') (h:iC P O f args' R):iC P O f args R:=
 fun w I A vals h1 h2 h3=>h w I A vals h1 (h2.trans hw.len) fun j d u hd hu=>by
  obtain⟨d',k1,k2⟩:=hw.get j d hd;exact k2 _ _ _ _ (h3 j d' u k1 hu)
theorem jB {f:FuncId} {args:List DV} {r:DV} (args':List DV) (hw:rQ args args') (h:aZ P O f args' r):aZ P O f args r:=bDl hw h
theorem bJs {f:FuncId} {args:List DV} {r:DV} (r':DV) (h:aZ P O f args r) (hw:eK r r') (h1:cK r=false) (h2:cK r'=false):aZ P O f args r':=
 iC.mono (R:=fun O' x=>O'=O/\x=r') (fun w I A vals k1 k2 k3=>(h w I A vals k1 k2 k3).mono fun _ w' ⟨v,I',O',x,q1,q2,q3,q4,q5,q6,q7,q8⟩=>by
  subst q8;refine⟨v,I',O',r',q1,q2,q3,q4,q5,?_,q7,rfl⟩;have:bP w' I' A x v:=by cases x<;>first|exact q6|cases h1
  have:=hw _ _ _ _ this;cases r'<;>first|exact this|cases h2) fun _ _ h=>h
theorem bHv (L:List Nat) {x y:Code} (J:aN->Prop) (hx: ∀K:aN->Prop,(∀ρ',J (keepC L ρ')->K ρ')->AW P nt x (xV K Q) ρ) (hy: ∀ρ,J ρ->AW P nt y Q ρ):AW P nt (.seq x y) Q ρ:=
 aA fun K hK=>hx K fun ρ' hJ=>hK ρ' (cM (Le.keepC L ρ') (hy _ hJ))
theorem eK.frz {z n:Nat} {xs:List (List DV)} {f:Nat->List DV} (hn:xs.length=n) (h: ∀i,i<n->xs.getD i []=f i):eK (frz z xs) (.sl z n f):=by
 subst hn;exact eK.sl z _ h
end
end Go.Sg
namespace Go.Sg
open Go.RowKit
def encL {α:Type} [Inhabited α] (z:Nat) (e:α->List DV) (l:List α):DV:=.sl z l.length fun i=>e (l.getD i default)
def rowL {α:Type} (t:TypeId) (z:Nat) (e:α->List DV) (l:List α):DV:=.row t z (l.map e)
abbrev vi (x:Int):DV:=.v (.int .i64 x)
abbrev vb (x:Bool):DV:=.v (.bool x)
abbrev vs (x:ByteArray):DV:=.v (.string x)
abbrev eI (x:Int):List DV:=[vi x]
abbrev d5 (l:List Int):DV:=encL 1 eI l
theorem bXn {α β:Type} (e:α->β) (l:List α):(l.map e).take l.length=l.map e:=by
 rw[<- cJ (f:=e),iL]
theorem aSx {α:Type} [Inhabited α] (e:α->List DV) (l:List α) {i:Nat} (h:i<l.length):(l.map e).getD i []=e (l.getD i default):=by
 simp[cA,cH h]
theorem mN {α:Type} [Inhabited α] (e:α->List DV) (l:List α):((List.range l.length).map fun i=>e (l.getD i default))=l.map e:=by
 apply List.ext_getElem dH;intro i h1 h2;simp at h1;simp[cH h1]
theorem cUo (a:Bool):(a==true)=a:=by cases a<;>rfl
theorem cUl (a:Bool):(a==false)= !a:=by cases a<;>rfl
theorem cRn (a b:Bool):(bif a then b else false)=(a&&b):=by cases a<;>rfl
theorem cMg (a b:Bool):(bif a then true else b)=(a||b):=by cases a<;>rfl
theorem bPh (l:List Int) (x:Int):l.map eI++[[vi x]]=(l++[x]).map eI:=by simp
theorem cKq (k n:Nat):(((no_index (OfNat.ofNat k)):Int)<(n:Int))=(k<n):=by apply propext;show ((k:Nat):Int)<n↔_;omega
theorem cKx (k n:Nat):((n:Int)<((no_index (OfNat.ofNat k)):Int))=(n<k):=by apply propext;show (n:Int)<((k:Nat):Int)↔_;omega
theorem cJo (k n:Nat):(((no_index (OfNat.ofNat k)):Int)<=(n:Int))=(k<=n):=by apply propext;show ((k:Nat):Int)<=n↔_;omega
theorem cFf (k n:Nat):((n:Int)<=((no_index (OfNat.ofNat k)):Int))=(n<=k):=by apply propext;show (n:Int)<=((k:Nat):Int)↔_;omega
theorem bPu (i n:Nat):((i:Int)==(n:Int))=(i==n):=by rw[rE];simp only[mV];omega
theorem bPi (i n:Nat):((i:Int) !=(n:Int))=(i !=n):=by rw[rE];simp only[bne_iff_ne,ne_eq];omega
theorem cHi (k n:Nat):((n:Int)==((no_index (OfNat.ofNat k)):Int))=(n==k):=bPu n k
theorem cGm (k n:Nat):((n:Int) !=((no_index (OfNat.ofNat k)):Int))=(n !=k):=bPi n k
theorem bLh (k n:Nat):((n:Int)-(no_index (OfNat.ofNat k))).toNat=n-k:=by show ((n:Int)-(k:Nat)).toNat=_;omega
theorem bNp (k n:Nat):((n:Int)-(k:Int)).toNat=n-k:=by omega
theorem bIc (k n:Nat):((n:Int)+(no_index (OfNat.ofNat k))).toNat=n+k:=by show ((n:Int)+(k:Nat)).toNat=_;omega
theorem bZr (i:Nat):1+i=i+1:=Nat.add_comm 1 i
section
variable {P:Program} {nt:Nat} {ρ O:aN} {Q:Exit->aN->Prop} {c:Code}
theorem eK.frzL {α:Type} [Inhabited α] {z:Nat} (e:α->List DV) (l:List α):eK (Sg.frz z (l.map e)) (encL z e l):=
 eK.frz dH fun i hi=>aSx e l hi
theorem eK.nilL {α:Type} [Inhabited α] {z c:Nat} {b:Option Addr} (e:α->List DV):eK (.v (.slice b 0 c)) (encL z e []):=eK.nil z c b _
theorem dX.encL {α:Type} [Inhabited α] {t z:Nat} {e:α->List DV} {l l':List α} (h:ρ t=Sg.encL z e l') (hl:l'=l):dX ρ t (Sg.encL z e l):=by
 subst hl;exact dX.is h rfl rfl
theorem dX.rowL {α:Type} {t:Nat} {ty:TypeId} {z:Nat} {e:α->List DV} {l l':List α} (h:ρ t=Sg.rowL ty z e l') (hl:l'=l):dX ρ t (Sg.rowL ty z e l):=by
 subst hl;exact dX.row _ _ _ h
theorem dX.cut {α:Type} {t s n:Nat} {ty:TypeId} {z:Nat} {e:α->List DV} {l l':List α} (h:ρ t=.own s n) (hs:s<100000) (hr:ρ s=Sg.rowL ty z e l') (hn:n<=l'.length) (hl:l'.take n=l):dX ρ t (Sg.rowL ty z e l):=by
 subst hl;have:=dX.own s ty z n (l'.map e) h hs hr (by simpa using hn)
 rwa [<- List.map_take] at this
theorem dX.ownL {α:Type} {t s n:Nat} {ty:TypeId} {z:Nat} {e:α->List DV} {l l':List α} (h:ρ t=.own s n) (hs:s<100000) (hr:ρ s=Sg.rowL ty z e l') (hn:n=l'.length) (hl:l'=l):dX ρ t (Sg.rowL ty z e l):=
 dX.cut h hs hr aV (by rw[hn,iL];exact hl)
theorem eK.litL {α:Type} [Inhabited α] {z n:Nat} {e:α->List DV} {xs:List (List DV)} (l:List α) (hx:xs=l.map e) (hn:n=l.length):eK (.sl z n fun i=>xs.getD i []) (Sg.encL z e l):=by
 subst hx;subst hn;exact eK.sl z _ fun i hi=>aSx e l hi
theorem rD {g:Bool} {pre:Prop} {f:FuncId} {l:List DV} {k:DV->Prop} {t:Tg k} {r:DV} (h:g=true->aZ P ρ f l r) (hp:g=true->pre) (hr:lG r=true) (hk:k r):aRl P ρ g pre f l k t:=⟨r,hr,fun hg=>⟨hp hg,h hg⟩,hk⟩
theorem lU {f:FuncId} {l:List DV} {k:DV->Prop} {t:Tg k} {r:DV} (h:aZ P ρ f l r) (hr:cK r=false) (hk:k r):aPp P ρ f l k t:=⟨r,hr,h,hk⟩
theorem iS {α:Type} [Inhabited α] (s:Nat) (l:List α) {e:α->List DV} {t:TypeId} {z:Nat} (hlt:(decide (s<100000))=true) (h:ρ s=.row t z (l.map e)) (k:AW P nt c Q (set (d4 s ρ) s (encL z e l))):AW P nt c Q ρ:=by
 refine cLf s hlt h (bRt s (encL z e l) hlt (by rw[aK,if_pos rfl]) (eK.frzL e l) rfl rfl ?_);have:set (set (d4 s ρ) s (Sg.frz z (l.map e))) s (encL z e l)=set (d4 s ρ) s (encL z e l):=by
  funext i;simp only[aK];split<;>rfl
 rw[this];exact k
theorem xL {α:Type} [Inhabited α] (s:Nat) (z:Nat) (e:α->List DV) (hlt:(decide (s<100000))=true) (h:ρ s=.v (.slice none 0 0)) (k:AW P nt c Q (set ρ s (encL z e []))):AW P nt c Q ρ:=
 bRt s _ hlt h (eK.nilL e) rfl rfl k
theorem l4 {α:Type} (s:Nat) (t:TypeId) (z:Nat) (e:α->List DV) (hlt:(decide (s<nt))=true) (h:ρ s=.v (.slice none 0 0)) (k:AW P nt c Q (set (d4 s ρ) s (rowL t z e []))):AW P nt c Q ρ:=
 bId s t z hlt h k
theorem dA {α:Type} [Inhabited α] {f:FuncId} {args:List DV} {t:TypeId} {z:Nat} {e:α->List DV} {l:List α} (h:aZ P O f args (rowL t z e l)):aZ P O f args (encL z e l):=
 bJs _ (bJx h) (eK.frzL e l) rfl rfl
end
attribute [go_sem] forall_eq forall_eq_or_imp or_false encL rowL bXn aSx mN qD cJ List.range_zero cRn cMg cUo cUl Bool.not_not and_self ne_eq not_false_eq_true bPh cKq cKx cJo cFf bPu bPi cHi cGm bLh bNp bIc bZr Nat.zero_lt_succ Nat.add_one_sub_one decide_true decide_false xN nJ Nat.lt_irrefl aKv
end Go.Sg
namespace Go.Sg
open Go.RowKit
theorem bYj {P:Program} {f:FuncId} {args:List DV} {w:World} {vals:Array Value} (h:aZ P (fun _=>.any) f args (vb true)) (hl:vals.size=args.length)
  (hv: ∀(j:Nat) (d:DV) (u:Value),args[j]?=some d->vals[j]?=some u->bP w (fun g=>g<w.heap.size) fO d u)
  (hG: ∀g us e,GT g=some (us,e)->w.heap[g]?=some (.cells us e (0,0))):
  Calls P f vals w fun e w'=>e=.returned (.bool true)/\Below w.heap.size w w':=by
 have hO:jI w (fun g=>g<w.heap.size) fO (fun _=>.any):=by
  refine⟨fun _=>trivial,fun s t g c c' h=>?_,fun s g c h=>?_,⟨fun g h=>h,fun g us e hg=>⟨(aZy.1 (hG g us e hg)).1,hG g us e hg⟩⟩⟩
  ·exact absurd h dH
  exact absurd h dH
 refine (h w _ fO vals hO hl hv).mono fun e w' ⟨v,I',O',r,k1,k2,k3,k4,k5,k6,k7,k8⟩=>?_;subst k8;have k6:bP w' I' fO (vb true) v:=k6;cases k6;exact⟨k1,k5.os,k5.tape.1,k5.output,k5.size,fun k hk=>(k5.old k hk fun s c h=>by cases h).1⟩
inductive RL (w:World) (I:Nat->Prop) (A:dD):List DV->List Value->Prop
 |nil:RL w I A [] []
 |cons {d:DV} {x:Value} {l:List DV} {m:List Value} (h:bP w I A d x) (t:RL w I A l m):RL w I A (d::l) (x::m)
theorem RL.len {w:World} {I:Nat->Prop} {A:dD} {l:List DV} {m:List Value} (h:RL w I A l m):m.length=l.length:=by
 induction h with
 |nil=>rfl
 |cons h t ih=>simp[ih]
theorem RL.get {w:World} {I:Nat->Prop} {A:dD} {l:List DV} {m:List Value} (h:RL w I A l m): ∀(j:Nat) (d:DV) (u:Value),l[j]?=some d->m[j]?=some u->bP w I A d u:=by
 induction h with
 |nil=>intro j d u hd;simp at hd
 |cons h t ih=>
  intro j d u hd hu;cases j with
  |zero=>simp at hd hu;subst hd;subst hu;exact h
  |succ j=>exact ih j d u (by simpa using hd) (by simpa using hu)
theorem cLs {P:Program} {f:FuncId} {args:List DV} {w:World} {vals:List Value} (h:aZ P (fun _=>.any) f args (vb true)) (hv:RL w (fun g=>g<w.heap.size) fO args vals)
  (hG: ∀g us e,GT g=some (us,e)->w.heap[g]?=some (.cells us e (0,0))):
  Calls P f vals.toArray w fun e w'=>e=.returned (.bool true)/\Below w.heap.size w w':=
 bYj h (by simpa using hv.len) (fun j d u hd hu=>hv.get j d u hd (by simpa using hu)) hG
theorem aXl {w:World} {I:Nat->Prop} {A:dD} {α:Type} [Inhabited α] {z c:Nat} {e:α->List DV} {b:Option Addr}:bP w I A (encL z e []) (.slice b 0 c):=.sl0 A z _ b c
end Go.Sg
namespace Go.Sg
open Go.RowKit
inductive RC (w:World) (I:Nat->Prop):List DV->List Value->Prop
 |nil:RC w I [] []
 |cons {d:DV} {x:Value} {l:List DV} {m:List Value} (h:bP w I fO d x) (o:x.oneCell'=true) (t:RC w I l m):RC w I (d::l) (x::m)
section
variable {w:World} {I:Nat->Prop}
theorem RC.len {l:List DV} {m:List Value} (h:RC w I l m):m.length=l.length:=by
 induction h with
 |nil=>rfl
 |cons h o t ih=>simp[ih]
theorem RC.get {l:List DV} {m:List Value} (h:RC w I l m): ∀(j:Nat) (d:DV) (u:Value),l[j]?=some d->m[j]?=some u->bP w I fO d u:=by
 induction h with
 |nil=>intro j d u hd;simp at hd
 |cons h o t ih=>
  intro j d u hd hu;cases j with
  |zero=>simp at hd hu;subst hd;subst hu;exact h
  |succ j=>exact ih j d u (by simpa using hd) (by simpa using hu)
theorem RC.one {l:List DV} {m:List Value} (h:RC w I l m): ∀u∈m,u.oneCell'=true:=by
 induction h with
 |nil=>simp
 |cons h o t ih=>intro u hu;rcases gN.1 hu with e|e;exact e▸o;exact ih u e
theorem RC.app {l l':List DV} {m m':List Value} (h:RC w I l m) (h':RC w I l' m'):RC w I (l++l') (m++m'):=by
 induction h with
 |nil=>exact h'
 |cons h o t ih=>exact .cons h o ih
theorem RC.join {l l':List DV} {cs:List Value} {o s:Nat} (h:RC w I l ((cs.drop o).take s)) (h':RC w I l' (cs.drop (o+s))):RC w I (l++l') (cs.drop o):=by
 have:=h.app h'
 rwa [<- xW,u6] at this
theorem RC.stop {cs:List Value} {n:Nat} (h:cs.length=n):RC w I [] (cs.drop n):=by
 rw[List.drop_eq_nil_of_le aV];exact .nil
theorem RC.agg {l:List DV} {cs:Array Value} (h:RC w I l cs.toList) {A:dD}:bP w I A (.agg l) (.agg cs):=by
 refine bP.ofNoOwn (.agg fO l cs (by simpa using h.len.symm) h.one fun j d u hd hu=>h.get j d u hd (by simpa using hu))
theorem RC.single {d:DV} {v:Value} (h:RC w I [d] [v]) {A:dD}:bP w I A d v:=by
 cases h with
 |cons h o t=>exact h.ofNoOwn
end
def Dec (P:Program) (t:TypeId) {α:Type} (e:α->List DV) (ok:α->Prop):Prop:=
 ∀(H:Type) (enc:TypeId×Value->H) (w:World) (sp:Nat->Bool) (held:Bool) (fuel:Nat) (cs:List Value) (x:DataW H×List MemPlace),DataW.trod enc P w 0 sp held fuel t cs=some x->(∀n∈x.1.weights P t,n<=reachBytes)->
  ∃a:α,ok a/\RC w (fun g=>g<w.heap.size) (e a) cs
section
variable {P:Program} {t:TypeId}
abbrev eB (b:Bool):List DV:=[vb b]
abbrev eS (s:ByteArray):List DV:=[vs s]
theorem bYh (ht:P.underlying t=some (.int .i64)):Dec P t eI (fun n=> -9223372036854775808<=n/\n<=9223372036854775807):=fun H enc w sp held fuel cs x h hz=>by
 obtain⟨n,rfl,_,hw⟩:=DataW.trod_int ht h;refine⟨n,?_,.cons (.v _ _) rfl .nil⟩;simp[Lit.wf,IntKind.min,IntKind.max,IntKind.signed,IntKind.bits] at hw;omega
theorem bBa (ht:P.underlying t=some .string):Dec P t eS (fun s=>s.size<=140737488355328):=fun H enc w sp held fuel cs x h hz=>by
 obtain⟨s,rfl,rfl,hs⟩:=DataW.trod_string ht h;have:=hz s.data.toList.length (by simp[DataW.weights]);exact⟨s,by
  show s.size<=_;have h2:s.size=s.data.toList.length:=Array.length_toList.symm;rw[h2];unfold reachBytes at this;omega,.cons (.v _ _) rfl .nil⟩
theorem aWt {α β:Type} {f:α->Option β}: ∀{l:List α} {r:List β},l.mapM f=some r->r.length=l.length/\ ∀(j:Nat) (x:α),l[j]?=some x->f x=r[j]?
 | [],r,h=>by
  have:r=[]:=by simpa using h.symm
  subst this;exact⟨rfl,by simp⟩
 |a::l,r,h=>by
  rw[aXi] at h;cases ha:f a with
  |none=>simp[ha] at h
  |some y=>
   cases hl:l.mapM f with
   |none=>simp[ha,hl] at h
   |some ys=>
    simp[ha,hl] at h;subst h;obtain⟨h1,h2⟩:=aWt hl;refine⟨by simp[h1],fun j x hx=>?_⟩;cases j with
    |zero=>simp at hx;subst hx;simpa using ha
    |succ j=>simpa using h2 j x (by simpa using hx)
theorem bKj {w:World} {a:Addr} {v:Value} (h:w.cell? a=some v):a.spot=none/\a.block<w.heap.size:=by
 unfold World.cell? at h;split at h
 ·rename_i c e f hh;refine⟨?_,(aZy.1 hh).1⟩;cases hs:a.spot with
  |none=>rfl
  |some s=>rw[hs] at h;simp at h
 cases h
theorem bKe {w:World} {b:Nat} {a:Addr} {n:Nat} {cs:List Value} (h:w.cells? b a n=some cs):cs.length=n/\ ∀j,j<n->w.cell? (a.add j)=cs[j]?:=by
 unfold World.cells? at h;split at h
 ·obtain⟨h1,h2⟩:=aWt h;refine⟨by simpa using h1,fun j hj=>h2 j j (by simp[hj])⟩
 cases h
theorem zS {H:Type} {P:Program} {e:TypeId}: ∀{l:List (DataW H)} {j:Nat} {d:DataW H},l[j]?=some d-> ∀n∈d.weights P e,n∈DataW.weightsAll P e l
 | [],_,_,h,_,_=>by simp at h
 |d0::l,0,d,h,n,hn=>by
  simp only[List.getElem?_cons_zero,bX] at h;subst h;simp only[DataW.weightsAll,iV];exact .inl hn
 |d0::l,j+1,d,h,n,hn=>by
  simp only[aEd] at h;simp only[DataW.weightsAll,iV];exact .inr (zS h n hn)
theorem mL {el:TypeId} {α:Type} [Inhabited α] {e:α->List DV} {ok:α->Prop} {z:Nat} (ht:P.underlying t=some (.slice el)) (hc:P.cellsOf el=z) (hz:0<z) (hby:0<P.bytesOf el) (hd:Dec P el e ok) (hlen: ∀a,(e a).length=z):
  Dec P t (fun l:List α=>[encL z e l]) (fun l=>(∀a∈l,ok a)/\l.length<=140737488355328):=fun H enc w sp held fuel cs x h hw=>by
 rcases DataW.trod_slice ht h with ⟨rfl,_⟩|⟨a,len,cap,elems,rest,n,rfl,rfl,hx,hb,hl,hm,hle,hel,_,_⟩
 ·exact⟨[],⟨by simp,by simp⟩,.cons aXl rfl .nil⟩
 have hreach:len<=140737488355328:=by
  have h1:=hw (((elems.map (·.1)).length+(rest.map (·.1)).length)*P.bytesOf el) (by rw[hx];simp[DataW.weights,ht]);have h2:(elems.map (·.1)).length=len:=by simpa using hle
  rw[h2] at h1;have h3:len*1<=(len+(rest.map (·.1)).length)*P.bytesOf el:=Nat.mul_le_mul aV hby;unfold reachBytes at h1;omega
 have each: ∀i,∃(p:α×List Value),i<len->ok p.1/\RC w (fun g=>g<w.heap.size) (e p.1) p.2/\p.2.length=z/\ ∀j,j<z->w.cell? ((a.add (i*z)).add j)=p.2[j]?:=fun i=>by
  by_cases hi:i<len
  ·have:=hel i hi;rw[cH aV,Option.bind_eq_some_iff,hc] at this;obtain⟨cs',h1,h2⟩:=this;obtain⟨y,h3,h4⟩:=hd H enc w sp held n cs' _ h2 fun m hm=>hw m (by
    rw[hx];simp only[DataW.weights,ht];refine List.mem_cons_of_mem _ (List.mem_append_left _ (zS (j:=i) (d:=elems[i].1) ?_ m hm));rw[dG,cH aV];rfl)
   obtain⟨h5,h6⟩:=bKe h1;exact⟨(y,cs'),fun _=>⟨h3,h4,h5,h6⟩⟩
  exact⟨(default,[]),fun h=>absurd h hi⟩
 have hch:=Classical.axiomOfChoice each;obtain⟨f,hf⟩:=hch;have hlen':((List.range len).map fun i=>(f i).1).length=len:=by simp
 have hget: ∀i,i<len->((List.range len).map fun i=>(f i).1).getD i default=(f i).1:=fun i hi=>by
  rw[cA,dG,p9 hi];rfl
 refine⟨(List.range len).map fun i=>(f i).1,⟨fun y hy=>?_,by rw[hlen'];exact hreach⟩,.cons ?_ rfl .nil⟩
 ·obtain⟨i,hi,rfl⟩:=dZ.1 hy;exact (hf i (by simpa using hi)).1
 rcases nL len with h0|h0
 ·subst h0;exact aXl
 have hsp:a.spot=none/\a.block<w.heap.size:=by
  obtain⟨_,_,k3,k4⟩:=hf 0 h0;have:=k4 0 hz;rw[cH aV,Nat.zero_mul] at this;exact bKj this
 obtain⟨b,o,s⟩:=a;obtain⟨rfl,hbl⟩:=hsp;show bP _ _ _ (.sl z ((List.range len).map fun i=>(f i).1).length fun i=>e (((List.range len).map fun i=>(f i).1).getD i default)) _;rw[hlen'];refine .sl fO z len _ b o cap (fun i j=>(f i).2.getD j undef) h0 hl hm hbl (fun i _=>hlen _) (fun i j hi hj=>?_) (fun i j hi hj=>?_) fun i j d hi hdd=>?_
 ·obtain⟨_,_,k3,k4⟩:=hf i hi;have:=k4 j hj;rw[Addr.add_lit,Addr.add_lit,yU] at this;rw[this,cA,cH aV];rfl
 ·obtain⟨_,k2,k3,_⟩:=hf i hi;rw[cA,cH aV];exact k2.one _ (xY _)
 obtain⟨_,k2,k3,_⟩:=hf i hi;rw[hget i hi] at hdd;have hj:j<(f i).2.length:=by
  have:=k2.len;have h2:j<(e (f i).1).length:=(oJ.1 hdd).1;omega
 rw[cA,cH hj];exact k2.get j d _ hdd (cH hj)
theorem bY {fs:Array Field} {H:Type} {enc:TypeId×Value->H} {w:World} {sp:Nat->Bool} {held:Bool} {fuel:Nat} {cs:List Value} {x:DataW H×List MemPlace} (ht:P.underlying t=some (.struct fs))
  (h:DataW.trod enc P w 0 sp held fuel t cs=some x) (hw: ∀n∈x.1.weights P t,n<=reachBytes) (i:Nat) {nm:Field} {α:Type} {e:α->List DV} {ok:α->Prop} {s:Nat} (hf:fs[i]?=some nm) (hs:P.cellsOf nm.type=s) (hd:Dec P nm.type e ok):
  ∃a:α,ok a/\RC w (fun g=>g<w.heap.size) (e a) ((cs.drop nm.offset).take s):=by
 obtain⟨xs,n,rfl,hx,h1,h2,h3⟩:=DataW.trod_struct ht h;have:=h3 i nm hf;have hi:i<fs.size:=(aZy.1 hf).1;rw[cH aV,hs] at this;refine hd H enc w sp held n _ _ this fun m hm=>hw m ?_;rw[hx];simp only[DataW.weights,ht];refine DataW.weights_mem_each (j:=i) (t:=nm.type) (d:=xs[i].1) ?_ ?_ m hm
 ·rw[dG,kK,hf];rfl
 rw[dG,cH aV];rfl
theorem aZo {fs:Array Field} {α:Type} {e:α->List DV} {ok:α->Prop} {H:Type} {enc:TypeId×Value->H} {w:World} {r:Reach} {base:Nat} {sp:Nat->Bool} {held:Bool} {v:Value} {d:DataW H} {ps:List MemPlace}
  (ht:P.underlying t=some (.struct fs)) (hd:Dec P t e ok) (hv:Value.okWide P w r base t v) (h:DataW.Trod enc P w 0 sp held t v d ps) (hw: ∀n∈d.weights P t,n<=reachBytes): ∃a:α,ok a/\bP w (fun g=>g<w.heap.size) fO (.agg (e a)) v:=by
 obtain⟨cs,rfl,_⟩:=WideShapes.okWide_struct ht hv;obtain⟨fuel,h⟩:=h;obtain⟨a,h1,h2⟩:=hd H enc w sp held fuel _ _ h hw;exact⟨a,h1,RC.agg h2⟩
theorem cBq {α:Type} {e:α->DV} {ok:α->Prop} {H:Type} {enc:TypeId×Value->H} {w:World} {sp:Nat->Bool} {held:Bool} {v:Value} {d:DataW H} {ps:List MemPlace}
  (hd:Dec P t (fun a=>[e a]) ok) (hv:v.cells= #[v]) (h:DataW.Trod enc P w 0 sp held t v d ps) (hw: ∀n∈d.weights P t,n<=reachBytes): ∃a:α,ok a/\bP w (fun g=>g<w.heap.size) fO (e a) v:=by
 obtain⟨fuel,h⟩:=h;rw[hv] at h;obtain⟨a,h1,h2⟩:=hd H enc w sp held fuel _ _ h hw;exact⟨a,h1,RC.single h2⟩
end
end Go.Sg
namespace Go.Sg
open Go.RowKit
section
variable {P:Program} {t:TypeId} {H:Type} {enc:TypeId×Value->H} {w:World} {r:Reach} {base:Nat} {sp:Nat->Bool} {held:Bool} {v:Value} {d:DataW H} {ps:List MemPlace} {α:Type} {ok:α->Prop}
theorem aGz {e:α->DV} {el:TypeId} (ht:P.underlying t=some (.slice el)) (hd:Dec P t (fun a=>[e a]) ok) (hv:Value.okWide P w r base t v) (h:DataW.Trod enc P w 0 sp held t v d ps) (hw: ∀n∈d.weights P t,n<=reachBytes): ∃a:α,ok a/\bP w (fun g=>g<w.heap.size) fO (e a) v:=by
 obtain⟨a,l,c,rfl⟩:=WideShapes.okWide_slice ht hv;exact cBq hd (by simp[Value.cells]) h hw
end
end Go.Sg
namespace Go.Sg
open Go.RowKit
def aWk {H:Type} (P:Program):Nat->TypeId->DataW H->Option (List Value)
 |0,_,_=>none
 |f+1,t,d=>
  match P.underlying t,d with
  |some (.int k),.lit (.int k' z)=>some [.int k' z]
  |some (.array n e),.agg ds=>if ds.length=n/\P.cellsOf t=n*P.cellsOf e then (ds.mapM (aWk P f e)).map List.flatten else none
  |some (.struct fs),.agg ds=>if ds.length=fs.size/\P.cellsOf t=fs.size/\((List.range fs.size).all fun (i:Nat)=>match (fs[i]?:Option Field) with
    |some fl=>fl.offset==i&&P.cellsOf fl.type==1
    |none=>false)=true then ((List.range fs.size).mapM fun (i:Nat)=>match (fs[i]?:Option Field),(ds[i]?:Option (DataW H)) with
    |some fl,some d=>aWk P f fl.type d
    |_,_=>none).map List.flatten else none
  |_,_=>none
theorem bCo (z:Nat): ∀(n:Nat) (cs:List Value),cs.length=n*z->cs=((List.range n).map fun i=>(cs.drop (i*z)).take z).flatten
 |0,cs,h=>by
  have:cs=[]:=aIq.1 aV;subst this;rfl
 |n+1,cs,h=>by
  have h1:=bCo z n (cs.drop z) (by rw[aMa,h,jV];omega);rw[List.range_succ_eq_map,kH,List.flatten_cons,Nat.zero_mul,iP,List.map_map];have h2:(List.range n).map ((fun i=>(cs.drop (i*z)).take z)∘Nat.succ)=(List.range n).map fun i=>((cs.drop z).drop (i*z)).take z:=by
   refine zP fun i _=>?_;simp only[Function.comp,xW,jV];rw[Nat.add_comm z]
  rw[h2,<- h1,u6]
theorem bHm {α:Type} {n:Nat} {g:Nat->α} {us:List α} (hl:us.length=n) (h: ∀i,i<n->us[i]?=some (g i)):(List.range n).map g=us:=by
 apply List.ext_getElem?;intro i;by_cases hi:i<n
 ·rw[h i hi];simp[hi]
 rw[fN (by simp;omega),fN aV]
theorem aMc {H:Type} {enc:TypeId×Value->H} {P:Program} {w:World} {base:Nat} {sp:Nat->Bool} {held:Bool}: ∀(f:Nat) (t:TypeId) (d:DataW H) (us:List Value),aWk P f t d=some us->
  ∀(fuel:Nat) (cs:List Value) (p:List MemPlace),DataW.trod enc P w base sp held fuel t cs=some (d,p)->cs=us
 |0,_,_,_,h=>by cases h
 |f+1,t,d,us,h=>by
  intro fuel cs p ht;unfold aWk at h;split at h
  ·rename_i k k' z hu;cases h;obtain⟨z',hc,hx,_⟩:=DataW.trod_int hu ht;cases hx;exact hc
  ·rename_i n e ds hu;split at h
   ·rename_i hc;obtain⟨h1,h2⟩:=hc;obtain⟨uss,hm,rfl⟩:=gC.1 h;cases fuel with
    |zero=>simp[DataW.trod] at ht
    |succ fuel=>
     simp only[DataW.trod,hu] at ht;split at ht
     ·rename_i hl;obtain⟨xs,hm2,hx⟩:=gC.1 ht;have hxs:xs.map (·.1)=ds:=by
       have:=congrArg Prod.fst hx;simpa using this
      have hlen:cs.length=n*P.cellsOf e:=by omega
      rw[bCo (P.cellsOf e) n cs hlen];congr 1;have hul:uss.length=n:=by rw[Lib.mapM_length hm,h1]
      refine bHm hul fun i hi=>?_;obtain⟨b,hb,hf⟩:=Lib.mapM_at hm2 i i (by simp[hi]);have hd:ds[i]?=some b.1:=by rw[<- hxs,dG,hb];rfl
      obtain⟨u,hu1,hu2⟩:=Lib.mapM_at hm i _ hd;rw[hu1,aMc f e b.1 u hu2 _ _ b.2 hf]
     cases ht
   cases h
  ·rename_i fs ds hu;split at h
   ·rename_i hc;obtain⟨h1,h2,h3⟩:=hc;obtain⟨uss,hm,rfl⟩:=gC.1 h;obtain⟨xs,n,rfl,hx,k1,k2,k3⟩:=DataW.trod_struct hu ht;have hxs:ds=xs.map (·.1):=by
     have:=congrArg Prod.fst hx;simpa using this
    rw[bCo 1 fs.size cs aV];congr 1;have hul:uss.length=fs.size:=by rw[Lib.mapM_length hm];simp
    refine bHm hul fun i hi=>?_;obtain⟨u,hu1,hu2⟩:=Lib.mapM_at hm i i (by simp[hi]);rw[dI] at h3;have h4:=h3 i (gU.2 hi);have hfi:fs[i]?=some fs[i]:=iY hi;simp only[hfi,cD,mV] at h4;have h5:=k3 i fs[i] hfi;rw[h4.1,h4.2] at h5;have hxi:xs[i]?=some (xs[i]'(by omega)):=cH aV;have hdi:ds[i]?=some (xs[i]'(by omega)).1:=by rw[hxs,dG,hxi];rfl
    simp only[hfi,hdi] at hu2;rw[hxi] at h5;rw[hu1,Nat.mul_one,aMc f _ _ u hu2 _ _ _ h5]
   cases h
  cases h
theorem qS {P:Program} {w:World} {n:String} {d:DataW Unit} {us:List Value} {g:Nat} (f:Nat) {t:TypeId}: ∀{l:List (String×DataW Unit)} {ps:List MemPlace},DataW.LaidVars P w l ps->(n,d)∈l->P.globalNamed n=some g->(P.globals[g]?).map (·.type)=some t->
  aWk P f t d=some us->w.ShapedOpen P->(((begin P (fun _ _=>0) default).world.heap[g]?).bind Obj.row?).map (·.2)=some t->w.heap[g]?=some (.cells us.toArray t (0,0))
 | [],_,_,hm,_,_,_,_,_=>by cases hm
 |(n',d')::r,ps,hL,hm,hg,hty,hlf,hsh,hz=>by
  obtain⟨g',t',cs,fuel,p,q,k1,k2,k3,k4,k5,_⟩:=hL;rcases gN.1 hm with e|hm
  ·cases e;obtain rfl:=dO (hg.symm.trans k1);obtain rfl:=dO (hty.symm.trans k2);have hcs:=aMc f t d us hlf _ _ _ k4;have hgl:g<P.globals.size:=by
    rcases b9 g P.globals.size with h|h
    ·exact h
    rw[aJt h] at hty;cases hty
   obtain⟨⟨z,t2⟩,hz1,hz2⟩:=gC.1 hz;cases hz2;obtain⟨cs',e1,_⟩:=hsh.1 g z _ hgl hz1;unfold World.var? at k3;rw[hg] at k3;simp only[Option.bind_some,e1,bX] at k3;subst k3;rw[e1,<- hcs]
  exact qS f k5 hm hg hty hlf hsh hz
end Go.Sg
attribute [push_cast] decide_eq_true_eq decide_eq_false_iff_not Bool.not_eq_true' Bool.not_eq_false' beq_iff_eq bne_iff_ne beq_eq_false_iff_ne bne_eq_false_iff_eq Bool.not_eq_true Bool.not_eq_false Int.not_lt Int.not_le Nat.not_lt Nat.not_le ne_eq Int.ofNat_inj Bool.and_eq_true Bool.or_eq_true Bool.and_eq_false_iff Bool.or_eq_false_iff Bool.not_eq_eq_eq_not Bool.not_true Bool.not_false
namespace Go.Sg
theorem kN {p:Prop} (h:p:=by first|omega|assumption|(simp only[fP,qH,aPq];omega)|(intros;first|omega|assumption|(simp_all;done)|grind)):p:=h
theorem bD {p:Prop} (h:p:=by first|assumption|omega|(simp only[fP,qH,aPq] at*;omega)|(simp_all;done)):p:=h
theorem cFo {P:Program} {nt id:Nat} {d:Bool} {l l':List Oper} {Q:Exit->aN->Prop} {ρ:aN} (hl:l=l') (h:AW P nt (.region id l'.toArray d) Q ρ):AW P nt (.region id l.toArray d) Q ρ:=hl▸h
end Go.Sg
namespace Go.Sg
open Go.RowKit
open Go.Rv (FR)
def pur (fl:List Nat) (i:Nat) (o:Oper):Bool:=(iJ o.op&&o.dst.isSome)&& !fl.contains i
theorem aOk {fl:List Nat} {i:Nat} {o:Oper} (h:pur fl i o=true):iJ o.op=true/\o.dst.isSome=true:=by
 unfold pur at h;simp only[cD] at h;exact h.1
section
variable {P:Program} {nt:Nat} {ρ:aN} {ops:Array Oper}
theorem bEb {o:Oper} {K:aN->Prop} {t:TypeId} {n:Nat} {parts:Array (Nat×Operand)} {d:Nat} {e:TypeId} {z by_:Nat} {zs:List Value} (hop:o.op=.buildSlice t n parts) (hg:o.guard=none) (hdst:o.dst=some d) (hd:d<nt)
  (ho:eJ nt o=true) (hs:nE P t=some (e,z,by_)) (hz:eW P e=some zs) (hz0:0<z) (hn0:0<n) (hn:n*z<=16777216) (hl:parts.toList.length=n) (hp:aJf ρ z 0 parts.toList)
  (hK:K (set (d4 d ρ) d (.row e z (bsL ρ parts.toList)))):OW P nt ops o K ρ:=by
 obtain⟨hu,i,hi,rfl,rfl⟩:=lC hs;obtain⟨i',zv,hi',hzv,rfl,_⟩:=lQ hz;rw[hi] at hi';cases hi';refine iF hg fun I A a w hsim=>?_
 have hpart: ∀(j:Nat) (p:Nat×Operand),parts.toList[j]?=some p->p.1=j/\(a.eval p.2).cells.size=i.size/\(∀u∈(a.eval p.2).cells.toList,u.oneCell'=true)/\
   ∀(r:Nat) (x:DV) (u:Value),(cW (un (ev ρ p.2)))[r]?=some x->(a.eval p.2).cells[r]?=some u->bP w I fO x u:=fun j p hj=>by
  obtain⟨h1,h2,h3,h4⟩:=tF hp j p hj;have hx:=hsim.opd p.2 (bM ho (by
   simp only[hop,Op.operands];simp;exact⟨p.1,by have:=pP hj;simpa using this⟩)) h2
  obtain⟨k1,k2,k3⟩:=tJ hx (.inl aV);exact⟨by omega,by omega,k2,fun r x u hx hu=>(k3 r x u hx hu).pure (gZ h4 hx)⟩
 let vparts:List (Nat×Value):=parts.toList.map fun p=>(p.1,a.eval p.2)
 have hv: ∀(j k:Nat) (v:Value),vparts[j]?=some (k,v)-> ∃p,parts.toList[j]?=some p/\p.1=k/\a.eval p.2=v:=fun j k v h=>by
  simp only[vparts,dG,gC] at h;obtain⟨p,hp,he⟩:=h;simp at he;exact⟨p,hp,he.1,he.2⟩
 obtain⟨zero,hzero⟩: ∃zero:Array Value,zero=(Array.range (n*i.size)).map (zv.cells[· %zv.cells.size]!):=⟨_,rfl⟩;have hzsz:zero.size=n*i.size:=by simp[hzero]
 obtain⟨out,o1,o2,o3⟩:=aAh (fun k=>some (k*i.size,i.size)) vparts zero (fun j k v h=>by
  obtain⟨p,hpj,rfl,rfl⟩:=hv j k v h;obtain⟨h1,h2,_⟩:=hpart j p hpj;have hjn:j<n:=by
   rw[<- hl];rcases b9 j parts.toList.length with h|h
   ·exact h
   rw[fN h] at hpj;cases hpj
  refine⟨p.1*i.size,by rw[h2],?_⟩;rw[hzsz,h2,h1];have:(j+1)*i.size<=n*i.size:=gF _ hjn;rw[jV] at this;exact this)
 rw[hzsz] at o2;have hout: ∀(j:Nat) (p:Nat×Operand) (r:Nat),parts.toList[j]?=some p->r<i.size->out[j*i.size+r]?=(a.eval p.2).cells[r]?:=fun j p r hj hr=>by
  obtain⟨h1,h2,_⟩:=hpart j p hj;have hvj:vparts[j]?=some (p.1,a.eval p.2):=by simp only[vparts,dG,hj];rfl
  rcases o3 (j*i.size+r) with ⟨j',k,v,off,k1,k2,k3,k4,k5⟩|⟨k1,_⟩
  ·obtain⟨p',hp',rfl,rfl⟩:=hv j' k v k1;obtain⟨h1',h2',_⟩:=hpart j' p' hp';simp only[bX,cF] at k2;obtain⟨rfl,_⟩:=k2;have e1:=qQ (z:=i.size) (i:=p'.1) hz0 k3 aV;have e2:=qQ (z:=i.size) (i:=j) (q:=j*i.size+r) hz0 aV aV;have:j'=j:=by omega
   subst this;rw[hj] at hp';cases hp';rw[k5,h1];congr 1;omega
  exact absurd ⟨by rw[h1];omega,by rw[h1,h2];omega⟩ (k1 j p.1 _ (p.1*i.size) hvj (by rw[h2]))
 have hgetp: ∀m,m<n-> ∃p,parts.toList[m]?=some p/\(bsL ρ parts.toList)[m]?=some (cW (un (ev ρ p.2))):=fun m hm=>by
  have h1:parts.toList[m]?=some (parts.toList[m]'(by omega)):=cH aV;exact⟨_,h1,by simp only[bsL,dG,h1];rfl⟩
 have hbl:(bsL ρ parts.toList).length=n:=by simp only[bsL,cJ];exact hl
 obtain⟨A',k1,k2⟩:=hsim.newRow hd (e:=e) (z:=i.size) (c:=n) (xs:=bsL ρ parts.toList) (us:=out) o2 (by
   unfold maxLen;have:n*1<=n*i.size:=Nat.mul_le_mul_left _ hz0;omega) (by rw[hbl];exact bW _) (fun m x hx=>by
  have hm:m<n:=by
   rw[<- hbl];rcases b9 m (bsL ρ parts.toList).length with h|h
   ·exact h
   rw[fN h] at hx;cases hx
  obtain⟨p,hp1,hp2⟩:=hgetp m hm;rw[hp2] at hx;cases hx;obtain⟨_,h2,h3,h4⟩:=hpart m p hp1;refine⟨(tF hp m p hp1).2.2.1,fun r dv u hdv hu=>?_⟩;have hr:r<i.size:=by
   rw[<- (tF hp m p hp1).2.2.1];rcases b9 r (cW (un (ev ρ p.2))).length with h|h
   ·exact h
   rw[fN h] at hdv;cases hdv
  rw[hout m p r hp1 hr] at hu;exact⟨h3 u (by simpa using tQ hu),h4 r dv u hdv hu⟩)
 refine⟨.slice (some ⟨w.heap.size,0,none⟩) n n,_,I,A',_,?_,?_,k2,hK⟩
 ·have hne:n*i.size≠0:=by
   have:=Nat.mul_pos hn0 hz0;omega
  have hmap:(parts.map fun p=>(p.1,a.eval p.2)).toList=vparts:=by simp[vparts]
  have h24: ¬(n*i.size>2^24):=by
   have:(2:Nat)^24=16777216:=by decide
   omega
  simp only[execOp,hop,Instr.buildSlice,Sem.run_bind,run_underlying hu,Result.andThen_ok,run_sizeOf w hi,Program.cellsOf,hi,gG,iE,h24,s7,hne,zeroValue,run_typeInfo w hi,hzv,Sem.run_pure,Sem.run_ite];simp only[hmap];rw[<- hzero,o1];simp[newRow]
 rw[hdst];rw[hbl] at k1;exact k1
def cCz (P:Program) (ρ:aN) (d:Nat) (sl:Option (TypeId×Nat×Nat)) (n:Nat) (parts:List (Nat×Operand)) (K:aN->Prop):Prop:=
 match sl with
 |some (e,z,_)=>(eW P e).isSome=true/\0<z/\0<n/\n*z<=16777216/\parts.length=n/\aJf ρ z 0 parts/\K (set (d4 d ρ) d (.row e z (bsL ρ parts)))
 |none=>False
def aRy (z:Nat) (xs:List (List DV)) (k:DV->Prop) (_:Tg k):Prop:= ∃v,eK (frz z xs) v/\lG v=true/\k v
def aFv (d:Nat) (K:aN->Prop) (ρ:aN):Prop:=
 match ρ d with
 | .row _ z xs=>aRy z xs (fun v=>K (set (d4 d ρ) d v)) ⟨⟩
 |_=>False
theorem bLi {o:Oper} {d:Nat} {K:aN->Prop} (hd:d<100000) (h:OW P nt ops o (aFv d K) ρ):OW P nt ops o K ρ:=by
 intro ro ds I A a w hs hdf next Q' hn
 refine h ro ds I A a w hs hdf next Q' fun I' A' a' w' ρ' q1 q2 q3 q4=>?_
 unfold aFv at q4;split at q4
 ·rename_i e z xs hrow;obtain⟨v,hv,hp,hK⟩:=q4;obtain⟨I2,A2,r1,r2⟩:=q1.frz hd hrow;refine hn I2 A2 a' w' _ ?_ q2 (q3.trans r2) hK;refine⟨⟨fun t=>?_,r1.osim.inj,r1.osim.sep,r1.osim.imm⟩,r1.size,r1.bound,fun i hi=>?_,fun t ht=>?_⟩
  ·have:=r1.osim.own t;simp only[aK] at this ⊢;split
   ·exact fW.ofPure (by cases v<;>first|rfl|cases hp)
   rename_i e1;rw[if_neg e1] at this;exact this
  ·have:=r1.slot i hi;simp only[aK] at this ⊢;split
   ·rename_i e1;rw[if_pos e1] at this;exact .ofRel (hv _ _ _ _ (this.rel rfl))
   rename_i e1;rw[if_neg e1] at this;exact this
  have:=r1.out t ht;simp only[aK] at this ⊢;rw[if_neg aV] at this ⊢;exact this
 exact q4.elim
def aLg (P:Program) (ρ:aN) (op:Op) (dst:Option Nat) (K:aN->Prop):Prop:=
 match op,dst with
 | .buildSlice t (n+1) parts,some d=>cCz P ρ d (nE P t) (n+1) parts.toList K
 | .call ⟨.builtin .append,args,ts⟩,some d=>jO P ρ (.call ⟨.builtin .append,args,ts⟩) (some d) (aFv d K)
 |op,dst=>jO P ρ op dst K
theorem bEa (hnt:nt<=100000) {o:Oper} {K:aN->Prop} (hg:o.guard=none) (ho:eJ nt o=true) (hd:jH nt o=true) (h:aLg P ρ o.op o.dst K):OW P nt ops o K ρ:=by
 unfold aLg at h;split at h
 ·rename_i t n parts d hop hdst;unfold cCz at h;split at h
  ·rename_i e z by_ hs;obtain⟨q1,q2,q3,q4,q5,q6,q7⟩:=h;obtain⟨zs,hz⟩:=nQ.1 q1;have hdn:d<nt:=by unfold jH at hd;rw[hdst] at hd;simpa using hd
   exact bEb hop hg hdst hdn ho hs hz q2 q3 q4 q5 q6 q7
  exact h.elim
 ·rename_i args ts d hop hdst;have hdn:d<nt:=by unfold jH at hd;rw[hdst] at hd;simpa using hd
  refine bLi (d:=d) aV (bV hg ho hd ?_);rw[hop,hdst];exact h
 exact bV hg ho hd h
def sEF (P:Program) (nt:Nat) (fl:List Nat) (l:List Oper) (i:Nat) (K:aN->Prop) (ρ:aN):Prop:=
 match l[i]? with
 |none=>K ρ
 |some o=>if pur fl i o then ∃d,uY P l ρ o d/\K (cO ρ o.dst d) else OW P nt l.toArray o K ρ
theorem bUj {fl:List Nat} {l:List Oper} {i:Nat} {K K':aN->Prop} (h: ∀ρ,K ρ->K' ρ) (hh:sEF P nt fl l i K ρ):sEF P nt fl l i K' ρ:=by
 unfold sEF at*;split
 ·rename_i hi;rw[hi] at hh;exact h _ hh
 rename_i o hi;rw[hi] at hh;simp only at hh;split
 ·rename_i hp;rw[if_pos hp] at hh;obtain⟨d,h1,h2⟩:=hh;exact⟨d,h1,h _ h2⟩
 rename_i hp;rw[if_neg hp] at hh;exact hh.mono h
def aLf (P:Program) (nt:Nat) (fl:List Nat) (l:List Oper) (k:aN->Prop):Nat->Array Bool->aN->Prop
 |0,listed,ρ=>Region.ready .any l.toArray listed=[]/\k ρ
 |fuel+1,listed,ρ=>(Region.ready .any l.toArray listed=[]->k ρ)/\ ∀i∈Region.ready .any l.toArray listed,sEF P nt fl l i (aLf P nt fl l k fuel (listed.setIfInBounds i true)) ρ
theorem aLp {ro:Option Nat} {ds:List Deferred} {fl:List Nat} {l:List Oper} {k:aN->Prop} {Q':Exit->Act->World->Prop} (hr:sK nt l=true): ∀(fuel:Nat) (listed:Array Bool) (ρ:aN) (I:Nat->Prop) (A:dD) (a:Act) (w:World),
  aLf P nt fl l k fuel listed ρ->dB nt w I A ρ a->a.defers=ds->
  (∀I' A' a' w' ρ',dB nt w' I' A' ρ' a'->a'.defers=ds->f8 w I A w' I' A'->k ρ'->Q' .normal a' w')->wpAnyIn (FR ro) 0 P .any l.toArray Q' fuel listed a w
 |0,listed,ρ,I,A,a,w,h,hs,hd,hk=>⟨h.1,hk I A a w ρ hs hd (f8.refl _ _ _) h.2⟩
 |fuel+1,listed,ρ,I,A,a,w,h,hs,hd,hk=>by
  refine⟨fun h0=>hk I A a w ρ hs hd (f8.refl _ _ _) (h.1 h0),fun i hi=>?_⟩;have h2:=h.2 i hi;have rec_: ∀I' A' a' w' ρ',dB nt w' I' A' ρ' a'->a'.defers=ds->f8 w I A w' I' A'->aLf P nt fl l k fuel (listed.setIfInBounds i true) ρ'->wpAnyIn (FR ro) 0 P .any l.toArray Q' fuel (listed.setIfInBounds i true) a' w':=
   fun I' A' a' w' ρ' q1 q2 q3 q4=>aLp hr fuel _ ρ' I' A' a' w' q4 q1 q2 fun I2 A2 a2 w2 ρ2 k1 k2 k3 k4=>hk I2 A2 a2 w2 ρ2 k1 k2 (q3.trans k3) k4
  unfold wpOpIn;unfold sEF at h2;simp only[xR];split
  ·rename_i ho;rw[ho] at h2;exact rec_ I A a w ρ hs hd (f8.refl _ _ _) h2
  rename_i o ho;rw[ho] at h2;have hOW:OW P nt l.toArray o (aLf P nt fl l k fuel (listed.setIfInBounds i true)) ρ:=by
   simp only at h2;split at h2
   ·rename_i hp;obtain⟨d,k1,k2⟩:=h2;exact wL (qL hr) (mQ hr ho).1 (mQ hr ho).2 (aOk hp).2 k1 k2
   exact h2
  have:=hOW ro ds I A a w hs hd (wpAnyIn (FR ro) 0 P .any l.toArray Q' fuel (listed.setIfInBounds i true)) Q' rec_;split at this
  ·rename_i hw;rw[if_pos hw];exact this
  rename_i hw;rw[if_neg hw];exact this
theorem cBl {fl:List Nat} {l:List Oper} {j:Nat} {oi oj:Oper} {d:DV} (hj:l[j]?=some oj) (hpj:(pur fl j oj)=true) {ki:Nat} (hki:oi.dst=some ki) (hap:oi.apart l.toArray oj=true) {K:aN->Prop}
  (hy:uY P l ρ oi d) (h:sEF P nt fl l j K (cO ρ oi.dst d)):sEF P nt fl l j (fun ρ'=>uY P l ρ' oi d/\K (cO ρ' oi.dst d)) ρ:=by
 obtain⟨h1,h2,h3⟩:=Oper.apart_spec hap;unfold sEF at h ⊢;rw[hj] at h ⊢;simp only[hpj,if_true] at h ⊢;obtain⟨u,k1,k2⟩:=h;obtain⟨kj,hkj⟩:=nQ.1 (aOk hpj).2;have hne:kj≠ki:=fun e=>h2 ki hki (by rw[hkj,e]);have hdi:cK d=false:=hy.1;have hui:cK u=false:=k1.1;have hρi:cK (ρ ki)=false:=hy.2.1 ki hki;have hρj:cK (ρ kj)=false:=by
  have:=k1.2.1 kj hkj;rw[hki,dE,aK,if_neg hne] at this;exact this
 refine⟨u,?_,?_,?_⟩
 ·have:=aEj (ρ:=cO ρ oi.dst d) (k:=ki) (u:=ρ ki) hρi (by rw[hki,dE,aK,if_pos rfl];exact hdi) (h1 ki hki) (fun e=>hne (by rw[hkj] at e;cases e;rfl)) k1;rw[hki,dE,aMh] at this;exact this
 ·rw[hkj,dE];exact aEj hui hρj (h3 kj hkj) (fun e=>hne (by rw[hki] at e;cases e;rfl)) hy
 rw[hki,hkj] at k2;rw[hki,hkj];have:cO (cO ρ (some kj) u) (some ki) d=cO (cO ρ (some ki) d) (some kj) u:=by
  funext i;simp only[dE,aK];by_cases e1:i=ki
  ·rw[if_pos e1,if_neg (by rw[e1];exact fun e=>hne e.symm),if_pos e1]
  simp only[if_neg e1]
 rw[this];exact k2
def aFl (l:List Oper) (i:Nat):List Nat:=
 (List.range l.length).foldl (fun acc j=>match l[j]? with
  |some o=>if o.after.any (fun e=>Region.binds .any e&&(e.on==i||acc.contains e.on)) then j::acc else acc
  |none=>acc) []
def bDh (fl:List Nat) (l:List Oper) (listed:Array Bool) (i:Nat):Bool:=
 match l[i]? with
 |none=>false
 |some oi=>(pur fl i oi&&(aFl l i).all fun j=> !listed.getD j true&&match l[j]? with
   |some o=>o.after.any (fun e=>Region.binds .any e&&(e.on==i||(aFl l i).contains e.on))
   |none=>false)&&(List.range l.length).all fun j=>
  j==i||listed.getD j true||(aFl l i).contains j||match l[j]? with
   |none=>true
   |some oj=>pur fl j oj&&oi.apart l.toArray oj
theorem aWn {fl:List Nat} {l:List Oper} {k:aN->Prop} {i:Nat} {oi:Oper} {d:DV} (hi:l[i]?=some oi) (hpi:(pur fl i oi)=true) (D:Nat->Prop)
  (hD: ∀j oj,D j->l[j]?=some oj-> ∃e∈oj.after,Region.binds .any e=true/\(e.on=i\/D e.on)):
  ∀(fuel:Nat) (listed:Array Bool) (ρ:aN),(∀j,D j->listed.getD j true=false)->
   (∀j oj,l[j]?=some oj->j≠i->listed.getD j true=false-> ¬D j->(pur fl j oj)=true/\oi.apart l.toArray oj=true)->
   i∈Region.ready .any l.toArray listed->uY P l ρ oi d->aLf P nt fl l k fuel (listed.setIfInBounds i true) (cO ρ oi.dst d)->aLf P nt fl l k (fuel+1) listed ρ:=by
 obtain⟨ki,hki⟩:=nQ.1 (aOk hpi).2;have take: ∀{K:aN->Prop} {ρ:aN},uY P l ρ oi d->K (cO ρ oi.dst d)->sEF P nt fl l i K ρ:=fun h1 h2=>by
  unfold sEF;rw[hi];simp only[hpi,if_true];exact⟨d,h1,h2⟩
 intro fuel
 induction fuel with
 |zero=>
  intro listed ρ _ _ hr hy H;refine⟨fun h=>(by rw[h] at hr;cases hr),fun j hj=>?_⟩;by_cases hji:j=i
  ·subst hji;exact take hy H
  have:=ready_mono hj hji;rw[H.1] at this;cases this
 |succ fuel ih=>
  intro listed ρ hun0 hfree hr hy H;refine⟨fun h=>(by rw[h] at hr;cases hr),fun j hj=>?_⟩;by_cases hji:j=i
  ·subst hji;exact take hy H
  have h1:=H.2 j (ready_mono hj hji);obtain⟨hjun,oj,hoj,hall⟩:=mem_ready.1 hj;have hoj':l[j]?=some oj:=by simpa using hoj
  have hne: ∀m,listed.getD m true=false-> ∀e∈oj.after,Region.binds .any e=true->e.on≠m:=fun m h0 e he hb heq=>by
   have h1:=hall e he hb;rw[heq] at h1;rcases b9 m listed.size with h'|h'
   ·simp[h'] at h0 h1;rw[h0] at h1;cases h1
   simp[aJt h'] at h1
  have hnot: ¬D j:=fun hDj=>by
   obtain⟨e,he,hb,hon|hon⟩:=hD j oj hDj hoj'
   ·exact hne i (mem_ready.1 hr).1 e he hb hon
   exact hne e.on (hun0 _ hon) e he hb rfl
  obtain⟨hpj,hap⟩:=hfree j oj hoj' hji hjun hnot;have h2:=cBl hoj' hpj hki hap hy h1;have hset: ∀m,j≠m->(listed.setIfInBounds j true).getD m true=listed.getD m true:=fun m h=>getD_set_ne true h;have hun': ∀m,D m->(listed.setIfInBounds j true).getD m true=false:=fun m hm=>by
   rw[hset m (fun e=>hnot (e▸hm))];exact hun0 m hm
  have hfree': ∀m om,l[m]?=some om->m≠i->(listed.setIfInBounds j true).getD m true=false-> ¬D m->(pur fl m om)=true/\oi.apart l.toArray om=true:=fun m om hm hmi hun hno=>by
   refine hfree m om hm hmi ?_ hno;by_cases hjm:j=m
   ·subst hjm;exact hjun
   rw[hset m hjm] at hun;exact hun
  refine bUj (fun ρ' h3=>ih (listed.setIfInBounds j true) ρ' hun' hfree' (ready_mono hr (fC hji)) h3.1 ?_) h2;rw[bPk _ _ hji];exact h3.2
theorem aYz {fl:List Nat} {l:List Oper} {listed:Array Bool} {i:Nat} {oi:Oper} (hi:l[i]?=some oi) (h:bDh fl l listed i=true):(pur fl i oi)=true/\
  (∀j oj,j∈aFl l i->l[j]?=some oj-> ∃e∈oj.after,Region.binds .any e=true/\(e.on=i\/e.on∈aFl l i))/\(∀j,j∈aFl l i->listed.getD j true=false)/\
  ∀j oj,l[j]?=some oj->j≠i->listed.getD j true=false-> ¬j∈aFl l i->(pur fl j oj)=true/\oi.apart l.toArray oj=true:=by
 unfold bDh at h;rw[hi] at h;generalize aFl l i=D at h ⊢;simp only[cD] at h;obtain⟨⟨h1,h2⟩,h3⟩:=h;rw[dI] at h2 h3;refine⟨h1,fun j oj hj hoj=>?_,fun j hj=>?_,fun j oj hj hne hun hno=>?_⟩
 ·have:=h2 j hj;rw[hoj] at this;simp only[cD,Array.any_eq_true',pQ,mV] at this;obtain⟨_,e,he,hb,hon⟩:=this;exact⟨e,he,hb,hon.imp id fun h=>by simpa using h⟩
 ·have:=h2 j hj;simp only[cD,mH] at this;exact this.1
 have hlt:j<l.length:=by
  rcases b9 j l.length with h|h
  ·exact h
  rw[fN h] at hj;cases hj
 have:=h3 j (by simpa using hlt);rw[hj] at this;simp only[pQ,cD,mV] at this;rcases this with ((h|h)|h)|h
 ·exact absurd h hne
 ·rw[hun] at h;cases h
 ·exact absurd (by simpa using h) hno
 exact h
def aQq (fl:List Nat) (l:List Oper):List Nat->Array Bool->Bool
 | [],listed=>(Region.ready .any l.toArray listed).isEmpty
 |i::r,listed=>((Region.ready .any l.toArray listed).contains i&&bDh fl l listed i||Region.ready .any l.toArray listed==[i])&&aQq fl l r (listed.setIfInBounds i true)
def aLw (P:Program) (nt:Nat) (fl:List Nat) (l:List Oper) (k:aN->Prop):List Nat->aN->Prop
 | [],ρ=>k ρ
 |i::r,ρ=>match l[i]? with
  |none=>False
  |some o=>if pur fl i o then ∃d,uY P l ρ o d/\aLw P nt fl l k r (cO ρ o.dst d) else OW P nt l.toArray o (aLw P nt fl l k r) ρ
theorem aAi {fl:List Nat} {l:List Oper} {k:aN->Prop}: ∀(r:List Nat) (listed:Array Bool) (ρ:aN),aQq fl l r listed=true->aLw P nt fl l k r ρ->aLf P nt fl l k r.length listed ρ
 | [],_,_,hB,h=>⟨by simpa[aQq] using hB,h⟩
 |i::r,listed,ρ,hB,h=>by
  simp only[aQq,cD,pQ] at hB;obtain⟨hB1,hB2⟩:=hB;unfold aLw at h;split at h
  ·exact h.elim
  rename_i o h0;rcases hB1 with ⟨hr,hf⟩|hone
  ·obtain⟨hp,hD,hun,hfree⟩:=aYz h0 hf;rw[if_pos hp] at h;obtain⟨d,k1,k2⟩:=h;exact aWn h0 hp (fun j=>j∈aFl l i) hD r.length listed ρ hun hfree (by simpa using hr) k1 (aAi r _ _ hB2 k2)
  have hone:Region.ready .any l.toArray listed=[i]:=by simpa using hone
  refine⟨fun h=>(by rw[hone] at h;cases h),fun j hj=>?_⟩;rw[hone] at hj;obtain rfl:j=i:=by simpa using hj
  unfold sEF;rw[h0];simp only;split
  ·rename_i hp;rw[if_pos hp] at h;obtain⟨d,k1,k2⟩:=h;exact⟨d,k1,aAi r _ _ hB2 k2⟩
  rename_i hp;rw[if_neg hp] at h;exact h.mono fun ρ' h'=>aAi r _ _ hB2 h'
theorem bTd {fl r:List Nat} {id:Nat} {l:List Oper} {Q:Exit->aN->Prop} (hm:P.follows .mixedOrders=true) (hr:sK nt l=true) (hl:r.length=l.length) (hB:aQq fl l r (Array.replicate l.length false)=true)
  (h:aLw P nt fl l (Q .normal) r ρ):AW P nt (.region id l.toArray true) Q ρ:=by
 intro ro ds I A a w hs hd;refine wpIn_region_any hm ?_;have h1:=aAi (P:=P) (nt:=nt) r (Array.replicate l.length false) ρ hB h;rw[hl] at h1;have hgr:oT w I w.drew I:=⟨rfl,⟨rfl,xJ _⟩,rfl,bW _,fun _ _=>rfl,fun _ h=>h,fun _ h=>.inl h⟩
 have:=aLp (ro:=ro) (Q':=fun e a' w'=> ∃I' A' ρ',dB nt w' I' A' ρ' a'/\a'.defers=ds/\f8 w I A w' I' A'/\Q e ρ') hr _ _ ρ I A a w.drew h1 (hs.grow hgr) hd
  fun I' A' a' w' ρ' q1 q2 q3 q4=>⟨I',A',ρ',q1,q2,(hgr.ext hs.osim).trans q3,q4⟩
 simpa using this
def opI (P:Program) (all:List Oper) (o:Oper) (f:Bool) (K:aN->Prop) (ρ:aN):Prop:=
 match o.guard with
 |none=>(match f,iJ o.op&&o.dst.isSome with
  |true,_=>aLg P ρ o.op o.dst K
  |false,true=>prG P ρ o.op o.dst K
  |false,false=>jO P ρ o.op o.dst K)
 |some (j,want)=>(match f with
  |true=>False
  |false=>gdG P ρ o.op o.dst (gAt all ρ j want) K)
def bNs (P:Program) (all:List Oper) (k:aN->Prop):List (Oper×Bool)->aN->Prop
 | [],ρ=>k ρ
 |p::r,ρ=>opI P all p.1 p.2 (bNs P all k r) ρ
def pwI (P:Program) (all:List Oper) (k:aN->Prop) (l:List (Oper×Bool)) (_:Tg (all,k,l)) (ρ:aN):Prop:=bNs P all k l ρ
def uH (fl:List Nat) (l:List Oper):List Nat->Option (List (Oper×Bool))
 | []=>some []
 |i::r=>match l[i]?,uH fl l r with
  |some o,some q=>(match fl.contains i with
   |true=>some ((o,true)::q)
   |false=>some ((o,false)::q))
  |_,_=>none
theorem aTo {fl:List Nat} {l:List Oper} {i:Nat} {r:List Nat} {x:List (Oper×Bool)} (h:uH fl l (i::r)=some x): ∃o q,l[i]?=some o/\uH fl l r=some q/\x=(o,fl.contains i)::q:=by
 unfold uH at h;split at h
 ·rename_i o q h1 h2;split at h
  ·rename_i hc;exact⟨o,q,h1,h2,by rw[hc];exact (dO h).symm⟩
  rename_i hc;exact⟨o,q,h1,h2,by rw[hc];exact (dO h).symm⟩
 cases h
theorem aZe (hnt:nt<=100000) {fl:List Nat} {all:List Oper} {k:aN->Prop} (hr:sK nt all=true) (hgo:all.all gOk=true): ∀(r:List Nat) (l:List (Oper×Bool)) (ρ:aN),uH fl all r=some l->bNs P all k l ρ->aLw P nt fl all k r ρ
 | [],l,ρ,hl,h=>by
  simp[uH] at hl;subst hl;exact h
 |i::r,l,ρ,hl,h=>by
  obtain⟨o,q,hi,hq,rfl⟩:=aTo hl;have hrec:=fun ρ'=>aZe (k:=k) hnt hr hgo r q ρ' hq;obtain⟨h1,h2⟩:=mQ hr hi;unfold aLw;rw[hi];simp only;unfold bNs opI at h;simp only at h;split at h
  ·rename_i hg;split at h
   ·rename_i hf;rw[if_neg (by unfold pur;rw[hf];simp)];exact (bEa hnt hg h1 h2 h).mono hrec
   ·rename_i hf hp;rw[if_pos (by unfold pur;rw[hf,hp];rfl)];obtain⟨d,k1,k2⟩:=aDg (all:=all) hg h;exact⟨d,k1,hrec _ k2⟩
   rename_i hf hp;rw[if_neg (by unfold pur;rw[hp];simp)];exact (bV hg h1 h2 h).mono hrec
  rename_i j want hg;split at h
  ·exact h.elim
  rename_i hf;have hgk:=dI.1 hgo o (pP hi);unfold gOk at hgk;rw[hg] at hgk;simp only[aMk,vE] at hgk;obtain⟨d,k1,k2⟩:=aAf hg hgk h;rw[if_pos (by unfold pur;rw[hf,hgk];rfl)];exact⟨d,k1,hrec _ k2⟩
theorem cJc {c:Code} {Q:Exit->aN->Prop} (h:nt<=100000->AW P nt c Q ρ):AW P nt c Q ρ:=fun ro ds I A a w hs hd=>h hs.bound ro ds I A a w hs hd
theorem aRp {cl:List (Nat×Nat)} {c:Code} {Q:Exit->aN->Prop} (hc:(cl.all fun p=>decide (p.1<nt)&&decide (p.2<nt)&&p.1 !=p.2)=true)
  (h1:AW P nt c (fun e ρ=>match e with| .normal=>clG cl (Q .normal) ρ|e=>Q e ρ) ρ):AW P nt c Q ρ:=by
 intro ro ds I A a w hs hd;refine wpIn_mono (h1 ro ds I A a w hs hd) ?_;intro e a1 w1 ⟨I1,A1,ρ1,k1,k2,k3,k4⟩;cases e with
 |normal=>
  obtain⟨A2,ρ2,r1,r2,r3⟩:=dB.claims cl k1 hc k4;exact⟨I1,A2,ρ2,r1,k2,k3.trans r2,r3⟩
 |exit i=>exact⟨I1,A1,ρ1,k1,k2,k3,k4⟩
 |goto l=>exact⟨I1,A1,ρ1,k1,k2,k3,k4⟩
 |ret=>exact⟨I1,A1,ρ1,k1,k2,k3,k4⟩
 |panic ch=>exact⟨I1,A1,ρ1,k1,k2,k3,k4⟩
 |outgrown=>exact⟨I1,A1,ρ1,k1,k2,k3,k4⟩
theorem cAs (L:List Nat) (cl:List (Nat×Nat)) (r fl:List Nat) {id:Nat} {l:List Oper} {Q:Exit->aN->Prop} (hm:P.follows .mixedOrders=true)
  (hr:(gM nt l&&decide (r.length=l.length)&&aQq fl l r (Array.replicate l.length false)&&cl.all fun p=>decide (p.1<nt)&&decide (p.2<nt)&&p.1 !=p.2)=true)
  (h: ∀q,uH fl l r=some q->pwI P l (clG cl (Q .normal)) q ⟨⟩ (keepC L ρ)) (hq:(uH fl l r).isSome=true):AW P nt (.region id l.toArray true) Q ρ:=by
 simp only[gM,cD,dR] at hr;obtain⟨⟨⟨⟨h1,h2⟩,h3⟩,h4⟩,h5⟩:=hr;obtain⟨q,hq⟩:=nQ.1 hq;refine cJc fun hnt=>?_;exact aRp h5 (cM (Le.keepC L ρ) (bTd hm h1 h3 h4 (aZe hnt h1 h2 r q _ hq (h q hq))))
end
@[congr] theorem SettleG_congr {z:Nat} {xs xs':List (List DV)} {k:DV->Prop} {t:Tg k} (h:xs=xs'):aRy z xs k t=aRy z xs' k t:=by rw[h]
@[congr] theorem pwI_congr {P:Program} {all:List Oper} {l:List (Oper×Bool)} {k:aN->Prop} {t:Tg (all,k,l)} {ρ ρ':aN} (h:ρ=ρ'):pwI P all k l t ρ=pwI P all k l t ρ':=by rw[h]
section
variable {P:Program} {ρ:aN} (all:List Oper) (os:List (Oper×Bool)) (k:aN->Prop) (d:Option Tmp) (op:Op) (ty:TypeId) (pos:String) (af:Array Edge) (j:Nat) (want:Bool)
theorem cCg:pwI P all k [] ⟨⟩ ρ=k ρ:=rfl
theorem bJm:pwI P all k ((⟨d,op,ty,pos,af,none⟩,false)::os) ⟨⟩ ρ=(match iJ op&&d.isSome with
   |true=>prG P ρ op d (pwI P all k os ⟨⟩)
   |false=>jO P ρ op d (pwI P all k os ⟨⟩)):=by
 unfold pwI;rw[bNs];unfold opI;simp only;generalize (iJ op&&d.isSome)=b;cases b<;>rfl
theorem cAi:pwI P all k ((⟨d,op,ty,pos,af,none⟩,true)::os) ⟨⟩ ρ=aLg P ρ op d (pwI P all k os ⟨⟩):=rfl
theorem bIf:pwI P all k ((⟨d,op,ty,pos,af,some (j,want)⟩,false)::os) ⟨⟩ ρ=gdG P ρ op d (gAt all ρ j want) (pwI P all k os ⟨⟩):=rfl
variable (K:aN->Prop) (dd:Nat) (t:TypeId) (n:Nat) (parts:Array (Nat×Operand)) (x y:Operand)
theorem bRh:aLg P ρ (.buildSlice t (n+1) parts) (some dd) K=cCz P ρ dd (nE P t) (n+1) parts.toList K:=rfl
theorem bIu:aLg P ρ (.buildSlice t 0 parts) (some dd) K=jO P ρ (.buildSlice t 0 parts) (some dd) K:=rfl
theorem bXe:aLg P ρ (.makeSlice t x y) (some dd) K=jO P ρ (.makeSlice t x y) (some dd) K:=rfl
theorem bQx:aLg P ρ (.assign x) d K=jO P ρ (.assign x) d K:=by cases d<;>rfl
theorem bTh (args:Array Operand) (ts:Array TypeId):aLg P ρ (.call ⟨.builtin .append,args,ts⟩) (some dd) K=jO P ρ (.call ⟨.builtin .append,args,ts⟩) (some dd) (aFv dd K):=rfl
end
attribute [go_sem] cCg bJm cAi bIf bRh bIu bXe bQx bTh cCz aFv
end Go.Sg
namespace Go.Sg
open Go.RowKit
open Go.Rv (FR)
section
variable {P:Program} {nt:Nat} {ρ:aN}
def opX (P:Program) (fl:List Nat) (l:List Oper) (i:Nat) (K:aN->Prop) (ρ:aN):Prop:=
 match l[i]? with
 |none=>False
 |some o=>opI P l o (fl.contains i) K ρ
theorem cGj (hnt:nt<=100000) {l:List Oper} {o:Oper} {i:Nat} {f:Bool} {K:aN->Prop} (hr:sK nt l=true) (hgo:l.all gOk=true) (hi:l[i]?=some o) (h:opI P l o f K ρ):OW P nt l.toArray o K ρ:=by
 obtain⟨h1,h2⟩:=mQ hr hi;unfold opI at h;split at h
 ·rename_i hg;split at h
  ·exact bEa hnt hg h1 h2 h
  ·rename_i hf hp;obtain⟨d,k1,k2⟩:=aDg (all:=l) hg h;simp only[cD] at hp;exact wL (qL hr) h1 h2 hp.2 k1 k2
  exact bV hg h1 h2 h
 rename_i j want hg;split at h
 ·exact h.elim
 have hgk:=dI.1 hgo o (pP hi);unfold gOk at hgk;rw[hg] at hgk;simp only[aMk,vE] at hgk;obtain⟨d,k1,k2⟩:=aAf hg hgk h;simp only[cD] at hgk;exact wL (qL hr) h1 h2 hgk.2 k1 k2
theorem cFi {fl:List Nat} {l:List Oper} {i:Nat} {o:Oper} {f:Bool} {K:aN->Prop} (h:l[i]?=some o) (hf:fl.contains i=f) (hk:opI P l o f K ρ):opX P fl l i K ρ:=by
 unfold opX;rw[h,hf];exact hk
def cBj (P:Program) (fl:List Nat) (l:List Oper) (k:aN->Prop):Nat->Array Bool->aN->Prop
 |0,listed,ρ=>Region.ready .any l.toArray listed=[]/\ ∃ρ',Le ρ ρ'/\k ρ'
 |fuel+1,listed,ρ=> ∃ρ',Le ρ ρ'/\(Region.ready .any l.toArray listed=[]->k ρ')/\ ∀i∈Region.ready .any l.toArray listed,opX P fl l i (cBj P fl l k fuel (listed.setIfInBounds i true)) ρ'
theorem aMe {ro:Option Nat} {ds:List Deferred} {fl:List Nat} {l:List Oper} {k:aN->Prop} {Q':Exit->Act->World->Prop} (hr:sK nt l=true) (hgo:l.all gOk=true): ∀(fuel:Nat) (listed:Array Bool) (ρ:aN) (I:Nat->Prop) (A:dD) (a:Act) (w:World),
  cBj P fl l k fuel listed ρ->dB nt w I A ρ a->a.defers=ds->
  (∀I' A' a' w' ρ',dB nt w' I' A' ρ' a'->a'.defers=ds->f8 w I A w' I' A'->k ρ'->Q' .normal a' w')->wpAnyIn (FR ro) 0 P .any l.toArray Q' fuel listed a w
 |0,listed,ρ,I,A,a,w,h,hs,hd,hk=>by
  obtain⟨h1,ρ',hl,h2⟩:=h;exact⟨h1,hk I A a w ρ' (hs.weaken hl) hd (f8.refl _ _ _) h2⟩
 |fuel+1,listed,ρ,I,A,a,w,h,hs,hd,hk=>by
  obtain⟨ρ',hl,h1,h2⟩:=h;have hs:=hs.weaken hl;refine⟨fun h0=>hk I A a w ρ' hs hd (f8.refl _ _ _) (h1 h0),fun i hi=>?_⟩;have h2:=h2 i hi;have rec_: ∀I' A' a' w' ρ'',dB nt w' I' A' ρ'' a'->a'.defers=ds->f8 w I A w' I' A'->cBj P fl l k fuel (listed.setIfInBounds i true) ρ''->wpAnyIn (FR ro) 0 P .any l.toArray Q' fuel (listed.setIfInBounds i true) a' w':=
   fun I' A' a' w' ρ'' q1 q2 q3 q4=>aMe hr hgo fuel _ ρ'' I' A' a' w' q4 q1 q2 fun I2 A2 a2 w2 ρ2 k1 k2 k3 k4=>hk I2 A2 a2 w2 ρ2 k1 k2 (q3.trans k3) k4
  unfold wpOpIn;unfold opX at h2;simp only[xR];split
  ·rename_i ho;rw[ho] at h2;exact h2.elim
  rename_i o ho;rw[ho] at h2;have:=cGj hs.bound hr hgo ho h2 ro ds I A a w hs hd (wpAnyIn (FR ro) 0 P .any l.toArray Q' fuel (listed.setIfInBounds i true)) Q' rec_;split at this
  ·rename_i hw;rw[if_pos hw];exact this
  rename_i hw;rw[if_neg hw];exact this
def clQ (cl:List (Nat×Nat)) (Q:Exit->aN->Prop):Exit->aN->Prop
 | .normal,ρ=>clG cl (Q .normal) ρ
 |e,ρ=>Q e ρ
theorem bDg {cl:List (Nat×Nat)} {c:Code} {Q:Exit->aN->Prop} (hc:(cl.all fun p=>decide (p.1<nt)&&decide (p.2<nt)&&p.1 !=p.2)=true) (h:AW P nt c (clQ cl Q) ρ):AW P nt c Q ρ:=
 aRp hc (cBn h fun e ρ h=>by cases e<;>exact h)
def zR (l:List Oper):Bool:=(List.range l.length).all fun i=>match l[i]? with
 |some o=>o.after.all fun e=> !Region.binds .any e||decide (e.on<i)
 |none=>true
theorem aKz {l:List Oper} {listed:Array Bool} (hb:zR l=true) (hsz:listed.size=l.length) (h: ∃i,i<l.length/\listed.getD i true=false):Region.ready .any l.toArray listed≠[]:=by
 have key: ∀i,i<l.length->listed.getD i true=false-> ∃j,j∈Region.ready .any l.toArray listed:=by
  intro i
  induction i using Nat.strongRecOn with
  |_ i ih=>
   intro hi hun;have ho:l[i]?=some l[i]:=cH hi;by_cases hd: ∀e∈l[i].after,Region.binds .any e=true->listed.getD e.on false=true
   ·exact⟨i,mem_ready.2 ⟨hun,l[i],by simp,hd⟩⟩
   simp only[Classical.not_forall] at hd;obtain⟨e,he,hbi,hl⟩:=hd;have hlt:e.on<i:=by
    unfold zR at hb;rw[dI] at hb;have:=hb i (by simpa using hi);rw[ho] at this;have:=Array.all_eq_true'.1 this e he;rw[hbi] at this;simpa using this
   refine ih e.on hlt aV ?_;have hs:e.on<listed.size:=by omega
   simp[iY hs] at hl ⊢;exact hl
 obtain⟨i,hi,hun⟩:=h;obtain⟨j,hj⟩:=key i hi hun;intro h0;rw[h0] at hj;cases hj
def cKl (p:Nat->Prop):List Nat->Prop
 | []=>True
 |i::r=>p i/\cKl p r
theorem aYm {p:Nat->Prop}: ∀{r:List Nat},cKl p r-> ∀i∈r,p i
 | [],_,i,h=>by simp at h
 |j::r,h,i,hi=>by
  rcases gN.1 hi with rfl|hi
  ·exact h.1
  exact aYm h.2 i hi
theorem aWe (L fl:List Nat) (cl:List (Nat×Nat)) {id:Nat} {l:List Oper} {Q:Exit->aN->Prop} (hm:P.follows .mixedOrders=true) (hr:(gM nt l&&cl.all fun p=>decide (p.1<nt)&&decide (p.2<nt)&&p.1 !=p.2)=true)
  (h: ∀Y:Nat->Array Bool->aN->Prop,(∀(n:Nat) (listed:Array Bool) (L:List Nat) (rd:List Nat) (ρ:aN),(Region.ready .any l.toArray listed==rd)=true->rd.isEmpty=false->cKl (fun i=>opX P fl l i (Y n (listed.setIfInBounds i true)) (keepC L ρ)) rd->Y (n+1) listed ρ)->
   (∀(n:Nat) (listed:Array Bool) (L:List Nat) (ρ:aN),zR l=true->listed.size=l.length->(∃i,i<l.length/\listed.getD i true=false)->(∀(i:Nat) (o:Oper),listed.getD i true=false->l[i]?=some o->(∀e∈o.after,Region.binds .any e=true->listed.getD e.on false=true)->opI P l o (fl.contains i) (Y n (listed.setIfInBounds i true)) (keepC L ρ))->Y (n+1) listed ρ)->
   (∀(listed:Array Bool) (L:List Nat) (ρ:aN),(Region.ready .any l.toArray listed).isEmpty=true->clG cl (Q .normal) (keepC L ρ)->Y 0 listed ρ)->Y l.length (Array.replicate l.length false) (keepC L ρ)):AW P nt (.region id l.toArray true) Q ρ:=by
 simp only[gM,cD] at hr;obtain⟨⟨h1,h2⟩,h3⟩:=hr;have hY:=h (cBj P fl l (clG cl (Q .normal))) (fun n listed L rd ρ q1 q2 q3=>by
  have q1:Region.ready .any l.toArray listed=rd:=by simpa using q1
  refine⟨_,Le.keepC L ρ,fun h0=>?_,?_⟩
  ·rw[q1] at h0;rw[h0] at q2;cases q2
  rw[q1];exact aYm q3) (fun n listed L ρ p1 p2 p3 q2=>⟨_,Le.keepC L ρ,fun h0=>absurd h0 (aKz p1 p2 p3),fun i hi=>by
  obtain⟨hun,o,ho,hdep⟩:=mem_ready.1 hi;have ho':l[i]?=some o:=by simpa using ho
  refine cFi ho' rfl (q2 i o hun ho' fun e he hb=>?_);exact hdep e he hb⟩) (fun listed L ρ q1 q2=>⟨by simpa using q1,_,Le.keepC L ρ,q2⟩)
 refine bDg h3 ?_;refine cM (Le.keepC L ρ) ?_;intro ro ds I A a w hs hd;refine wpIn_region_any hm ?_;have hgr:oT w I w.drew I:=⟨rfl,⟨rfl,xJ _⟩,rfl,bW _,fun _ _=>rfl,fun _ h=>h,fun _ h=>.inl h⟩
 have:=aMe (ro:=ro) (Q':=fun e a' w'=> ∃I' A' ρ',dB nt w' I' A' ρ' a'/\a'.defers=ds/\f8 w I A w' I' A'/\clQ cl Q e ρ') h1 h2 _ _ (keepC L ρ) I A a w.drew hY (hs.grow hgr) hd
  fun I' A' a' w' ρ' q1 q2 q3 q4=>⟨I',A',ρ',q1,q2,(hgr.ext hs.osim).trans q3,q4⟩
 simpa using this
end
section
variable {P:Program} {ρ:aN} (all:List Oper) (K:aN->Prop) (d:Option Tmp) (op:Op) (ty:TypeId) (pos:String) (af:Array Edge) (j:Nat) (want:Bool)
theorem bJw:opI P all ⟨d,op,ty,pos,af,none⟩ false K ρ=(match iJ op&&d.isSome with
   |true=>prG P ρ op d K
   |false=>jO P ρ op d K):=by
 unfold opI;simp only;generalize (iJ op&&d.isSome)=b;cases b<;>rfl
theorem cCh:opI P all ⟨d,op,ty,pos,af,none⟩ true K ρ=aLg P ρ op d K:=rfl
theorem bIo:opI P all ⟨d,op,ty,pos,af,some (j,want)⟩ false K ρ=gdG P ρ op d (gAt all ρ j want) K:=rfl
end
def bC (b:Bool) (x:DV):DV:=bif b then x else .any
theorem aQu (x:DV):bC true x=x:=rfl
theorem bAh (x:DV):bC false x=.any:=rfl
def rP (s b:Bool) (x y:DV):DV:=bif s then x else bif b then y else .any
theorem aPo (b:Bool) (x y:DV):rP true b x y=x:=rfl
theorem bWy (x y:DV):rP false true x y=y:=rfl
theorem cBf (x y:DV):rP false false x y=.any:=rfl
theorem bWg (p:Nat->Bool) (b:Bool) (x:DV):fL p (bC b x)=(!b||fL p x):=by cases b<;>simp[bC,fL]
theorem bIy (p:Nat->Bool) (s b:Bool) (x y:DV):fL p (rP s b x y)=((!s||fL p x)&&(s|| !b||fL p y)):=by cases s<;>cases b<;>simp[rP,fL]
def cB (b:Bool):Nat:=bif b then 0 else 1
attribute [go_sem] bJw cCh bIo aQu bAh aPo bWy cBf bWg bIy Bool.or_true
end Go.Sg
namespace Go.Sg
open Go.RowKit
open Go.Rv (FR)
abbrev nmD (k:Nat) (d:DV):Prop:=fL (fun t=>t !=k) d=true
def nmE (pv:List Nat) (ρ:aN):Prop:= ∀k∈pv,∀s,s≠k->nmD k (ρ s)
section
variable {P:Program} {nt:Nat} {ρ:aN}
theorem cPx {k:Nat} {d:DV} (h:nmD k d):nmD k (un d):=by
 cases d<;>exact h
theorem cNm {k t:Nat} {d:DV} (ht:t≠k) (h:nmD k d):nmD k (rd t d):=by
 cases d<;>first|exact h|(simp only[nmD,rd,fL,bne_iff_ne];exact ht)
theorem cQv {k:Nat} (v:Value):nmD k (cv v):=by
 cases v<;>first
  |rfl
  |(simp only[nmD,cv,fL];rw[pD];intro d hd;obtain⟨x,_,rfl⟩:=dZ.1 hd;rfl)
theorem cEo {k:Nat} {x:Operand} (hm: ∀s,s≠k->nmD k (ρ s)) (h:x≠ .tmp k):nmD k (un (ev ρ x)):=by
 refine cPx ?_;cases x with
 |tmp t=>
  have ht:t≠k:=fun e=>h (by rw[e]);exact cNm ht (hm t ht)
 |const v=>exact cQv v
 |global g=>rw[aHl];split<;>rfl
 |func f=>rfl
theorem bCg {k:Nat} {u:DV} {ld:Option (Option Nat)} {d:DV} (h:nmD k d):pM (set ρ k u) ld d=pM ρ ld d:=by
 unfold pM;cases ld with
 |none=>rfl
 |some ld=>
  cases d<;>try rfl
  ·rename_i s off;have:s≠k:=by simpa[nmD,fL] using h
   simp only[aK,if_neg this]
  rename_i s z i off;have:s≠k:=by simpa[nmD,fL] using h
  simp only[aK,if_neg this]
theorem bJz {k:Nat} {u:DV} {el:Option (Option Nat×Nat)} {d i:DV} (h:nmD k d):yE (set ρ k u) el d i=yE ρ el d i:=by
 unfold yE;cases d<;>try rfl
 rename_i s n;have:s≠k:=by simpa[nmD,fL] using h
 simp only[aK,if_neg this]
theorem bIi {k:Nat} {u:DV} {el:Option (Option Nat×Nat)} {t:Nat} {d:DV} {lo hi:Option DV} (h:nmD k d):aAm (set ρ k u) el t d lo hi=aAm ρ el t d lo hi:=by
 unfold aAm;split<;>try rfl
 split<;>try rfl
 rename_i s n _;have:s≠k:=by simpa[nmD,fL] using h
 simp only[aK,if_neg this]
theorem bPn {k:Nat} {u:DV} (hm: ∀s,s≠k->nmD k (ρ s)) {op:Op} (h:aMu k op):eC P (set ρ k u) op=eC P ρ op:=by
 have hx: ∀x∈op.operands,ev (set ρ k u) x=ev ρ x:=fun x hx=>iM (h x hx);have hn: ∀x∈op.operands,nmD k (un (ev ρ x)):=fun x hx=>cEo hm (h x hx);cases op with
 |buildSlice t n parts=>
  have hp: ∀p∈parts.toList,p.2≠ .tmp k:=fun p hp=>h p.2 (by simp[Op.operands];exact⟨p.1,by simpa using hp⟩);simp only[eC,aJe,aOm hp,bEx hp]
 |build t parts=>
  have hp: ∀p∈parts.toList,p.2≠ .tmp k:=fun p hp=>h p.2 (by simp[Op.operands];exact⟨p.1,by simpa using hp⟩);simp only[eC,uS,aHn hp]
 |makeSlice t x y=>simp only[eC,hx x (by simp[Op.operands]),hx y (by simp[Op.operands])]
 |move x=>simp only[eC,vC,hx x (by simp[Op.operands])]
 |assign x=>simp only[eC,vC,hx x (by simp[Op.operands])]
 |pick c a b=>simp only[eC,vC,hx c (by simp[Op.operands]),hx a (by simp[Op.operands]),hx b (by simp[Op.operands])]
 |load t x=>simp only[eC,vC,hx x (by simp[Op.operands]),bCg (hn x (by simp[Op.operands]))]
 |nilCheck x=>simp only[eC,vC,hx x (by simp[Op.operands])]
 |binOp op t x y t'=>simp only[eC,vC,hx x (by simp[Op.operands]),hx y (by simp[Op.operands])]
 |unOp op t x=>simp only[eC,vC,hx x (by simp[Op.operands])]
 |convert s t x=>simp only[eC,vC,hx x (by simp[Op.operands])]
 |fieldAddr s x f=>simp only[eC,vC,hx x (by simp[Op.operands])]
 |field s x f=>simp only[eC,vC,hx x (by simp[Op.operands])]
 |indexAddr t x i=>simp only[eC,vC,hx x (by simp[Op.operands]),hx i (by simp[Op.operands]),bJz (hn x (by simp[Op.operands]))]
 |index t x i=>simp only[eC,vC,hx x (by simp[Op.operands]),hx i (by simp[Op.operands])]
 |slice t x lo hi mx=>
  cases mx with
  |some m=>rfl
  |none=>
   have hlo:lo.map (fun y=>un (ev (set ρ k u) y))=lo.map fun y=>un (ev ρ y):=by
    cases lo with
    |none=>rfl
    |some y=>simp[hx y (by simp[Op.operands])]
   have hhi:hi.map (fun y=>un (ev (set ρ k u) y))=hi.map fun y=>un (ev ρ y):=by
    cases hi with
    |none=>rfl
    |some y=>simp[hx y (by simp[Op.operands])]
   have glo:(∀y∈lo,gd (ev (set ρ k u) y))= ∀y∈lo,gd (ev ρ y):=by
    cases lo with
    |none=>simp
    |some y=>simp[hx y (by simp[Op.operands])]
   have ghi:(∀y∈hi,gd (ev (set ρ k u) y))= ∀y∈hi,gd (ev ρ y):=by
    cases hi with
    |none=>simp
    |some y=>simp[hx y (by simp[Op.operands])]
   simp only[eC,vC,hx x (by simp[Op.operands]),hlo,hhi,glo,ghi,bIi (hn x (by simp[Op.operands]))]
 |extract x i=>simp only[eC,vC,hx x (by simp[Op.operands])]
 |makeFunc fn first captured=>
  cases fn with
  |func f=>
   have h1: ∀x∈first.toList,ev (set ρ k u) x=ev ρ x:=fun x hx'=>hx x (by simp[Op.operands];exact .inl (by simpa using hx'))
   have h2: ∀x∈captured.toList,ev (set ρ k u) x=ev ρ x:=fun x hx'=>hx x (by simp[Op.operands];exact .inr (by simpa using hx'));have e1:(first.toList.map fun x=>un (ev (set ρ k u) x))=first.toList.map fun x=>un (ev ρ x):=zP fun x hx'=>by rw[h1 x hx']
   have e2:(captured.toList.map fun x=>un (ev (set ρ k u) x))=captured.toList.map fun x=>un (ev ρ x):=zP fun x hx'=>by rw[h2 x hx']
   have g1:(∀x∈first.toList,gd (ev (set ρ k u) x))= ∀x∈first.toList,gd (ev ρ x):=propext ⟨fun g x hx'=>by rw[<- h1 x hx'];exact g x hx',fun g x hx'=>by rw[h1 x hx'];exact g x hx'⟩
   have g2:(∀x∈captured.toList,gd (ev (set ρ k u) x))= ∀x∈captured.toList,gd (ev ρ x):=propext ⟨fun g x hx'=>by rw[<- h2 x hx'];exact g x hx',fun g x hx'=>by rw[h2 x hx'];exact g x hx'⟩;simp only[eC,vC,fnP,e1,e2,g1,g2]
  |_=>rfl
 |call c=>
  obtain⟨cl,args,ts⟩:=c;cases cl with
  |builtin b=>
   have hb: ∀x∈args.toList,x≠ .tmp k:=fun x hx'=>h x (by simp[Op.operands,Call.operands];simpa using hx');simp only[eC,vC,bHc,aWb hb]
  |_=>rfl
 |_=>rfl
def prA (P:Program) (ρ:aN) (op:Op) (d:DV):Prop:=
 match op with
 | .call ⟨.value f,args,_⟩=>gd (ev ρ f)/\gdL ρ args.toList/\ ∃g l,callee (un (ev ρ f)) (evL ρ args.toList)=some (g,l)/\aM P g=true/\ ∀O,aZ P O g l d
 |op=>(eC P ρ op).1/\d=(eC P ρ op).2
theorem cFb {op:Op} {d:DV} (h:prA P ρ op d):prP P ρ op d:=by
 cases op with
 |call c=>
  obtain⟨cl,args,ts⟩:=c;cases cl with
  |value f=>
   obtain⟨h1,h2,g,l,h3,h4,h5⟩:=h;exact⟨h1,h2,g,l,h3,h4,h5 ρ⟩
  |_=>exact h
 |_=>exact h
def Sep (ρ:aN) (k:Nat) (u:DV):Prop:=(cK u=false/\cK (ρ k)=false)\/ ∀s,s≠k->nmD k (ρ s)
theorem bEn {k:Nat} {u:DV} (hk:Sep ρ k u) {op:Op} {d:DV} (h:aMu k op) (hp:prA P ρ op d):prA P (set ρ k u) op d:=by
 have hq:eC P (set ρ k u) op=eC P ρ op:=by
  rcases hk with ⟨h1,h2⟩|h1
  ·exact bFk h1 h2 h
  exact bPn h1 h
 have gen:(eC P ρ op).1/\d=(eC P ρ op).2->(eC P (set ρ k u) op).1/\d=(eC P (set ρ k u) op).2:=by rw[hq];exact id
 cases op with
 |call c=>
  obtain⟨cl,args,ts⟩:=c;cases cl with
  |value f=>
   obtain⟨h1,h2,g,l,h3,h4,h5⟩:=hp;have hf:ev (set ρ k u) f=ev ρ f:=iM (h f (by simp[Op.operands,Call.operands]));have ha: ∀x∈args.toList,x≠ .tmp k:=fun x hx=>h x (by simp[Op.operands,Call.operands];exact .inr (by simpa using hx));exact⟨by rw[hf];exact h1,by rw[aVe ha];exact h2,g,l,by rw[hf,bEy ha];exact h3,h4,h5⟩
  |_=>exact gen hp
 |_=>exact gen hp
def bDp (P:Program) (all:List Oper) (ρ:aN) (o:Oper) (d:DV):Prop:=
 cK d=false/\(∀k,o.dst=some k->cK (ρ k)=false)/\
 match o.guard with
 |none=>prA P ρ o.op d
 |some (j,want)=> ∃g d',gAt all ρ j want=some g/\d=.cond g d'/\lG d'=true/\(g=true->prA P ρ o.op d')
theorem cGx {l:List Oper} {o:Oper} {d:DV} (h:bDp P l ρ o d):uY P l ρ o d:=by
 obtain⟨h1,h2,h3⟩:=h;refine⟨h1,h2,?_⟩;cases hg:o.guard with
 |none=>rw[hg] at h3;exact cFb h3
 |some jw=>
  obtain⟨j,want⟩:=jw;rw[hg] at h3;obtain⟨g,d',k1,k2,k3,k4⟩:=h3;exact⟨g,d',k1,k2,k3,fun q=>cFb (k4 q)⟩
theorem bVx {l:List Oper} {o:Oper} {d u:DV} {k:Nat} (hk:Sep ρ k u) (hl:k∉o.looksAt l.toArray) (hne:o.dst≠some k) (h:bDp P l ρ o d):bDp P l (set ρ k u) o d:=by
 obtain⟨h1,h2,h3⟩:=h;refine⟨h1,fun m hm=>?_,?_⟩
 ·have:m≠k:=fun e=>hne (by rw[hm,e]);rw[aK,if_neg this];exact h2 m hm
 cases hg:o.guard with
 |none=>rw[hg] at h3;exact bEn hk (pY hl) h3
 |some jw=>
  obtain⟨j,want⟩:=jw;rw[hg] at h3;obtain⟨g,d',k1,k2,k3,k4⟩:=h3;exact⟨g,d',by rw[bFe (aIm hl hg)];exact k1,k2,k3,fun hgt=>bEn hk (pY hl) (k4 hgt)⟩
def zZ (pv:List Nat) (o:Oper):Option Nat:=
 match o.guard with
 |some _=>none
 |none=>match o.op with
  | .alloc _=>(match o.dst with|some p=>if pv.contains p then some p else none|none=>none)
  | .store _ (.tmp p) _=>if pv.contains p&&o.dst.isNone then some p else none
  |_=>none
def oM (pv:List Nat) (o:Oper):Option Nat:=match zZ pv o with|some p=>some p|none=>o.dst
theorem aAe {pv:List Nat} {o:Oper} {p:Nat} (h:zZ pv o=some p):o.guard=none/\p∈pv/\((∃t,o.op=.alloc t/\o.dst=some p)\/ ∃t x,o.op=.store t (.tmp p) x/\o.dst=none):=by
 unfold zZ at h;split at h
 ·cases h
 rename_i hg;refine⟨hg,?_⟩;split at h
 ·rename_i t ht;split at h
  ·rename_i q hq;split at h<;>cases h;rename_i hc;exact⟨by simpa using hc,.inl ⟨t,ht,hq⟩⟩
  cases h
 ·rename_i t q x ht;split at h<;>cases h;rename_i hc;simp only[cD] at hc;exact⟨by simpa using hc.1,.inr ⟨t,x,ht,by simpa using hc.2⟩⟩
 cases h
def aBa (P:Program) (l:List Oper) (pv:List Nat) (ρ:aN) (o:Oper) (d:DV):Prop:=
 (∀q∈pv,oM pv o≠some q->nmD q d)/\
 match zZ pv o with
 |none=>bDp P l ρ o d
 |some p=>match o.op with
  | .alloc t=> ∃zs,eW P t=some zs/\d=.bx (zs.map .v)
  | .store t _ x=> ∃n cs,ρ p=.bx cs/\gV P t=some n/\0<n/\cs.length=n/\(cW (un (ev ρ x))).length=n/\gd (ev ρ x)/\d=.bx (cW (un (ev ρ x)))
  |_=>False
def isV (pv:List Nat) (o:Oper):Bool:=(zZ pv o).isSome||(iJ o.op&&o.dst.isSome&&pv.all fun q=>o.dst !=some q)
theorem aRz {pv:List Nat} {o:Oper} (h:isV pv o=true): ∃k,oM pv o=some k:=by
 unfold isV at h;unfold oM;cases hp:zZ pv o with
 |some p=>exact⟨p,rfl⟩
 |none=>
  rw[hp] at h;simp only[Option.isSome_none,vE,cD] at h;exact nQ.1 h.1.2
theorem bRy {l:List Oper} {pv:List Nat} {o:Oper} {d u:DV} {k:Nat} (hnm:nmE pv ρ) (hk:oM pv o=some k) (h:aBa P l pv ρ o d) (hu:cK u=false\/k∈pv):Sep ρ k u:=by
 unfold oM at hk;have h2:=h.2;cases hp:zZ pv o with
 |some p=>
  rw[hp] at hk;cases hk;exact .inr (hnm _ (aAe hp).2.1)
 |none=>
  rw[hp] at hk h2;rcases hu with hu|hu
  ·exact .inl ⟨hu,h2.2.1 k hk⟩
  exact .inr (hnm k hu)
theorem bMz {l:List Oper} {pv:List Nat} {o:Oper} {d:DV} {k:Nat} (hk:oM pv o=some k) (h:aBa P l pv ρ o d):cK d=false\/k∈pv:=by
 have h2:=h.2;unfold oM at hk;cases hp:zZ pv o with
 |some p=>
  rw[hp] at hk;cases hk;exact .inr (aAe hp).2.1
 |none=>rw[hp] at h2;exact .inl h2.1
theorem aYh {l:List Oper} {pv:List Nat} {o:Oper} {d u:DV} {k:Nat} (hk:Sep ρ k u) (hl:k∉o.looksAt l.toArray) (hne:oM pv o≠some k) (h:aBa P l pv ρ o d):aBa P l pv (set ρ k u) o d:=by
 obtain⟨h1,h2⟩:=h;refine⟨h1,?_⟩;unfold oM at hne;cases hp:zZ pv o with
 |none=>rw[hp] at h2 hne;exact bVx hk hl hne h2
 |some p=>
  rw[hp] at h2 hne;have hpk:p≠k:=fun e=>hne (by rw[e]);simp only at h2 ⊢;split at h2
  ·exact h2
  ·rename_i t ad x hop;obtain⟨n,cs,k1,k2,k3,k4,k5,k6,k7⟩:=h2;have hx:ev (set ρ k u) x=ev ρ x:=iM (pY hl x (by rw[hop];simp[Op.operands]));exact⟨n,cs,by rw[aK,if_neg hpk];exact k1,k2,k3,k4,by rw[hx];exact k5,by rw[hx];exact k6,by rw[hx];exact k7⟩
  exact h2
theorem wG {l:List Oper} {pv:List Nat} {o:Oper} {d:DV} {k:Nat} (hnm:nmE pv ρ) (hk:oM pv o=some k) (h:aBa P l pv ρ o d):nmE pv (set ρ k d):=fun q hq s hs=>by
 rw[aK];split
 ·rename_i e;subst e;exact h.1 q hq (by rw[hk];intro e;exact hs (dO e))
 exact hnm q hq s hs
def sV (P:Program) (l:List Oper) (pv:List Nat) (i:Nat) (K:aN->Prop) (ρ:aN):Prop:=
 match l[i]? with
 |none=>K ρ
 |some o=> ∃d,aBa P l pv ρ o d/\K (cO ρ (oM pv o) d)
def bRe (P:Program) (l:List Oper) (pv:List Nat) (k:aN->Prop):Nat->Array Bool->aN->Prop
 |0,listed,ρ=>Region.ready .any l.toArray listed=[]/\k ρ
 |fuel+1,listed,ρ=>(Region.ready .any l.toArray listed=[]->k ρ)/\ ∀i∈Region.ready .any l.toArray listed,sV P l pv i (bRe P l pv k fuel (listed.setIfInBounds i true)) ρ
def apV (l:List Oper) (pv:List Nat) (x y:Oper):Bool:=
 match oM pv x,oM pv y with
 |some a,some b=> !(y.looksAt l.toArray).contains a&&a !=b&& !(x.looksAt l.toArray).contains b
 |_,_=>false
theorem cHf {l:List Oper} {pv:List Nat} {j:Nat} {oi oj:Oper} {d:DV} (hj:l[j]?=some oj) (hap:apV l pv oi oj=true) {K:aN->Prop} (hnm:nmE pv ρ)
  (hy:aBa P l pv ρ oi d) (h:sV P l pv j K (cO ρ (oM pv oi) d)): ∃u kj,oM pv oj=some kj/\aBa P l pv ρ oj u/\aBa P l pv (cO ρ (oM pv oj) u) oi d/\K (cO (cO ρ (oM pv oj) u) (oM pv oi) d):=by
 unfold apV at hap;split at hap
 ·rename_i ki kj hki hkj;simp only[cD,mH,bne_iff_ne,ne_eq] at hap;obtain⟨⟨h1,h2⟩,h3⟩:=hap;have h1:ki∉oj.looksAt l.toArray:=fun q=>by rw[aQt.2 q] at h1;cases h1
  have h3:kj∉oi.looksAt l.toArray:=fun q=>by rw[aQt.2 q] at h3;cases h3
  unfold sV at h;rw[hj,hki,dE] at h;obtain⟨u,k1,k2⟩:=h;have hnm':=wG hnm hki hy;have hback:aBa P l pv ρ oj u:=by
   have hs:Sep (set ρ ki d) ki (ρ ki):=by
    have hy2:=hy.2;cases hp:zZ pv oi with
    |some p=>
     have:p=ki:=by unfold oM at hki;rw[hp] at hki;exact dO hki
     subst this;exact .inr fun s hs=>by rw[aK,if_neg hs];exact hnm _ (aAe hp).2.1 s hs
    |none=>
     rw[hp] at hy2;unfold oM at hki;rw[hp] at hki;exact .inl ⟨hy2.2.1 ki hki,by rw[aK,if_pos rfl];exact hy2.1⟩
   have:=aYh (u:=ρ ki) hs h1 (by rw[hkj];intro e;exact h2 (dO e).symm) k1
   rwa [aMh] at this
  refine⟨u,kj,hkj,hback,?_,?_⟩
  ·rw[hkj,dE];exact aYh (bRy hnm hkj hback (bMz hkj hback)) h3 (by rw[hki];intro e;exact h2 (dO e)) hy
  rw[hki,hkj,dE,dE];rw[hkj,dE] at k2;have:set (set ρ kj u) ki d=set (set ρ ki d) kj u:=by
   funext i;simp only[aK];by_cases e1:i=ki
   ·rw[if_pos e1,if_neg (by rw[e1];exact h2),if_pos e1]
   simp only[if_neg e1]
  rw[this];exact k2
 cases hap
theorem bCr {l:List Oper} {pv:List Nat} {k:aN->Prop} {i:Nat} {oi:Oper} {d:DV} (hi:l[i]?=some oi) (hvi:isV pv oi=true):
  ∀(fuel:Nat) (listed:Array Bool) (ρ:aN),
   (∀j oj,l[j]?=some oj->j≠i->listed.getD j true=false->(∀e∈oj.after,Region.binds .any e=true->e.on≠i)->apV l pv oi oj=true)->nmE pv ρ->
   i∈Region.ready .any l.toArray listed->aBa P l pv ρ oi d->bRe P l pv k fuel (listed.setIfInBounds i true) (cO ρ (oM pv oi) d)->bRe P l pv k (fuel+1) listed ρ:=by
 obtain⟨ki,hki⟩:=aRz hvi;have take: ∀{K:aN->Prop} {ρ:aN},aBa P l pv ρ oi d->K (cO ρ (oM pv oi) d)->sV P l pv i K ρ:=fun h1 h2=>by
  unfold sV;rw[hi];exact⟨d,h1,h2⟩
 intro fuel
 induction fuel with
 |zero=>
  intro listed ρ _ _ hr hy H;refine⟨fun h=>(by rw[h] at hr;cases hr),fun j hj=>?_⟩;by_cases hji:j=i
  ·subst hji;exact take hy H
  have:=ready_mono hj hji;rw[H.1] at this;cases this
 |succ fuel ih=>
  intro listed ρ hfree hnm hr hy H;refine⟨fun h=>(by rw[h] at hr;cases hr),fun j hj=>?_⟩;by_cases hji:j=i
  ·subst hji;exact take hy H
  have h1:=H.2 j (ready_mono hj hji);obtain⟨hjun,oj,hoj,hall⟩:=mem_ready.1 hj;have hoj':l[j]?=some oj:=by simpa using hoj
  have hnot: ∀e∈oj.after,Region.binds .any e=true->e.on≠i:=fun e he hb heq=>by
   have h1:=hall e he hb;have h0:=(mem_ready.1 hr).1;rw[heq] at h1;rcases b9 i listed.size with h'|h'
   ·simp[h'] at h0 h1;rw[h0] at h1;cases h1
   simp[aJt h'] at h1
  obtain⟨u,kj,q1,q2,q3,q4⟩:=cHf hoj' (hfree j oj hoj' hji hjun hnot) hnm hy h1;have hfree': ∀m om,l[m]?=some om->m≠i->(listed.setIfInBounds j true).getD m true=false->(∀e∈om.after,Region.binds .any e=true->e.on≠i)->apV l pv oi om=true:=fun m om hm hmi hun hno=>by
   refine hfree m om hm hmi ?_ hno;by_cases hjm:j=m
   ·subst hjm;exact hjun
   rw[getD_set_ne true hjm] at hun;exact hun
  unfold sV;rw[hoj'];refine⟨u,q2,ih (listed.setIfInBounds j true) _ hfree' ?_ (ready_mono hr (fC hji)) q3 ?_⟩
  ·rw[q1,dE];exact wG hnm q1 q2
  rw[bPk _ _ hji];exact q4
def bPf (l:List Oper) (pv:List Nat) (listed:Array Bool) (i:Nat):Bool:=
 match l[i]? with
 |none=>false
 |some oi=>isV pv oi&&(List.range l.length).all fun j=>
  j==i||listed.getD j true||match l[j]? with
   |none=>true
   |some oj=>oj.after.any (fun e=>Region.binds .any e&&e.on==i)||apV l pv oi oj
def aXg (l:List Oper) (pv:List Nat):List Nat->Array Bool->Bool
 | [],listed=>(Region.ready .any l.toArray listed).isEmpty
 |i::r,listed=>(Region.ready .any l.toArray listed).contains i&&bPf l pv listed i&&aXg l pv r (listed.setIfInBounds i true)
theorem bCn {l:List Oper} {pv:List Nat} {listed:Array Bool} {i:Nat} {oi:Oper} (hi:l[i]?=some oi) (h:bPf l pv listed i=true):isV pv oi=true/\
  ∀j oj,l[j]?=some oj->j≠i->listed.getD j true=false->(∀e∈oj.after,Region.binds .any e=true->e.on≠i)->apV l pv oi oj=true:=by
 unfold bPf at h;rw[hi] at h;simp only[cD,dI,gU,pQ,mV] at h;obtain⟨h1,h2⟩:=h;refine⟨h1,fun j oj hj hne hun hno=>?_⟩;have hlt:j<l.length:=by
  rcases b9 j l.length with h|h
  ·exact h
  rw[fN h] at hj;cases hj
 rcases h2 j hlt with (h3|h3)|h3
 ·exact absurd h3 hne
 ·rw[hun] at h3;cases h3
 rw[hj] at h3;simp only[pQ,Array.any_eq_true',cD,mV] at h3;rcases h3 with ⟨e,he,hb,hon⟩|h3
 ·exact absurd hon (hno e he hb)
 exact h3
def bJp (P:Program) (l:List Oper) (pv:List Nat) (k:aN->Prop):List Oper->aN->Prop
 | [],ρ=>k ρ
 |o::os,ρ=> ∃d,aBa P l pv ρ o d/\bJp P l pv k os (cO ρ (oM pv o) d)
theorem aRg {l:List Oper} {pv:List Nat} {k:aN->Prop}: ∀(r:List Nat) (rs:List Oper) (listed:Array Bool) (ρ:aN),r.map (fun i=>l[i]?)=rs.map some->aXg l pv r listed=true->nmE pv ρ->bJp P l pv k rs ρ->bRe P l pv k r.length listed ρ
 | [],rs,_,_,hl,hB,_,h=>by
  cases rs with
  |nil=>exact⟨by simpa[aXg] using hB,h⟩
  |cons=>simp at hl
 |i::r,rs,listed,ρ,hl,hB,hnm,h=>by
  cases rs with
  |nil=>simp at hl
  |cons o rs=>
   simp only[kH,List.cons.injEq] at hl;simp only[aXg,cD] at hB;obtain⟨⟨hr,hf⟩,hB2⟩:=hB;obtain⟨hp,hfree⟩:=bCn hl.1 hf;obtain⟨d,k1,k2⟩:=h;obtain⟨kd,hkd⟩:=aRz hp;exact bCr hl.1 hp r.length listed ρ hfree hnm (by simpa using hr) k1 (aRg r rs _ _ hl.2 hB2 (by rw[hkd,dE];exact wG hnm hkd k1) k2)
theorem bPw {k:Nat} {d:DV} (h:nmD k d):uN k d=d:=by unfold uN;rw[if_pos h]
theorem bDr {l:List Oper} {pv:List Nat} {k:aN->Prop} (hr:sK nt l=true) (hv:l.all (isV pv)=true) (hp: ∀p∈pv,p<nt/\p<100000): ∀(fuel:Nat) (listed:Array Bool) (ρ:aN),nmE pv ρ->bRe P l pv k fuel listed ρ->aSf P nt l k fuel listed ρ
 |0,_,_,_,h=>h
 |fuel+1,listed,ρ,hnm,h=>by
  refine⟨h.1,fun i hi=>?_⟩;have h2:=h.2 i hi;unfold sV at h2;unfold sE;cases hl:l[i]? with
  |none=>rw[hl] at h2;exact bDr hr hv hp fuel _ ρ hnm h2
  |some o=>
   rw[hl] at h2;obtain⟨d,k1,k2⟩:=h2;have hvo:=dI.1 hv o (pP hl);obtain⟨kd,hkd⟩:=aRz hvo;have hrec:aSf P nt l k fuel (listed.setIfInBounds i true) (set ρ kd d):=by
    have:=bDr hr hv hp fuel (listed.setIfInBounds i true) (cO ρ (oM pv o) d) (by rw[hkd,dE];exact wG hnm hkd k1) k2
    rwa [hkd,dE] at this
   obtain⟨ho1,ho2⟩:=mQ hr hl;have k12:=k1.2;simp only;cases hpv:zZ pv o with
   |none=>
    rw[hpv] at k12;unfold isV at hvo;rw[hpv] at hvo;simp only[Option.isSome_none,vE,cD] at hvo;rw[if_pos (by rw[cD];exact hvo.1)];have hd:o.dst=some kd:=by unfold oM at hkd;rw[hpv] at hkd;exact hkd
    exact⟨d,cGx k12,by rw[hd,dE];exact hrec⟩
   |some p=>
    have hpk:p=kd:=by unfold oM at hkd;rw[hpv] at hkd;exact dO hkd
    subst hpk;obtain⟨hg,hpm,hcase⟩:=aAe hpv;obtain⟨hp1,hp2⟩:=hp p hpm;rw[hpv] at k12;rcases hcase with ⟨t,hop,hdst⟩|⟨t,x,hop,hdst⟩
    ·rw[if_neg (by rw[hop];simp[iJ])];simp only[hop] at k12;obtain⟨zs,hz,rfl⟩:=k12;refine aWz hop hg hdst hp1 hz ?_;have:set (d4 p ρ) p (.bx (zs.map .v))=set ρ p (.bx (zs.map .v)):=by
      funext s;rw[aK,aK];split
      ·rfl
      rename_i hs;rw[wQ];split
      ·exact bPw (hnm p hpm s hs)
      rfl
     rw[this];exact hrec
    rw[if_neg (by rw[hop];simp[iJ])];simp only[hop] at k12;obtain⟨n,cs,q1,q2,q3,q4,q5,q6,rfl⟩:=k12;refine aXk (s:=p) (off:=0) (n:=n) hop hg hdst ho1 (by rw[aHm,q1];rfl) q6 q2 q3 ?_;rw[q1];refine⟨q5,by omega,.inl hp2,?_⟩;rw[aCk aV,List.take_zero,yS,gH,List.drop_eq_nil_of_le aV,kZ];exact hrec
def bVf (P:Program) (f:FuncId) (l:List DV) (k:DV->Prop) (_:Tg k):Prop:= ∃r,cK r=false/\(∀O,aZ P O f l r)/\k r
@[congr] theorem CallA_congr {f:FuncId} {l l':List DV} {k:DV->Prop} {t:Tg k} (h:l=l'):bVf P f l k t=bVf P f l' k t:=by rw[h]
def pcA (P:Program) (d:Option Nat) (c:Option (FuncId×List DV)) (K:aN->Prop) (ρ:aN):Prop:=
 match c,d with
 |some (fid,l),some k=>aM P fid=true/\bVf P fid l (fun r=>K (set ρ k r)) ⟨⟩
 |_,_=>False
def aEk:Op->Option (Operand×List Operand)
 | .call ⟨.value f,args,_⟩=>some (f,args.toList)
 |_=>none
def bKn (P:Program) (all:List Oper) (k:aN->Prop):List Oper->aN->Prop
 | [],ρ=>k ρ
 |o::os,ρ=>match o.guard with
  |none=>(match aEk o.op with
   |some (f,args)=>cY ρ o.dst/\gd (ev ρ f)/\gdL ρ args/\pcA P o.dst (callee (un (ev ρ f)) (evL ρ args)) (bKn P all k os) ρ
   |none=>prG P ρ o.op o.dst (bKn P all k os))
  |some (j,want)=>(match aEk o.op with
   |some _=>False
   |none=>gdG P ρ o.op o.dst (gAt all ρ j want) (bKn P all k os))
def pwV (P:Program) (all:List Oper) (k:aN->Prop) (l:List Oper) (_:Tg (all,k,l)) (ρ:aN):Prop:=bKn P all k l ρ
@[congr] theorem pwV_congr {all l:List Oper} {k:aN->Prop} {t:Tg (all,k,l)} {ρ ρ':aN} (h:ρ=ρ'):pwV P all k l t ρ=pwV P all k l t ρ':=by rw[h]
section rules
variable (all os:List Oper) (k K:aN->Prop) (d:Option Tmp) (op:Op) (ty:TypeId) (pos:String) (af:Array Edge) (j:Nat) (want:Bool)
theorem cAb:pwV P all k [] ⟨⟩ ρ=k ρ:=rfl
theorem bKp:pwV P all k (⟨d,op,ty,pos,af,none⟩::os) ⟨⟩ ρ=(match aEk op with
   |some (f,args)=>cY ρ d/\gd (ev ρ f)/\gdL ρ args/\pcA P d (callee (un (ev ρ f)) (evL ρ args)) (pwV P all k os ⟨⟩) ρ
   |none=>prG P ρ op d (pwV P all k os ⟨⟩)):=rfl
theorem bJy:pwV P all k (⟨d,op,ty,pos,af,some (j,want)⟩::os) ⟨⟩ ρ=(match aEk op with
   |some _=>False
   |none=>gdG P ρ op d (gAt all ρ j want) (pwV P all k os ⟨⟩)):=rfl
end rules
theorem cDh {op:Op} {d:DV} (h:aEk op=none) (hp:prP P ρ op d):prA P ρ op d:=by
 cases op with
 |call c=>
  obtain⟨cl,args,ts⟩:=c;cases cl with
  |value f=>cases h
  |_=>exact hp
 |_=>exact hp
theorem bPx {all:List Oper} {o:Oper} {d:DV} (h:aEk o.op=none) (hp:uY P all ρ o d):bDp P all ρ o d:=by
 obtain⟨h1,h2,h3⟩:=hp;refine⟨h1,h2,?_⟩;cases hg:o.guard with
 |none=>rw[hg] at h3;exact cDh h h3
 |some jw=>
  obtain⟨j,want⟩:=jw;rw[hg] at h3;obtain⟨g,d',k1,k2,k3,k4⟩:=h3;exact⟨g,d',k1,k2,k3,fun q=>cDh h (k4 q)⟩
def nmF (pv S:List Nat) (ρ:aN):Bool:=pv.all fun p=>S.all fun s=>s==p||fL (fun t=>t !=p) (ρ s)
def bIb (P:Program):List (Nat×TypeId×Nat)->(aN->Prop)->aN->Prop
 | [],K,ρ=>K ρ
 |(p,t,_)::r,K,ρ=>match eW P t with
  |some zs=>bIb P r K (set ρ p (.bx (zs.map .v)))
  |none=>False
def bIn (P:Program):List (Nat×TypeId×Nat)->(aN->Prop)->aN->Prop
 | [],K,ρ=>K ρ
 |(p,t,x)::r,K,ρ=>match gV P t,ρ p with
  |some n,.bx cs=>0<n/\cs.length=n/\gd (ev ρ (.tmp x))/\(cW (un (ev ρ (.tmp x)))).length=n/\bIn P r K (set ρ p (.bx (cW (un (ev ρ (.tmp x))))))
  |_,_=>False
def bMn (P:Program) (q:List (Nat×TypeId×Nat)) (K:aN->Prop) (ρ:aN):Prop:=bIb P q (bIn P q K) ρ
theorem bUt {K:aN->Prop}:bIb P [] K ρ=K ρ:=rfl
theorem aRj {p:Nat} {t:TypeId} {x:Nat} {r:List (Nat×TypeId×Nat)} {K:aN->Prop}:bIb P ((p,t,x)::r) K ρ=(match eW P t with
  |some zs=>bIb P r K (set ρ p (.bx (zs.map .v)))
  |none=>False):=rfl
theorem bNw {K:aN->Prop}:bIn P [] K ρ=K ρ:=rfl
theorem aRh {p:Nat} {t:TypeId} {x:Nat} {r:List (Nat×TypeId×Nat)} {K:aN->Prop}:bIn P ((p,t,x)::r) K ρ=(match gV P t,ρ p with
  |some n,.bx cs=>0<n/\cs.length=n/\gd (ev ρ (.tmp x))/\(cW (un (ev ρ (.tmp x)))).length=n/\bIn P r K (set ρ p (.bx (cW (un (ev ρ (.tmp x))))))
  |_,_=>False):=rfl
def bPd (pv:List Nat):List Oper->List (Nat×TypeId×Nat)->Bool
 | [],[]=>true
 |a::r,(p,t,x)::q=>a.guard.isNone&&a.dst==some p&&pv.contains p&&(match a.op with| .alloc t'=>t'==t|_=>false)&&bPd pv r q
 |_,_=>false
def bUk (pv:List Nat):List Oper->List (Nat×TypeId×Nat)->Bool
 | [],[]=>true
 |b::r,(p,t,x)::q=>b.guard.isNone&&b.dst.isNone&&pv.contains p&&(match b.op with| .store t' (.tmp p') (.tmp y)=>t'==t&&p'==p&&y==x&& !pv.contains y|_=>false)&&bUk pv r q
 |_,_=>false
theorem bUv {k:Nat} {d:DV} (h:nmD k d):nmD k (.bx (cW d)):=by
 unfold nmD;simp only[fL];cases d with
 |v x=>cases x<;>rfl
 |agg cs=>simpa[cW,nmD,fL] using h
 |any=>rfl
 |sl z n f=>rfl
 |tup cs=>rfl
 |dp cs=>rfl
 |bp s o=>simpa[cW,nmD,fL,d6] using h
 |own s n=>simpa[cW,nmD,fL,d6] using h
 |rp s z i o=>simpa[cW,nmD,fL,d6] using h
 |fn f a b=>simpa[cW,nmD,fL,d6] using h
 |iface t x=>simpa[cW,nmD,fL,d6] using h
 |cond g x=>rfl
 |bx cs=>rfl
 |row e z xs=>rfl
 |mr s=>rfl
 |ez=>rfl
 |mo es=>rfl
theorem bDx {l:List Oper} {pv:List Nat} {K K':aN->Prop} {rest:List Oper} (hk: ∀ρ',nmE pv ρ'->K' ρ'->bJp P l pv K rest ρ'): ∀(asW:List Oper) (q:List (Nat×TypeId×Nat)) (ρ:aN),bPd pv asW q=true->nmE pv ρ->bIb P q K' ρ->bJp P l pv K (asW++rest) ρ
 | [],[],ρ,_,hn,h=>hk ρ hn h
 | [],_::_,_,hc,_,_=>by cases hc
 |_::_,[],_,hc,_,_=>by cases hc
 |a::r,(p,t,x)::q,ρ,hc,hnm,h=>by
  simp only[bPd,cD,Option.isNone_iff_eq_none,mV] at hc;obtain⟨⟨⟨⟨ga,da⟩,hp⟩,oa⟩,hr⟩:=hc;have hpm:p∈pv:=by simpa using hp
  rw[aRj] at h;split at h
  ·rename_i zs hzc;split at oa
   ·rename_i t' hopa;have oa:t'=t:=by simpa using oa
    subst oa;have pva:zZ pv a=some p:=by unfold zZ;rw[ga];simp only[hopa,da];rw[if_pos (by simpa using hpm)]
    have dva:oM pv a=some p:=by unfold oM;rw[pva]
    have va:aBa P l pv ρ a (.bx (zs.map .v)):=⟨fun k _ _=>by unfold nmD;simp only[fL];rw[pD];intro d hd;obtain⟨z,_,rfl⟩:=dZ.1 hd;rfl,by rw[pva];simp only[hopa];exact⟨zs,hzc,rfl⟩⟩;refine⟨_,va,?_⟩;rw[dva,dE];exact bDx hk r q _ hr (wG hnm dva va) h
   cases oa
  cases h
theorem bEm {l:List Oper} {pv:List Nat} {K:aN->Prop}: ∀(bs:List Oper) (q:List (Nat×TypeId×Nat)) (ρ:aN),bUk pv bs q=true->nmE pv ρ->bIn P q K ρ->bJp P l pv K bs ρ
 | [],[],ρ,_,hn,h=>h
 | [],_::_,_,hc,_,_=>by cases hc
 |_::_,[],_,hc,_,_=>by cases hc
 |b::r,(p,t,x)::q,ρ,hc,hnm,h=>by
  simp only[bUk,cD,Option.isNone_iff_eq_none,mV] at hc;obtain⟨⟨⟨⟨gb,db⟩,hp⟩,ob⟩,hr⟩:=hc;have hpm:p∈pv:=by simpa using hp
  rw[aRh] at h;split at h
  ·rename_i n cs hsz hcs;obtain⟨h1,h2,h3,h4,h5⟩:=h;split at ob
   ·rename_i t2 p2 y hopb;simp only[cD,mV,mH] at ob;obtain⟨⟨⟨rfl,rfl⟩,rfl⟩,hyc⟩:=ob;have hyk: ∀k∈pv,(Operand.tmp y)≠ .tmp k:=fun k hk e=>by
     cases e;rw[aQt.2 hk] at hyc;cases hyc
    have pvb:zZ pv b=some p2:=by unfold zZ;rw[gb];simp only[hopb,db];rw[if_pos (by simpa using hpm)]
    have dvb:oM pv b=some p2:=by unfold oM;rw[pvb]
    have vb':aBa P l pv ρ b (.bx (cW (un (ev ρ (.tmp y))))):=by
     refine⟨fun k hk hne=>bUv (cEo (hnm k hk) (hyk k hk)),?_⟩;rw[pvb];simp only[hopb];exact⟨n,cs,hcs,hsz,h1,h2,h4,h3,by first|rfl|trivial⟩
    refine⟨_,vb',?_⟩;rw[dvb,dE];exact bEm r q _ hr (wG hnm dvb vb') h5
   cases ob
  cases h
theorem bWm {all:List Oper} {o:Oper} {f:Operand} {args:List Operand} {K:aN->Prop} (hg:o.guard=none) (hc:aEk o.op=some (f,args)) (h:cY ρ o.dst/\gd (ev ρ f)/\gdL ρ args/\pcA P o.dst (callee (un (ev ρ f)) (evL ρ args)) K ρ): ∃d,bDp P all ρ o d/\K (cO ρ o.dst d):=by
 obtain⟨h1,h2,h3,h4⟩:=h;unfold pcA at h4;split at h4
 ·rename_i fid l kd hcal hdst;obtain⟨hb,r,k1,k2,k3⟩:=h4;refine⟨r,⟨k1,fun k hk=>?_,?_⟩,by rw[hdst,dE];exact k3⟩
  ·rw[hk] at h1;exact h1
  rw[hg];unfold aEk at hc;split at hc<;>cases hc;rename_i args' ts hop;rw[hop];exact⟨h2,h3,fid,l,hcal,hb,k2⟩
 exact h4.elim
def bTt (P:Program) (l:List Oper) (k:aN->Prop):List Oper->aN->Prop
 | [],ρ=>k ρ
 |o::os,ρ=> ∃d,bDp P l ρ o d/\bTt P l k os (cO ρ o.dst d)
theorem cEa {all:List Oper} {k:aN->Prop}: ∀(l:List Oper) (ρ:aN),(∀o∈l,(iJ o.op&&o.dst.isSome)=true)->bKn P all k l ρ->bTt P all k l ρ
 | [],ρ,_,h=>h
 |o::l,ρ,hp,h=>by
  have hrec:=fun ρ'=>cEa (all:=all) (k:=k) l ρ' fun o' ho=>hp o' (by simp[ho]);unfold bKn at h;unfold bTt;split at h
  ·rename_i hg;split at h
   ·rename_i f args hc;obtain⟨d,k1,k2⟩:=bWm (all:=all) hg hc h;exact⟨d,k1,hrec _ k2⟩
   rename_i hc;obtain⟨d,k1,k2⟩:=aDg (all:=all) hg h;exact⟨d,bPx hc k1,hrec _ k2⟩
  rename_i j want hg;split at h
  ·exact h.elim
  rename_i hc;obtain⟨d,k1,k2⟩:=aAf hg (hp o dH) h;exact⟨d,bPx hc k1,hrec _ k2⟩
def aGl (pv S:List Nat):List Oper->List Nat->Bool
 | [],_=>true
 |o::l,seen=>(match o.dst with|some d=> !seen.contains d&&S.contains d&& !pv.contains d|none=>false)&&(zZ pv o).isNone&&aGl pv S l ((o.dst.toList)++seen)
theorem aQf {all:List Oper} {pv S:List Nat} {k:aN->Prop}: ∀(l:List Oper) (seen:List Nat) (ρ:aN),aGl pv S l seen=true->bTt P all k l ρ-> ∃ρf,k ρf/\ ∀s∈seen,ρf s=ρ s
 | [],_,ρ,_,h=>⟨ρ,h,fun _ _=>rfl⟩
 |o::l,seen,ρ,hd,h=>by
  obtain⟨d,_,h2⟩:=h;simp only[aGl,cD] at hd;obtain⟨⟨h3,_⟩,h4⟩:=hd;split at h3
  ·rename_i q hq;simp only[cD,mH] at h3;obtain⟨ρf,k1,k2⟩:=aQf l _ _ h4 h2;refine⟨ρf,k1,fun s hs=>?_⟩;rw[k2 s (by simp[hs]),hq,dE,aK,if_neg];intro e;subst e;rw[aQt.2 hs] at h3;cases h3.1.1
  cases h3
theorem bNy {all:List Oper} {pv S:List Nat} {q:List (Nat×TypeId×Nat)} {asW bs:List Oper} {K:aN->Prop} (hal:bPd pv asW q=true) (hso:bUk pv bs q=true): ∀(l:List Oper) (seen:List Nat) (ρ:aN),aGl pv S l seen=true->nmE pv ρ->
  bTt P all (fun ρ'=>nmF pv S ρ'=true/\bMn P q K ρ') l ρ->bJp P all pv K (l++(asW++bs)) ρ
 | [],_,ρ,_,hnm,h=>bDx (fun ρ' hn hk=>bEm bs q ρ' hso hn hk) asW q ρ hal hnm h.2
 |o::l,seen,ρ,hd,hnm,h=>by
  obtain⟨d,h1,h2⟩:=h;have hd0:=hd;simp only[aGl,cD] at hd;obtain⟨⟨h3,h5⟩,h4⟩:=hd;have hpn:zZ pv o=none:=by simpa using h5
  split at h3
  ·rename_i qd hq;simp only[cD,mH] at h3;obtain⟨ρf,k1,k2⟩:=aQf (S:=S) l _ _ h4 h2;have hval:ρf qd=d:=by rw[k2 qd (by simp[hq]),hq,dE,aK,if_pos rfl]
   have hnd: ∀p∈pv,nmD p d:=fun p hp=>by
    have:=k1.1;unfold nmF at this;rw[dI] at this;have:=dI.1 (this p hp) qd (aQt.1 h3.1.2);rw[pQ,hval] at this;rcases this with e|e
    ·have e:qd=p:=by simpa using e
     subst e;rw[aQt.2 hp] at h3;cases h3.2
    exact e
   have hdv:oM pv o=some qd:=by unfold oM;rw[hpn];exact hq
   have hv:aBa P all pv ρ o d:=⟨fun p hp _=>hnd p hp,by rw[hpn];exact h1⟩;refine⟨d,hv,?_⟩;rw[hdv,dE];rw[hq,dE] at h2;exact bNy hal hso l _ _ h4 (wG hnm hdv hv) h2
  cases h3
def cQj (nt:Nat) (l:List Oper) (pv S r:List Nat) (l1 asW bs:List Oper) (q:List (Nat×TypeId×Nat)):Bool:=
 gM nt l&&l.all (isV pv)&&pv.all (fun p=>decide (p<nt)&&decide (p<100000))&&aXg l pv r (Array.replicate l.length false)&&decide (r.length=l.length)&&bPd pv asW q&&bUk pv bs q&&aGl pv S l1 []&&l1.all (fun o=>iJ o.op&&o.dst.isSome)
def ptA (l:List Oper) (r1:List Nat):List Oper:=r1.filterMap fun i=>l[i]?
theorem aRr: ∀{L:List Nat} {ρ:aN} {s:Nat},s<100000->s∉L->keepC L ρ s=.any
 | [],ρ,s,h,_=>by rw[aFw];unfold hi;rw[if_pos h]
 |l::L,ρ,s,h,hn=>by
  rw[xG,aK,if_neg (fun e=>hn (by simp[e]))];exact aRr h fun q=>hn (by simp[q])
theorem bEq (L pv S r1:List Nat) (ra rb:List Nat) (q:List (Nat×TypeId×Nat)) {id:Nat} {l:List Oper} {Q:Exit->aN->Prop} (hm:P.follows .mixedOrders=true)
  (hr:(cQj nt l pv S (r1++(ra++rb)) (ptA l r1) (ptA l ra) (ptA l rb) q)=true) (hl:(r1++(ra++rb)).map (fun i=>l[i]?)=(ptA l r1++(ptA l ra++ptA l rb)).map some)
  (hn:nmF pv L (keepC L ρ)=true) {l1:List Oper} (hl1:ptA l r1=l1) (h:pwV P l (fun ρ'=>nmF pv S ρ'=true/\bMn P q (Q .normal) ρ') l1 ⟨⟩ (keepC L ρ)):AW P nt (.region id l.toArray true) Q ρ:=by
 subst hl1;simp only[cQj,cD,mV,dR,dI,mH] at hr;obtain⟨⟨⟨⟨⟨⟨⟨⟨h1,h2⟩,h3⟩,h4⟩,h5⟩,h6⟩,h6'⟩,h7⟩,h8⟩:=hr;simp only[gM,cD] at h1;refine cM (Le.keepC L ρ) fun ro ds I A a w hs hd=>wpIn_region_any hm ?_;have hnm:nmE pv (keepC L ρ):=fun p hp s hsp=>by
  rcases b9 s 100000 with hlt|hge
  ·by_cases hsL:s∈L
   ·unfold nmF at hn;have:=dI.1 (dI.1 hn p hp) s hsL;rw[pQ] at this;rcases this with e|e
    ·exact absurd (by simpa using e) hsp
    exact e
   rw[aRr hlt hsL];rfl
  exact aMj (hs.out s hge) (h3 p hp).2
 have hN:=cEa (all:=l) (ptA l r1) (keepC L ρ) (fun o ho=>by rw[cD];exact h8 o ho) h;have hV:=bNy (all:=l) (S:=S) h6 h6' (ptA l r1) [] (keepC L ρ) h7 hnm hN;have hA:=aRg (P:=P) (r1++(ra++rb)) (ptA l r1++(ptA l ra++ptA l rb)) (Array.replicate l.length false) (keepC L ρ) hl h4 hnm hV;rw[h5] at hA;have hE:=bDr (nt:=nt) h1.1 (dI.2 h2) h3 l.length _ _ hnm hA;have hgr:oT w I w.drew I:=⟨rfl,⟨rfl,xJ _⟩,rfl,bW _,fun _ _=>rfl,fun _ h=>h,fun _ h=>.inl h⟩
 have:=aGs (ro:=ro) (Q':=fun e a' w'=> ∃I' A' ρ',dB nt w' I' A' ρ' a'/\a'.defers=ds/\f8 w I A w' I' A'/\Q e ρ') h1.1 _ _ _ I A a w.drew hE (hs.grow hgr) hd
  fun I' A' a' w' ρ' q1 q2 q3 q4=>⟨I',A',ρ',q1,q2,(hgr.ext hs.osim).trans q3,q4⟩
 simpa using this
end
attribute [go_sem] cAb bKp bJy aEk pcA bMn bUt aRj bNw aRh
end Go.Sg
namespace Go.Sg
open Go.RowKit
open Go.Rv (FR)
section
variable {P:Program} {nt:Nat} {ρ:aN} {w:World} {I:Nat->Prop} {A:dD}
theorem dB.frzB {a:Act} (hs:dB nt w I A ρ a) {s:Nat} (hlt:s<100000) {cs:List DV} (h:ρ s=.bx cs) (hp:d6 (fun _=>false) cs=true):
  ∃I' A',dB nt w I' A' (set (d4 s ρ) s (.dp cs)) a/\f8 w I A w I' A':=by
 have ho:=hs.osim.own s;have hsl:=hs.slot s;rw[h] at ho hsl;obtain⟨g,c,us,et,h1,h2,h3,h4,h5⟩:=ho;have hd:=hs.disown hlt;have hm: ∀g',I g'->(I g'\/g'=g):=fun g' hg=>.inl hg;have hmono: ∀(B':dD) d x,bP w I B' d x->bP w (fun g'=>I g'\/g'=g) B' d x:=fun B' d x hr=>hr.mono fun g' hg=>⟨hm g' hg,fun _=>rfl⟩;have hB:g<w.heap.size:=(hs.osim.sep s g c h1).1;refine⟨fun g'=>I g'\/g'=g,kC A s none,⟨⟨fun t=>?_,hd.osim.inj,fun t g' c' hA=>⟨(hd.osim.sep t g' c' hA).1,fun hi=>hi.elim (hd.osim.sep t g' c' hA).2 fun hb=>?_⟩,hs.osim.imm.step (fun g' hg=>hg.elim (hs.osim.imm g') fun e=>e▸hB) fun g' hg=>⟨.inl hg,rfl⟩⟩,hs.size,hs.bound,fun i hi=>?_,fun t ht=>?_⟩,
  ⟨rfl,⟨rfl,bW _⟩,rfl,bW _,hm,fun g' hg hA=>⟨rfl,fun hi=>hi.elim id fun hb=>absurd h1 (by rw[<- hb];exact hA s c),fun t c' ht=>?_⟩,fun t g' c' hA _ ht=>⟨t,c',ht,?_⟩,fun t ht=>fF A _ aV⟩⟩
 ·have:=(hd.osim.own t).keep (I':=fun g'=>I g'\/g'=g) (fun _ _ _=>rfl) hmono;unfold set at this ⊢;split
  ·trivial
  rename_i hne;rw[if_neg hne] at this;exact this
 ·unfold kC at hA;split at hA
  ·cases hA
  rename_i hne;subst hb;exact hne (hs.osim.inj t s g' c' c hA h1)
 ·by_cases hi':i=s
  ·subst hi';obtain⟨g',c',q1,q2⟩:=hsl hi;rw[h1] at q1;simp only[bX,cF] at q1;obtain⟨rfl,rfl⟩:=q1;rw[aK,if_pos rfl,q2];have hcell: ∀j,j<cs.length->us[j]?=some (us.getD j undef):=fun j hj=>by
    rw[oB,iY aV];rfl
   refine .ofRel (.dp _ cs g 0 (fun j=>us.getD j undef) (.inr rfl) (fun j hj=>?_) (fun j hj=>?_) fun j d hd=>?_)
   ·rw[gH,show w.cell? ⟨g,j,none⟩=us[j]? by simp[World.cell?,h2]];exact hcell j hj
   ·exact h4 _ (by
     have:=hcell j hj;rw[<- kK] at this;exact pP this)
   have hj:j<cs.length:=by
    rcases b9 j cs.length with h|h
    ·exact h
    rw[fN h] at hd;cases hd
   exact (hmono _ _ _ (h5 j d _ hd (hcell j hj))).pure (gZ hp hd)
  have:=(hd.slot i hi).keep (I':=fun g'=>I g'\/g'=g) hmono;rw[aK,if_neg hi'] at this ⊢;exact this
 ·have:=hd.out t ht;rw[aK,if_neg aV] at this ⊢;exact this
 ·unfold kC at ht;split at ht
  ·cases ht
  exact hA t c' ht
 unfold kC at hA;split at hA
 ·cases hA
 exact hA
theorem mC (s:Nat) (hlt:(decide (s<100000))=true) {cs:List DV} {c:Code} {Q:Exit->aN->Prop} (h:ρ s=.bx cs) (hp:d6 (fun _=>false) cs=true) (k:AW P nt c Q (set (d4 s ρ) s (.dp cs))):AW P nt c Q ρ:=
 fun ro ds I A a w hw hd=>by
  obtain⟨I',A',h1,h2⟩:=hw.frzB (dK hlt) h hp;exact wpIn_mono (k ro ds I' A' a w h1 hd) fun _ _ _ ⟨I2,A2,ρ2,k1,k2,k3,k4⟩=>⟨I2,A2,ρ2,k1,k2,h2.trans k3,k4⟩
theorem dB.frzO {a:Act} (hs:dB nt w I A ρ a) {s t j:Nat} (hlt:s<100000) (hts:t≠s) (htl:t<100000) {e:TypeId} {z:Nat} {xs:List (List DV)} {cs:List DV} (h:ρ s=.row e z xs) (hb:ρ t=.bx cs) (hj:cs[j]?=some (.own s xs.length)):
  ∃I' A',dB nt w I' A' (set (set (d4 s ρ) s (Sg.frz z xs)) t (.bx ((cs.map (iG s)).set j (Sg.frz z xs)))) a/\f8 w I A w I' A':=by
 have ho:=hs.osim.own s;have hot:=hs.osim.own t;have hsl:=hs.slot s;have hst:=hs.slot t;rw[h] at ho hsl;rw[hb] at hot hst;obtain⟨B,c,h1,h2⟩:=ho;have hd:=hs.disown hlt;have hm: ∀g,I g->(I g\/B=some g):=fun g hg=>.inl hg;have hmono: ∀(B':dD) d x,bP w I B' d x->bP w (fun g=>I g\/B=some g) B' d x:=fun B' d x hr=>hr.mono fun g hg=>⟨hm g hg,fun _=>rfl⟩;have hB: ∀g,B=some g->g<w.heap.size:=fun g hg=>(hs.osim.sep s g c (by rw[h1,hg])).1;refine⟨fun g=>I g\/B=some g,kC A s none,⟨⟨fun t'=>?_,hd.osim.inj,fun t' g c' hA=>⟨(hd.osim.sep t' g c' hA).1,fun hi=>hi.elim (hd.osim.sep t' g c' hA).2 fun hb=>?_⟩,hs.osim.imm.step (fun g hg=>hg.elim (hs.osim.imm g) (hB g)) fun g hg=>⟨.inl hg,rfl⟩⟩,hs.size,hs.bound,fun i hi=>?_,fun t' ht=>?_⟩,
  ⟨rfl,⟨rfl,bW _⟩,rfl,bW _,hm,fun g hg hA=>⟨rfl,fun hi=>hi.elim id fun hb=>absurd h1 (by rw[hb];exact hA s c),fun t' c' ht=>?_⟩,fun t' g c' hA _ ht=>⟨t',c',ht,?_⟩,fun t' ht=>fF A _ aV⟩⟩
 ·by_cases e1:t'=t
  ·subst e1;rw[aK,if_pos rfl];obtain⟨g,c1,us,et,q1,q2,q3,q4,q5⟩:=hot;refine⟨g,c1,us,et,(fF A _ hts).trans q1,q2,by rw[q3];simp,q4,fun j' d u hd' hu=>?_⟩;rw[List.getElem?_set] at hd';split at hd'
   ·rename_i e2;subst e2;split at hd'
    ·cases hd';have:=q5 j _ u hj hu;cases this with
     |own _ _ _ B' c' b hA' hbb=>
      rw[h1] at hA';simp only[bX,cF] at hA';obtain⟨rfl,rfl⟩:=hA';exact h2.frz (fun g hg=>.inr hg) hm hbb
    cases hd'
   rw[dG,gC] at hd';obtain⟨d0,k1,k2⟩:=hd';subst k2;have r0:=q5 j' d0 u k1 hu;unfold iG;split
   ·rename_i hall;refine hmono _ _ _ (r0.congrA (fun x=>x !=s) hall fun x hx=>?_);exact fF A _ (by simpa using hx)
   exact .any _ _
  have:=(hd.osim.own t').keep (I':=fun g=>I g\/B=some g) (fun _ _ _=>rfl) hmono;rw[aK,if_neg e1];unfold set at this ⊢;split
  ·trivial
  rename_i hne;rw[if_neg hne] at this;exact this
 ·unfold kC at hA;split at hA
  ·cases hA
  rename_i hne;exact hne (hs.osim.inj t' s g c' c hA (by rw[h1,hb]))
 ·by_cases e1:i=t
  ·subst e1;rw[aK,if_pos rfl];obtain⟨g,c1,q1,q2⟩:=hst hi;exact⟨g,c1,(fF A _ hts).trans q1,q2⟩
  rw[aK,if_neg e1];by_cases hi':i=s
  ·subst hi';obtain⟨B',c',q1,b,hb',q2⟩:=hsl hi;rw[h1] at q1;simp only[bX,cF] at q1;obtain⟨rfl,rfl⟩:=q1;rw[aK,if_pos rfl,q2];exact h2.frz (fun g hg=>.inr hg) hm hb'
  have:=(hd.slot i hi).keep (I':=fun g=>I g\/B=some g) hmono;rw[aK,if_neg hi'] at this ⊢;exact this
 ·have:=hd.out t' ht;rw[aK,if_neg aV,aK,if_neg aV];rw[aK,if_neg aV] at this;exact this
 ·unfold kC at ht;split at ht
  ·cases ht
  exact hA t' c' ht
 unfold kC at hA;split at hA
 ·cases hA
 exact hA
theorem bXw (s t j:Nat) (hlt:(decide (s<100000)&&decide (t<100000)&&t !=s)=true) {e:TypeId} {z:Nat} {xs:List (List DV)} {cs:List DV} {c:Code} {Q:Exit->aN->Prop} (h:ρ s=.row e z xs) (hb:ρ t=.bx cs) (hj:cs[j]?=some (.own s xs.length))
  (k:AW P nt c Q (set (set (d4 s ρ) s (Sg.frz z xs)) t (.bx ((cs.map (iG s)).set j (Sg.frz z xs))))):AW P nt c Q ρ:=
 fun ro ds I A a w hw hd=>by
  simp only[cD,dR,bne_iff_ne] at hlt;obtain⟨I',A',h1,h2⟩:=hw.frzO hlt.1.1 hlt.2 hlt.1.2 h hb hj;exact wpIn_mono (k ro ds I' A' a w h1 hd) fun _ _ _ ⟨I2,A2,ρ2,k1,k2,k3,k4⟩=>⟨I2,A2,ρ2,k1,k2,h2.trans k3,k4⟩
theorem bHy {O:aN} {f:FuncId} {d d' r:DV} (h:eK d d') (hc:aZ P O f [d'] r):aZ P O f [d] r:=
 fun w I A vals h1 h2 h3=>hc w I A vals h1 h2 fun j x u hx hu=>by
  cases j with
  |zero=>simp at hx;subst hx;exact h _ _ _ _ (h3 0 d u rfl hu)
  |succ j=>simp at hx
theorem aGx {w:World} {t ty e:TypeId} {i:TypeInfo} (ht:P.underlying t=some (.slice e)) (hi:P.info? e=some i)
  {g sLen sCap:Nat} {cur:Array Value} {e2:TypeId} (hg:w.heap[g]?=some (.cells cur e2 (0,0)))
  {a:Addr} {m c:Nat} {news:List Value} (hl:news.length=m*i.size) (hnews: ∀j u,news[j]?=some u->w.cell? (a.add j)=some u) (h1: ∀u∈news,u.oneCell'=true)
  (hroom:sLen+m<=sCap) (hfit:sLen*i.size+news.length<=cur.size):
  (Builtin.append_ #[t,t] ty #[.slice (some ⟨g,0,none⟩) sLen sCap,.slice (some a) m c]).run P w=
   .ok (.slice (some ⟨g,0,none⟩) (sLen+m) sCap) (w.setRow g (cur.toList.take (sLen*i.size)++news++cur.toList.drop (sLen*i.size+news.length)).toArray):=by
 have hf:=run_firstCells_some (P:=P) w i.size m a m c news hl hnews;have hst:=run_storeCells_at P g (sLen*i.size) e2 news 0 cur w hg (by simpa using hfit) h1;simp only[iD] at hst;simp[Builtin.append_,run_underlying ht,sizeOf,typeInfo,hi,Builtin.lenOf,hroom,hf,Addr.add_lit,hst]
theorem bPb {ops:Array Oper} {o:Oper} {K:aN->Prop} {t:TypeId} {x y:Operand} {d s n:Nat} {e:TypeId} {by_:Nat} {xs:List (List DV)} (hop:o.op=.call ⟨.builtin .append,#[x,y],#[t,t]⟩) (hg:o.guard=none) (hdst:o.dst=some d) (hd:d<nt)
  (ho:eJ nt o=true) (hx:ev ρ x=.own s n) (hρ:ρ s=.row e 1 xs) (hn:n<xs.length) (hy:gd (ev ρ y)) (hsl:nE P t=some (e,1,by_))
  (hsrc:aDr ρ 1 (un (ev ρ y))) {q:List DV} (hq:qD ρ (un (ev ρ y))=[q])
  (hK:K (set (set ρ s (.row e 1 (xs.set n q))) d (.own s (n+1)))):OW P nt ops o K ρ:=by
 refine iF hg fun I A a w hsim=>?_;have hxr:=hsim.opd x (bM ho (by simp[hop,Op.operands,Call.operands])) (by rw[hx];trivial);rw[hx] at hxr;have hxr:bP w I A (.own s n) (a.eval x):=hxr;have hyr:=hsim.opd y (bM ho (by simp[hop,Op.operands,Call.operands])) hy;obtain⟨b,m,c,hye,hsl',hsrc'⟩:=aSb hsim hyr hsrc;rw[hq] at hsl' hsrc';obtain rfl:m=1:=by simpa using hsl'.symm
 generalize hxe:a.eval x=v at hxr;have hown:=hsim.osim.own s;rw[hρ] at hown;obtain⟨B,cc,hA,hrow⟩:=hown;obtain⟨hu,i,hi,hz1,_⟩:=lC hsl;cases hxr with
 |own _ _ _ B' c' b' hA' hb'=>
  rw[hA] at hA';simp only[bX,cF] at hA';obtain⟨rfl,rfl⟩:=hA';cases B with
  |none=>obtain⟨rfl,rfl⟩:=hrow;simp at hn
  |some g=>
   obtain rfl:=iX hb';obtain⟨us,q1,q2,q3,q4,q5⟩:=hrow;rcases hsrc' with ⟨_,h⟩|⟨ad,news,rfl,h1,h2,h3,h4⟩
   ·omega
   obtain⟨u0,rfl⟩: ∃u0,news=[u0]:=by
    match news,h1 with
    | [u0],_=>exact⟨u0,rfl⟩
   have hrun:=aGx (P:=P) (ty:=o.type) hu hi q1 (sLen:=n) (sCap:=cc) (m:=1) (c:=c) (news:=[u0]) (by simp[hz1]) h2 h3 aV (by rw[q2,hz1];simp;omega);rw[hz1] at hrun;simp only[Nat.mul_one,aBo] at hrun;generalize hnew:(us.toList.take n++[u0]++us.toList.drop (n+1)).toArray=new at hrun;have hus:us.size=cc:=by rw[q2];omega
   have hI: ∀{B:dD} {d:DV} {v:Value},bP w I B d v->bP (w.setRow g new) I B d v:=fun hr=>
    hr.mono fun g' hg'=>⟨hg',fun o=>eD (setRow_other w g g' _ (fun e=>(hsim.osim.sep s g cc hA).2 (e▸hg'))) o⟩
   have hget: ∀j,new[j]?=if j=n then some u0 else us[j]?:=fun j=>by
    subst hnew;simp only[tB,xR,tH,iO,xT,qP (show n<=us.size by omega),aBo];by_cases e1:j<n
    ·rw[if_pos e1,if_neg aV,oR,if_pos e1,kK]
    rw[if_neg e1];by_cases e2:j=n
    ·subst e2;rw[if_pos rfl,if_pos aV];simp
    rw[if_neg e2,if_neg aV,sC,kK];congr 1;omega
   refine⟨.slice (some ⟨g,0,none⟩) (n+1) cc,w.setRow g new,I,A,_,?_,?_,f8.turn hA new,hK⟩
   ·simp only[execOp,hop,resolve,Sem.run_bind,Sem.run_pure,Result.andThen_ok,invoke,builtin,List.map_toArray,kH,sI,hxe,hye];rw[hrun];rfl
   rw[hdst];refine (hsim.turn hA q1 (us:=new) (v:=.row e 1 (xs.set n q)) (fun v hv=>?_) ?_ fun _=>rfl).put hd (.ofRel (.own A s (n+1) (some g) cc _ hA (sY _))) trivial
   ·rw[hρ] at hv;obtain⟨B2,c2,r1,b2,r2,r3⟩:=hv;exact⟨B2,c2,r1,b2,r2,by rw[r3,aDh]⟩
   refine⟨some g,cc,hA,new,setRow_heap w g us _ e _ q1,?_,q3,by rw[aDh];exact q4,fun k y hk=>?_⟩
   ·subst hnew;simp;omega
   by_cases e1:n=k
   ·subst e1;rw[List.getElem?_set_self hn] at hk;cases hk;obtain⟨r1,r2⟩:=h4 0 q dH;refine⟨r1,fun j d' u hd' hu'=>?_⟩;have hj:j<1:=by
     rw[<- r1];rcases b9 j q.length with h|h
     ·exact h
     rw[fN h] at hd';cases hd'
    obtain rfl:j=0:=by omega
    rw[hget,if_pos aV] at hu';cases hu';exact⟨h3 u0 dH,hI (r2 0 d' u0 hd' dH)⟩
   rw[List.getElem?_set_ne e1] at hk;obtain⟨r1,r2⟩:=q5 k y hk;refine⟨r1,fun j d' u hd' hu'=>?_⟩;have hj:j<1:=by
    rw[<- r1];rcases b9 j y.length with h|h
    ·exact h
    rw[fN h] at hd';cases hd'
   rw[hget,if_neg aV] at hu';exact⟨(r2 j d' u hd' hu').1,hI (r2 j d' u hd' hu').2⟩
theorem dB.ghost {a:Act} (hs:dB nt w I A ρ a) {d:Nat} (hd:nt<=d) (hd2:d<100000) {B:Option Nat} {c:Nat} {v:DV}
  (hB: ∀g,B=some g->g<w.heap.size/\ ¬I g/\ ∀s c',A s≠some (some g,c')) (ho:fW w I (kC A d (some (B,c))) d v):
  dB nt w I (kC A d (some (B,c))) (set (d4 d ρ) d v) a where
 osim:=by
  have hA: ∀t,t≠d->kC A d (some (B,c)) t=A t:=fun t h=>fF A _ h;refine⟨fun s=>?_,fun s t g c1 c2 h1 h2=>?_,fun s g c1 h1=>?_,hs.osim.imm⟩
  ·unfold set;split
   ·rename_i h;rw[h];exact ho
   rename_i h;rw[fT hd2 (hs.out s)];exact (hs.osim.own s).reown h hA
  ·unfold kC at h1 h2;split at h1<;>split at h2
   ·simp_all
   ·simp only[bX,cF] at h1;exact absurd h2 ((hB g h1.1).2.2 t c2)
   ·simp only[bX,cF] at h2;exact absurd h1 ((hB g h2.1).2.2 s c1)
   exact hs.osim.inj s t g c1 c2 h1 h2
  unfold kC at h1;split at h1
  ·simp only[bX,cF] at h1;exact⟨(hB g h1.1).1,(hB g h1.1).2.1⟩
  exact hs.osim.sep s g c1 h1
 size:=hs.size
 bound:=hs.bound
 slot:=fun i hi=>by
  unfold set;rw[if_neg aV,fT hd2 (hs.out i)];exact (hs.slot i hi).reown aV fun t ht=>fF A _ ht
 out:=fun s h=>by
  unfold set;rw[if_neg aV,fT hd2 (hs.out s)];exact l3 (hs.out s h)
theorem cLi {ops:Array Oper} {o:Oper} {gh:Nat} {K:aN->Prop} {t:TypeId} {x y:Operand} {d:Nat} {e:TypeId} {z by_:Nat} {zs:List Value} {k k':IntKind} {n c:Int} (hop:o.op=.makeSlice t x y) (hg:o.guard=none) (hdst:o.dst=some d) (hd:d<nt) (hg1:nt<=gh) (hg2:gh<100000)
  (ho:eJ nt o=true) (hx:ev ρ x=.v (.int k n)) (hn0:n=0) (hy:ev ρ y=.v (.int k' c)) (hs:nE P t=some (e,z,by_)) (hz:eW P e=some zs) (hzl:zs.length=z) (h0:0<=n) (h1:n<=c) (h2:c<=9223372036854775807)
  (h3:c*by_<=140737488355328) (hK:K (set (set (d4 gh ρ) gh (.row e z (List.replicate c.toNat (zs.map .v)))) d (.own gh 0))):OW P nt ops o K ρ:=by
 obtain⟨hu,i,hi,rfl,rfl⟩:=lC hs;obtain⟨i',zv,hi',hzv,rfl,hone⟩:=lQ hz;rw[hi] at hi';cases hi';refine iF hg fun I A a w hsim=>?_;have hxr:=hsim.opd x (bM ho (by simp[hop,Op.operands])) (by rw[hx];trivial);have hyr:=hsim.opd y (bM ho (by simp[hop,Op.operands])) (by rw[hy];trivial);rw[hx] at hxr;rw[hy] at hyr;have hxe:a.eval x=.int k n:=by
  have hxr:bP w I A (.v (.int k n)) (a.eval x):=hxr;generalize a.eval x=q at hxr ⊢;cases hxr;rfl
 have hye:a.eval y=.int k' c:=by
  have hyr:bP w I A (.v (.int k' c)) (a.eval y):=hyr;generalize a.eval y=q at hyr ⊢;cases hyr;rfl
 have hwn:IntKind.i64.wrap n=n:=IntWalk.i64_in n ⟨by omega,by omega⟩;have hwc:IntKind.i64.wrap c=c:=IntWalk.i64_in c ⟨by omega,by omega⟩;have hzs:zv.cells.size=i.size:=by simpa using hzl
 obtain⟨us,husd⟩: ∃us:Array Value,us=(Array.range (c.toNat*i.size)).map (zv.cells[· %zv.cells.size]!):=⟨_,rfl⟩;have hus:us.size=c.toNat*i.size:=by simp[husd]
 have hget: ∀m r,m<c.toNat->r<i.size->us[m*i.size+r]?=zv.cells[r]?:=fun m r hm hr=>by
  have hlt:m*i.size+r<c.toNat*i.size:=by
   have:(m+1)*i.size<=c.toNat*i.size:=gF _ aV;rw[jV] at this;omega
  have e1:(m*i.size+r)%zv.cells.size=r:=by rw[hzs,oE,Nat.mul_add_mod,aGy hr]
  simp only[husd,aZi,Array.getElem?_range,hlt,if_true,gG,e1];rw[iY aV,rU _ _ aV]
 have hrun:(execOp a.eval o).run P w=.ok (.value (.slice (some ⟨w.heap.size,0,none⟩) n.toNat c.toNat)) (w.alloc (.cells us e)):=by
  simp only[execOp,hop,hxe,hye,Instr.makeSlice,asInt,asIntOf,Sem.run_bind,run_underlying hu,Result.andThen_ok,Sem.run_pure,run_typeInfo w hi,hwn,hwc,run_askRoom,run_sizeOf w hi,Program.cellsOf,hi,gG,iE];have hcond:(decide (c<0)||decide ((i.bytes:Int)*c>2^48)||decide (n<0)||decide (n>c))=false:=by
   have hc48:(i.bytes:Int)*c<=140737488355328:=by rw[Int.mul_comm];exact h3
   have e48:(2:Int)^48=281474976710656:=by decide
   simp only[uL,tD,e48];omega
  rw[hcond,if_neg dH];simp only[Sem.run_bind,run_askRoom,Result.andThen_ok,run_sizeOf w hi,Program.cellsOf,hi,gG,iE];by_cases hzero:c.toNat*i.size=0
  ·have he:us= #[]:=by
    apply aZw;rw[hus,hzero]
   rw[if_pos hzero,he];simp[newRow,hzero,Array.range_zero']
  rw[if_neg hzero];simp[zeroValue,run_typeInfo w hi,hzv,newRow,husd]
 have hb:=hsim.bound;have hgr:=oT.alloc hsim.osim (.cells us e);have hs1:=hsim.grow hgr;have hrow:jX (w.alloc (.cells us e)) I e i.size (List.replicate c.toNat (zv.cells.toList.map .v)) (some w.heap.size) c.toNat:=by
  refine⟨us,heap_alloc_new w _,hus,by unfold maxLen;omega,by simp,fun m x hx=>?_⟩;rw[List.getElem?_replicate] at hx;split at hx<;>cases hx;rename_i hm;refine⟨by simp[hzs],fun r dv u hd hu=>?_⟩;simp only[dG,gC,kK] at hd;obtain⟨q,hq,rfl⟩:=hd;have hr:r<i.size:=by
   rw[<- hzs];rcases b9 r zv.cells.size with h|h
   ·exact h
   rw[aJt h] at hq;cases hq
  rw[hget m r hm hr,hq] at hu;cases hu;exact⟨hone _ (by simpa using tQ hq),.v _ _⟩
 have hs2:=hs1.ghost hg1 hg2 (B:=some w.heap.size) (c:=c.toNat) (v:=.row e i.size (List.replicate c.toNat (zv.cells.toList.map .v))) (fun b hb'=>by
  cases hb';refine⟨by simp,fun hi=>?_,fun s c' hc=>?_⟩
  ·have:=hsim.osim.imm _ hi;omega
  have:=(hsim.osim.sep s _ c' hc).1;omega) ⟨_,_,dJ _ _ _,hrow⟩
 subst hn0;refine⟨_,_,I,kC A gh (some (some w.heap.size,c.toNat)),_,hrun,?_,?_,hK⟩
 ·rw[hdst];exact hs2.put hd (.ofRel (.own _ gh 0 (some w.heap.size) c.toNat _ (dJ _ _ _) (sY _))) trivial
 refine⟨rfl,⟨rfl,bW _⟩,rfl,by simp,fun _ h=>h,fun g hg hA=>⟨hgr.heap g hg,fun h=>h,fun s c hc=>?_⟩,fun s g c hc hg hl'=>?_,fun s h=>fF A _ aV⟩
 ·rcases cZ hc with ⟨_,h⟩|⟨_,h⟩
  ·simp only[bX,cF] at h;omega
  exact hA s c h
 rcases cZ hc with ⟨_,h⟩|⟨_,h⟩
 ·simp only[bX,cF] at h;omega
 exact⟨s,c,hl',h⟩
end
end Go.Sg
namespace Go.Sg
open Go.RowKit
open Go.Rv (FR)
def cQo (O:aN) (w:World) (I:Nat->Prop) (A:dD) (B:Option Nat) (e:TypeId) (z:Nat) (R:List (List DV)->Prop) (en:Ending) (w':World):Prop:=
 ∃(b:Option Addr) (I':Nat->Prop) (ys:List (List DV)) (B':Option Nat) (c':Nat),en=.returned (.slice b ys.length c')/\mU B' b/\jI w' I' A O/\jX w' I' e z ys B' c'/\R ys/\
  w'.os=w.os/\(w'.tape=w.tape/\w.drawn<=w'.drawn)/\w'.output=w.output/\w.heap.size<=w'.heap.size/\(∀g,I g->I' g)/\
  (∀g,g<w.heap.size->(∀s c,A s≠some (some g,c))->B≠some g->w'.heap[g]?=w.heap[g]?/\(I' g->I g))/\
  ∀g,B'=some g->(w.heap.size<=g\/B=some g)/\g<w'.heap.size/\ ¬I' g/\ ∀s c,A s≠some (some g,c)
def aQp (P:Program) (O:aN) (f:FuncId) (args:List DV) (j:Nat) (e:TypeId) (z:Nat) (xs:List (List DV)) (R:List (List DV)->Prop):Prop:=
 ∀(w:World) (I:Nat->Prop) (A:dD) (vals:Array Value) (B:Option Nat) (c:Nat) (b:Option Addr),jI w I A O->vals.size=args.length->
  (∀(i:Nat) (d:DV) (u:Value),args[i]?=some d->vals[i]?=some u->bP w I A d u)->vals[j]?=some (.slice b xs.length c)->mU B b->jX w I e z xs B c->
  (∀g,B=some g->g<w.heap.size/\ ¬I g/\ ∀s c',A s≠some (some g,c'))->Calls P f vals w (cQo O w I A B e z R)
def cEb (P:Program) (fn:Func) (O:aN) (e:TypeId) (z:Nat) (R:List (List DV)->Prop):Exit->aN->Prop
 | .ret,ρ| .normal,ρ=>hi ρ=bS O/\ ∃t ys,fn.results.toList=[.tmp t]/\t<fn.ntmps/\(ρ t=.row e z ys\/ ∃s n xs,ρ t=.own s n/\s<100000/\ρ s=.row e z xs/\n<=xs.length/\ys=xs.take n)/\R ys
 |_,_=>False
theorem aYe {P:Program} {f:FuncId} {fn:Func} {cd:Code} {O:aN} {args:List DV} {j g:Nat} {e:TypeId} {z:Nat} {xs:List (List DV)} {R:List (List DV)->Prop} (hf:P.funcs[f]?=some fn) (hb:fn.body=some cd)
  (hn:(decide (args.length<=fn.ntmps)&&decide (fn.ntmps<=g)&&decide (g<100000)&&decide (j<args.length))=true) (hj:args[j]?=some .any)
  (h:AW P fn.ntmps cd (cEb P fn O e z R) (set (set (nF O args) g (.row e z xs)) j (.own g xs.length))):aQp P O f args j e z xs R:=by
 intro w I A vals B c b hO hl hv hx hbb hrow hfree;simp only[cD,dR] at hn;obtain⟨⟨⟨hn1,hg1⟩,hg2⟩,hn3⟩:=hn;have hs0:=dB.enter hO hl hn1 aV hv;have hfree': ∀g,B=some g->g<w.heap.size/\ ¬I g/\ ∀s c',cG A s≠some (some g,c'):=fun g hg=>by
  obtain⟨q1,q2,q3⟩:=hfree g hg;refine⟨q1,q2,fun s c' hc=>?_⟩;unfold cG at hc;split at hc
  ·cases hc
  exact q3 _ _ hc
 have hjn:j<fn.ntmps:=by omega
 have hget:({tmps:=vals++Array.replicate (fn.ntmps-vals.size) undef,defers:=[]}:Act).tmps.getD j undef=.slice b xs.length c:=by
  have hjv:j<vals.size:=by omega
  simp only[oB,bCm,if_pos hjv,hx];rfl
 have hs1:=hs0.ghost (d:=g) hg1 hg2 (B:=B) (c:=c) (v:=.row e z xs) hfree' ⟨B,c,dJ _ _ _,hrow⟩;have hkill:set (d4 g (nF O args)) g (.row e z xs)=set (nF O args) g (.row e z xs):=by
  funext s;simp only[aK];split
  ·rfl
  rw[wQ];split
  ·rename_i hs;rw[uP];split
   ·unfold uN;rw[if_pos (aMj (aFb _) aV)]
   rw[nG O hs];rfl
  rfl
 rw[hkill] at hs1;have hs1:=hs1.put (d:=j) (v:=.own g xs.length) (x:=.slice b xs.length c) hjn (.ofRel (.own _ g xs.length B c b (dJ _ _ _) hbb)) trivial;rw[aLd (by rw[hs0.size];exact hjn) hget] at hs1;refine calls_of_wp hf hb (wp_mono (wpIn_wide.1 (Go.Rv.w8▸h none [] I _ _ w hs1 rfl)) ?_);intro en a' w' ⟨I',A',ρ',k1,k2,k3,k4⟩
 have fin:(hi ρ'=bS O/\ ∃t ys,fn.results.toList=[.tmp t]/\t<fn.ntmps/\(ρ' t=.row e z ys\/ ∃s n xs,ρ' t=.own s n/\s<100000/\ρ' s=.row e z xs/\n<=xs.length/\ys=xs.take n)/\R ys)->
   ∃v,(results fn a'.tmps).run P w'=.ok v w'/\cQo O w I A B e z R (.returned v) w':=by
  rintro⟨q0,t,ys,q1,q2,q3,q4⟩;have hres:fn.results= #[.tmp t]:=by apply aJm;rw[q1]
  have hA': ∀s,A' (s+100000)=A s:=fun s=>by rw[k3.outA _ aV,fF _ _ aV,d7]
  have hfun:(fun s=>A' (s+100000))=A:=funext hA';have hO':jI w' I' A O:=⟨fun s=>by
   have:=k1.osim.own (s+100000);rw[iK q0] at this;have:=this.outof (s:=s) rfl
   rwa [hfun] at this,hO.inj,fun s g c hA=>k1.osim.sep (s+100000) g c ((hA' s).trans hA),k1.osim.imm⟩
  have hblk: ∀s g c',s<100000->A' s=some (some g,c')->(w.heap.size<=g\/B=some g)/\g<w'.heap.size/\ ¬I' g/\ ∀s c,A s≠some (some g,c):=fun s g c' hs hAs=>by
   obtain⟨r1,r2⟩:=k1.osim.sep s g c' hAs;refine⟨?_,r1,r2,fun s' c'' hc=>?_⟩
   ·rcases b9 g w.heap.size with hlt|hge
    ·obtain⟨t',c2,ht',hAt⟩:=k3.loc s g c' hAs hlt hs;rcases cZ hAt with ⟨_,h⟩|⟨_,h⟩
     ·simp only[bX,cF] at h;exact .inr h.1
     unfold cG at h;rw[if_pos ht'] at h;cases h
    exact .inl hge
   have:=k1.osim.inj s (s'+100000) g c' c'' hAs ((hA' s').trans hc);omega
  have hrest:w'.os=w.os/\(w'.tape=w.tape/\w.drawn<=w'.drawn)/\w'.output=w.output/\w.heap.size<=w'.heap.size/\(∀g,I g->I' g)/\
    (∀g,g<w.heap.size->(∀s c,A s≠some (some g,c))->B≠some g->w'.heap[g]?=w.heap[g]?/\(I' g->I g)):=
   ⟨k3.os,k3.tape,k3.output,k3.size,k3.imm,fun g hg hA hB=>by
    obtain⟨e1,e2,_⟩:=k3.old g hg fun s c' hc=>by
     rcases cZ hc with ⟨_,h⟩|⟨_,h⟩
     ·simp only[bX,cF] at h;exact hB h.1
     unfold cG at h;split at h
     ·cases h
     exact hA _ _ h
    exact⟨e1,e2⟩⟩
  refine⟨_,results_tmp hres _ P w',?_⟩;have hsl:=k1.slot t q2;have ho:=k1.osim.own t;have ht:t<100000:=eE q2 k1.bound;rcases q3 with q3|⟨s,n,xs',q3,q5,q6,q7,rfl⟩
  ·rw[q3] at hsl ho;obtain⟨B1,c1,hA1,b1,hb1,hx1⟩:=hsl;obtain⟨B2,c2,hA2,hr2⟩:=ho;rw[hA1] at hA2;simp only[bX,cF] at hA2;obtain⟨rfl,rfl⟩:=hA2;exact⟨b1,I',ys,B1,c1,by rw[hx1],hb1,hO',hr2,q4,hrest.1,hrest.2.1,hrest.2.2.1,hrest.2.2.2.1,hrest.2.2.2.2.1,hrest.2.2.2.2.2,fun g hg=>hblk t g c1 ht (by rw[hA1,hg])⟩
  have ho2:=k1.osim.own s;rw[q3] at hsl;rw[q6] at ho2;obtain⟨B2,c2,hA2,hr2⟩:=ho2;generalize a'.tmps.getD t undef=x at hsl ⊢;have hsl:bP w' I' A' (.own s n) x:=hsl;cases hsl with
  |own _ _ _ B1 c1 b1 hA1 hb1=>
   rw[hA1] at hA2;simp only[bX,cF] at hA2;obtain⟨rfl,rfl⟩:=hA2;have hlen:(xs'.take n).length=n:=by rw[iO];omega
   refine⟨b1,I',xs'.take n,B1,c1,by rw[hlen],hb1,hO',?_,q4,hrest.1,hrest.2.1,hrest.2.2.1,hrest.2.2.2.1,hrest.2.2.2.2.1,hrest.2.2.2.2.2,fun g hg=>hblk s g c1 q5 (by rw[hA1,hg])⟩;unfold jX at hr2 ⊢;cases B1 with
   |none=>obtain⟨rfl,rfl⟩:=hr2;exact⟨by simp,rfl⟩
   |some g=>
    obtain⟨us,p1,p2,p3,p4,p5⟩:=hr2;refine⟨us,p1,p2,p3,by rw[hlen];omega,fun i x hx=>?_⟩;rw[oR] at hx;split at hx
    ·exact p5 i x hx
    cases hx
 cases en with
 |normal=>exact⟨k2,fin k4⟩
 |ret=>exact⟨k2,fin k4⟩
 |_=>exact k4.elim
section
variable {P:Program} {nt:Nat} {ρ:aN}
theorem aWd (zc:Array Value) (m:Nat) (hz:0<zc.size) {k r:Nat} (hk:k<m) (hr:r<zc.size):(Builtin.zeroCells zc m)[k*zc.size+r]?=zc[r]?:=by
 have hlt:k*zc.size+r<m*zc.size:=by
  have:(k+1)*zc.size<=m*zc.size:=gF _ hk;rw[jV] at this;omega
 have e1:(k*zc.size+r)%zc.size=r:=by rw[oE,Nat.mul_add_mod,aGy hr]
 unfold Builtin.zeroCells;simp only[aZi,Array.getElem?_range,hlt,if_true,gG,e1];rw[iY hr,rU zc r hr]
theorem aGp (zc:Array Value) (m:Nat):(Builtin.zeroCells zc m).size=m*zc.size:=by unfold Builtin.zeroCells;simp
theorem aTi {id x y d1 d2 d3:Nat} {t ty1 ty2 ty3 ty4:TypeId} {p1 p2 p3 p4:String} {a1 a2 a3 a4:Array Edge} {Q:Exit->aN->Prop} {s n i:Nat} {e:TypeId} {z by_:Nat} {zs:List Value} {xs:List (List DV)}
  (hck:(decide (x<nt)&&decide (y<nt)&&decide (d1<nt)&&decide (d2<nt)&&decide (d3<nt)&&d1 !=d2&&d1 !=d3&&d2 !=d3&&d1 !=y&&decide (100000<=s))=true)
  (hx:ρ x=.own s n) (hy:ρ y=.v (.int .i64 i)) (hρ:ρ s=.row e z xs) (hlen:xs.length=n) (hin:i<=n) (hsl:nE P t=some (e,z,by_)) (hz:eW P e=some zs) (hz0:0<z) (hzl:zs.length=z)
  (h:Q .normal (set (set (set (set ρ d1 (.own s n)) d2 (.v (.int .i64 i))) d3 .any) s (.row e z (xs.take i++List.replicate (n-i) (zs.map .v))))):
  AW P nt (.region id [⟨some d1,.move (.tmp x),ty1,p1,a1,none⟩,⟨some d2,.move (.tmp y),ty2,p2,a2,none⟩,⟨some d3,.slice t (.tmp d1) (some (.tmp d2)) none none,ty3,p3,a3,none⟩,⟨none,.call ⟨.builtin .clear,#[.tmp d3],#[t]⟩,ty4,p4,a4,none⟩].toArray false) Q ρ:=by
 simp only[cD,dR,bne_iff_ne] at hck;obtain⟨⟨⟨⟨⟨⟨⟨⟨⟨c1,c2⟩,c3⟩,c4⟩,c5⟩,c6⟩,c7⟩,c8⟩,c9⟩,c10⟩:=hck;obtain⟨hu,ti,hi,hz1,_⟩:=lC hsl;obtain⟨i',zv,hi',hzv,rfl,hone⟩:=lQ hz;rw[hi] at hi';cases hi';have hzs:zv.cells.size=z:=by simpa using hzl
 intro ro ds I A a w hs hd;have hnt:=hs.bound;have hxs:=hs.slot x c1;have hys:=hs.slot y c2;rw[hx] at hxs;rw[hy] at hys;obtain⟨v,hv⟩: ∃v,a.tmps.getD x undef=v:=⟨_,rfl⟩;have hys':a.tmps.getD y undef=.int .i64 i:=by
  generalize a.tmps.getD y undef=q at hys;have hys:bP w I A (.v (.int .i64 i)) q:=hys;cases hys;rfl
 rw[hv] at hxs;have hxs:bP w I A (.own s n) v:=hxs;have hown:=hs.osim.own s;rw[hρ] at hown;obtain⟨B,c,hA,hrow⟩:=hown;have hs1:=hs.put (d:=d1) (v:=.own s n) (x:=v) c3 (.ofRel hxs) trivial;have hs2:=hs1.put (d:=d2) (v:=.v (.int .i64 i)) (x:=.int .i64 i) c4 (.ofRel (.v A _)) trivial;refine wpIn_region_lit ?_;refine wpListIn_step fun _ Z1=>?_;rw[if_pos (by simp[Region.wanted])];refine oO (x:=v) (w':=w) (by simp[execOp,Act.eval,<- hv]) (Z1 _ _ ?_);refine wpListIn_step fun _ Z2=>?_;rw[if_pos (by simp[Region.wanted])];have hg1:(a.put (some d1) v).tmps.getD y undef=.int .i64 i:=by rw[tA a d1 y v (by rw[hs.size];exact c3),if_neg (fun q=>c9 q.symm)];exact hys'
 refine oO (x:=.int .i64 i) (w':=w) (by simp[execOp,Act.eval] at hg1 ⊢;simpa using hg1) (Z2 _ _ ?_);refine wpListIn_step fun _ Z3=>?_;rw[if_pos (by simp[Region.wanted])];have e1:((a.put (some d1) v).put (some d2) (.int .i64 i)).eval (.tmp d1)=v:=by
  show (((a.put (some d1) v).put (some d2) (.int .i64 i)).tmps.getD d1 undef)=v;rw[tA _ d2 d1 _ (by rw[hs1.size];exact c4),if_neg c6,tA a d1 d1 v (by rw[hs.size];exact c3),if_pos rfl]
 have e2:((a.put (some d1) v).put (some d2) (.int .i64 i)).eval (.tmp d2)=.int .i64 i:=by
  show (((a.put (some d1) v).put (some d2) (.int .i64 i)).tmps.getD d2 undef)=_;rw[tA _ d2 d2 _ (by rw[hs1.size];exact c4),if_pos rfl]
 cases hxs with
 |own _ _ _ B' c' b hA' hbb=>
  rw[hA] at hA';simp only[bX,cF] at hA';obtain⟨rfl,rfl⟩:=hA';have hnc:n<=c:=by
   cases B with
   |none=>obtain⟨rfl,rfl⟩:=hrow;simp at hlen;omega
   |some g=>obtain⟨us,_,_,_,h4,_⟩:=hrow;omega
  have hslice:(Instr.sliceAt t (.slice b n c) (some (.int .i64 i)) none none).run P w=.ok (.slice (if c=i then b else b.map (·.add (i*ti.size))) (n-i) (c-i)) w:=by
   have hb:=s5 (P:=P) (w:=w) (sl:=true) (lv:=some (.int .i64 i)) (hv:=none) (l:=i) (h:=n) (n:=n) (c:=c) (.inr ⟨.i64,i,rfl,by omega,by simp⟩) (.inl ⟨rfl,rfl⟩) hin hnc;simp only[Instr.sliceAt,Instr.slice,run_underlying hu,Sem.run_bind,Result.andThen_ok,hb,run_sizeOf w hi,Sem.run_pure];simp[Program.cellsOf,hi]
  obtain⟨q,hq⟩: ∃q,(Value.slice (if c=i then b else b.map (·.add (i*ti.size))) (n-i) (c-i))=q:=⟨_,rfl⟩;have hs3:=hs2.put (d:=d3) (v:=.any) (x:=q) c5 (.any _ _) trivial;refine oO (x:=q) (w':=w) (by simp only[execOp,gG,Option.map_none,e1,e2,Sem.run_bind,hslice,Result.andThen_ok,hq];simp) (Z3 _ _ ?_);refine wpListIn_step fun _ Z4=>?_;rw[if_pos (by simp[Region.wanted])];have e3:(((a.put (some d1) (.slice b n c)).put (some d2) (.int .i64 i)).put (some d3) q).eval (.tmp d3)=q:=by
   show ((((a.put (some d1) (.slice b n c)).put (some d2) (.int .i64 i)).put (some d3) q).tmps.getD d3 undef)=_;rw[tA _ d3 d3 _ (by rw[hs2.size];exact c5),if_pos rfl]
  have hρ3:set (set (set ρ d1 (.own s n)) d2 (.v (.int .i64 i))) d3 .any s=.row e z xs:=by
   rw[aK,if_neg aV,aK,if_neg aV,aK,if_neg aV,hρ]
  have hrunC: ∀w',(Builtin.clear_ #[t] ty4 #[q]).run P w=.ok (.tuple #[]) w'->(execOp (((a.put (some d1) (.slice b n c)).put (some d2) (.int .i64 i)).put (some d3) q).eval ⟨none,.call ⟨.builtin .clear,#[.tmp d3],#[t]⟩,ty4,p4,a4,none⟩).run P w=.ok (.value (.tuple #[])) w':=fun w' hw=>by
   simp only[execOp,resolve,Sem.run_bind,Sem.run_pure,Result.andThen_ok,invoke,builtin,List.map_toArray,kH,sI,e3];rw[hw];rfl
  rcases b9 i n with hlt|hge
  ·cases B with
   |none=>obtain⟨rfl,rfl⟩:=hrow;simp at hlen;omega
   |some g=>
    obtain rfl:=iX hbb;obtain⟨us,q1,q2,q3,q4,q5⟩:=hrow;have hqv:q=.slice (some ⟨g,i*z,none⟩) (n-i) (c-i):=by
     rw[<- hq,if_neg aV];simp[Addr.add_lit,hz1]
    have hzl2:(Builtin.zeroCells zv.cells (n-i)).toList.length=(n-i)*z:=by rw[xT,aGp,hzs]
    have hfit:i*z+0+(Builtin.zeroCells zv.cells (n-i)).toList.length<=us.size:=by
     rw[hzl2,q2];have:i*z+(n-i)*z=n*z:=by rw[<- Nat.add_mul];congr 1;omega
     have:n*z<=c*z:=gF _ hnc;omega
    have hzone: ∀u∈(Builtin.zeroCells zv.cells (n-i)).toList,u.oneCell'=true:=fun u hu=>by
     obtain⟨m,hm⟩:=aEa hu;have hml:m<(n-i)*z:=by
      rw[<- hzl2];rcases b9 m (Builtin.zeroCells zv.cells (n-i)).toList.length with h|h
      ·exact h
      rw[fN h] at hm;cases hm
     have hm2:=aWd zv.cells (n-i) aV (k:=m/z) (r:=m%z) (by rw[Nat.div_lt_iff_lt_mul hz0];exact hml) (by rw[hzs];exact Nat.mod_lt _ hz0);rw[hzs,show m/z*z+m%z=m by rw[oE];exact Nat.div_add_mod m z] at hm2;rw[kK] at hm;rw[hm] at hm2;exact hone u (by
      have:=tQ hm2.symm;simpa using this)
    have hst:=run_storeCells_at P g (i*z) e (Builtin.zeroCells zv.cells (n-i)).toList 0 us w q1 hfit hzone;generalize hnew:(us.toList.take (i*z+0)++(Builtin.zeroCells zv.cells (n-i)).toList++us.toList.drop (i*z+0+(Builtin.zeroCells zv.cells (n-i)).toList.length)).toArray=new at hst;have hcl:(Builtin.clear_ #[t] ty4 #[q]).run P w=.ok (.tuple #[]) (w.setRow g new):=by
     rw[hqv];obtain⟨m,hm⟩: ∃m,n-i=m+1:=⟨n-i-1,by omega⟩;rw[hm] at hst ⊢;simp[Builtin.clear_,run_underlying hu,zeroValue,run_typeInfo w hi,hzv,hst]
    have hI: ∀{B:dD} {d:DV} {v:Value},bP w I B d v->bP (w.setRow g new) I B d v:=fun hr=>
     hr.mono fun g' hg'=>⟨hg',fun o=>eD (setRow_other w g g' _ (fun e=>(hs.osim.sep s g c hA).2 (e▸hg'))) o⟩
    have hget: ∀m,new[m]?=if m<i*z then us[m]? else if m<n*z then (Builtin.zeroCells zv.cells (n-i))[m-i*z]? else us[m]?:=fun m=>by
     have hnz:i*z+(n-i)*z=n*z:=by rw[<- Nat.add_mul];congr 1;omega
     have husz:i*z<=us.size:=by omega
     subst hnew;simp only[iD,tB,xR,tH,iO,xT,qP husz,aGp,hzs];by_cases k1:m<i*z
     ·rw[if_pos k1,if_pos k1,oR,if_pos k1,kK]
     rw[if_neg k1,if_neg k1];by_cases k2:m<n*z
     ·rw[if_pos aV,if_pos k2,kK]
     rw[if_neg aV,if_neg k2,sC,kK];congr 1;omega
    refine oO (hrunC _ hcl) (Z4 _ _ ⟨I,A,_,?_,hd,f8.turn hA new,h⟩);show dB nt (w.setRow g new) I A _ ((((a.put (some d1) (.slice (some ⟨g,0,none⟩) n c)).put (some d2) (.int .i64 i)).put (some d3) q));refine hs3.turn hA q1 (us:=new) (v:=.row e z (xs.take i++List.replicate (n-i) (zv.cells.toList.map .v))) (fun v hv=>?_) ?_ fun _=>rfl
    ·rw[hρ3] at hv;obtain⟨B2,c2,r1,b2,r2,r3⟩:=hv;exact⟨B2,c2,r1,b2,r2,by rw[r3];simp[hlen];omega⟩
    refine⟨some g,c,hA,new,setRow_heap w g us _ e _ q1,?_,q3,by simp[hlen];omega,fun k yv hk=>?_⟩
    ·rw[<- q2];subst hnew;simp[aGp,hzs] at hfit ⊢;omega
    have hkz: ∀j,j<z->k*z+j<(k+1)*z:=fun j hj=>by rw[jV];omega
    by_cases hki:k<i
    ·rw[bVy (by simp[hlen];omega),oR,if_pos hki] at hk;obtain⟨r1,r2⟩:=q5 k yv hk;refine⟨r1,fun j d' u hd' hu'=>?_⟩;have hj:j<z:=by
      rw[<- r1];rcases b9 j yv.length with h|h
      ·exact h
      rw[fN h] at hd';cases hd'
     have:(k+1)*z<=i*z:=gF _ hki;rw[hget,if_pos (by have:=hkz j hj;omega)] at hu';exact⟨(r2 j d' u hd' hu').1,hI (r2 j d' u hd' hu').2⟩
    rw[aYl (by simp[hlen];omega),List.getElem?_replicate] at hk;split at hk<;>cases hk;rename_i hkn;have hlt2:k<n:=by simp[hlen] at hkn;omega
    refine⟨by simp[hzs],fun j d' u hd' hu'=>?_⟩;have hj:j<z:=by
     rcases b9 j (zv.cells.toList.map DV.v).length with h|h
     ·simpa[hzs] using h
     rw[fN h] at hd';cases hd'
    have h1:i*z<=k*z:=gF _ aV;have h2:(k+1)*z<=n*z:=gF _ hlt2;have:=hkz j hj;rw[hget,if_neg aV,if_pos aV,show k*z+j-i*z=(k-i)*z+j by rw[Nat.sub_mul];omega] at hu';have hm2:=aWd zv.cells (n-i) aV (k:=k-i) (r:=j) aV (by rw[hzs];exact hj);rw[hzs] at hm2;rw[hm2] at hu';rw[dG,kK,hu'] at hd';cases hd';exact⟨hone u (by simpa using tQ hu'),.v _ _⟩
  obtain rfl:i=n:=by omega
  have hcl:(Builtin.clear_ #[t] ty4 #[q]).run P w=.ok (.tuple #[]) w:=by
   rw[<- hq,Nat.sub_self];generalize (if c=i then b else b.map (·.add (i*ti.size)))=bb;cases bb<;>simp[Builtin.clear_,run_underlying hu]
  refine oO (hrunC _ hcl) (Z4 _ _ ⟨I,A,_,?_,hd,f8.refl _ _ _,h⟩);have:set (set (set (set ρ d1 (.own s i)) d2 (.v (.int .i64 i))) d3 .any) s (.row e z (xs.take i++List.replicate (i-i) (zv.cells.toList.map .v)))=set (set (set ρ d1 (.own s i)) d2 (.v (.int .i64 i))) d3 .any:=by
   funext k;rw[aK];split
   ·rename_i ek;rw[ek,hρ3,Nat.sub_self,List.replicate_zero,kZ,jD aV]
   rfl
  rw[this];exact hs3
end
end Go.Sg
