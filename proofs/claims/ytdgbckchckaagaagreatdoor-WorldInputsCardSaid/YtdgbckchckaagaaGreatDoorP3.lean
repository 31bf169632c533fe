/- Several texts as one. -/
import Derived.Test.YtdgbckchckaagaaGreatDoorP2
import Derived.ChangeArms
import Derived.Lib.LaidTab
import Derived.SizedLaws
import Derived.WideShapes
set_option linter.unusedSectionVars false
set_option linter.unusedVariables false
set_option linter.unusedSimpArgs false
namespace Go.Sg
open Go.RowKit
open Go.Rv (FR)
def cO (O:aV):List (Nat×DV)→aV
 | []=>g7 O
 |p::l=>set (cO O l) p.1 p.2
theorem cJe (O:aV):cO O []=g7 O:=rfl
theorem cHt (O:aV) (i:Nat) (d:DV) (l:List (Nat×DV)):cO O ((i,d)::l)=set (cO O l) i d:=rfl
inductive Has:DV→Nat→Prop
 |sl (z n:Nat) (f:Nat→List DV):Has (.sl z n f) n
 |el {z m n:Nat} {f:Nat→List DV} (i:Nat) {d:DV} (hi:i<m) (hd:d∈f i) (h:Has d n):Has (.sl z m f) n
 |agg {cs:List DV} {n:Nat} {d:DV} (hd:d∈cs) (h:Has d n):Has (.agg cs) n
 |tup {cs:List DV} {n:Nat} {d:DV} (hd:d∈cs) (h:Has d n):Has (.tup cs) n
 |dp {cs:List DV} {n:Nat} {d:DV} (hd:d∈cs) (h:Has d n):Has (.dp cs) n
theorem bN.has {w:World} {I:Nat→Prop} {d:DV} {n:Nat} (hh:Has d n): ∀{A:cY} {x:Value},bN w I A d x→n≤9223372036854775807:=by
 induction hh with
 |sl z n f=>
  intro A x h;cases h with
  |sl0=>omega
  |sl _ _ _ _ b o c us hn hc hm hI hz hcell hone hrel=>exact cBc hc hm
 |el i hi hd h ih=>
  intro A x hr;cases hr with
  |sl0=>omega
  |sl _ _ _ _ b o c us hn hc hm hI hz hcell hone hrel=>
   obtain ⟨j,hj⟩:=cAe hd;exact ih (hrel i j _ hi hj)
 |agg hd h ih=>
  intro A x hr;cases hr with
  |agg _ _ vs hl hone hrel=>
   obtain ⟨j,hj⟩:=cAe hd;have hlt:j<vs.size:=by
    rw[← hl];rcases cBd j _ with h1|h1
    ·exact h1
    rw[cAw h1] at hj;cases hj
   exact ih (hrel j _ _ hj (cAt hlt))
 |tup hd h ih=>
  intro A x hr;cases hr with
  |tup _ _ vs hl hrel=>
   obtain ⟨j,hj⟩:=cAe hd;have hlt:j<vs.size:=by
    rw[← hl];rcases cBd j _ with h1|h1
    ·exact h1
    rw[cAw h1] at hj;cases hj
   exact ih (hrel j _ _ hj (cAt hlt))
 |dp hd h ih=>
  intro A x hr;cases hr with
  |dp _ _ b o us hI hcell hone hrel=>
   obtain ⟨j,hj⟩:=cAe hd;exact ih (hrel j _ hj)
section
variable {P:Program} {nt:Nat} {ρ O:aV} {Q:Exit→aV→Prop} {c:Code}
theorem aUy {f:FuncId} {args:List DV} {R:aV→DV→Prop} (j:Nat) {d:DV} {n:Nat} (hj:args[j]?=some d) (hh:Has d n) (k:n≤9223372036854775807→lE P O f args R):lE P O f args R:=
 fun w I A vals hO hl hv=>by
  have hlt:j<vals.size:=by
   rw[hl];rcases cBd j args.length with h1|h1
   ·exact h1
   rw[cAw h1] at hj;cases hj
  exact k ((hv j d _ hj (cAt hlt)).has hh) w I A vals hO hl hv
theorem aW {f:FuncId} {args:List DV} {r:DV} (j:Nat) {d:DV} {n:Nat} (hj:args[j]?=some d) (hh:Has d n) (k:n≤9223372036854775807→bB P O f args r):bB P O f args r:=aUy j hj hh k
theorem d5 {fn:Func} {O:aV} {r:DV} (t:Nat) (hf:fn.results= #[.tmp t]) (h1:hi ρ=g7 O) (h2:cG ρ t r):aDl P fn O (fun O' r'=>O'=O∧r'=r) .ret ρ:=
 aAi h1 (by rw[hf];exact h2)
theorem cG.is {t:Nat} {r:DV} (h:ρ t=r) (hr:lO r=true) (hs:sh r=r):cG ρ t r:=.pure r (h.symm▸hr) (by rw[h,hs];exact cF.refl _) (by cases r<;>first|rfl|cases hr)
theorem aCq {x:Int} (h: -9223372036854775808≤x) (h':x≤9223372036854775807):IntKind.i64.wrap x=x:=by
 rw[IntKind.wrap_i64];omega
theorem bOd (i n:Nat):((i:Int)<(n:Int))=(i<n):=by apply propext;omega
theorem bMw (i n:Nat):((i:Int)≤(n:Int))=(i≤n):=by apply propext;omega
theorem cKm (i:Nat):((0:Int)≤(i:Int))=True:=by apply propext;simp
theorem bK {α:Type} {l:List α} {i:Nat} (d:α) (h:i<l.length):l.drop i=l.getD i d::l.drop (i+1):=by
 rw[cEo h,cFk,cEn h];rfl
theorem cT {α:Type} {l:List α} {i:Nat} (h:l.length≤i):l.drop i=[]:=List.drop_eq_nil_of_le h
end
attribute [go_sem] cJe cHt cDe bOd bMw cKm
end Go.Sg
namespace Go.Sg
open Go.RowKit
open Go.Rv (FR)
def frz (z:Nat) (xs:List (List DV)):DV:=.sl z xs.length fun i=>xs.getD i []
section
variable {P:Program} {nt:Nat} {w w':World} {I I':Nat→Prop} {A:cY} {ρ O:aV} {Q:Exit→aV→Prop} {c:Code}
theorem cZ.keep {s:Nat} {d:DV} {x:Value} (hr:cZ w I A s d x) (h: ∀B d x,bN w I B d x→bN w' I' B d x):cZ w' I' A s d x:=by
 cases d with
 |bx cs=>exact hr
 |row e z xs=>exact hr
 |cond g y=>exact ⟨fun hg=>h _ _ _ (hr.1 hg),hr.2⟩
 |any=>exact .any A x
 |v y=>exact h _ _ _ hr
 |sl z n f=>exact h _ _ _ hr
 |agg cs=>exact h _ _ _ hr
 |tup cs=>exact h _ _ _ hr
 |dp cs=>exact h _ _ _ hr
 |bp t o=>exact h _ _ _ hr
 |own t n=>exact h _ _ _ hr
 |rp t z i o=>exact h _ _ _ hr
 |fn f b c=>exact h _ _ _ hr
 |iface t y=>exact h _ _ _ hr
 |mr t=>exact h _ _ _ hr
 |ez=>exact h _ _ _ hr
 |mo es=>exact hr
theorem hU.frz {e:TypeId} {z:Nat} {xs:List (List DV)} {B:Option Nat} {c:Nat} (h:hU w I e z xs B c) (hI: ∀g,B=some g→I' g) (hm: ∀g,I g→I' g) {A:cY}:
  ∀{b:Option Addr},l6 B b→bN w I' A (frz z xs) (.slice b xs.length c):=by
 intro b hb;unfold Sg.frz;cases B with
 |none=>obtain ⟨rfl,rfl⟩:=h;exact .sl0 A _ _ _ _
 |some g=>
  obtain rfl:=iZ hb;obtain ⟨us,h1,h2,h3,h4,h5⟩:=h;rcases bZl xs.length with h0|h0
  ·rw[h0];exact .sl0 A _ _ _ _
  have hget: ∀i,i<xs.length→xs[i]?=some (xs.getD i []):=fun i hi=>by rw[cFk,cEn hi];rfl
  have hb: ∀i j,i<xs.length→j<z→i*z+j<us.size:=fun i j hi hj=>by
   rw[h2];have:(i+1)*z≤c*z:=cEr _ aN;rw[cBb] at this;omega
  refine .sl A z _ _ g 0 c (fun i j=>us.getD (i*z+j) undef) h0 h4 h3 (hI g rfl) (fun i hi=>(h5 i _ (hget i hi)).1) (fun i j hi hj=>?_) (fun i j hi hj=>?_) fun i j d hi hd=>?_
  ·unfold World.cell?;rw[h1];simp only[Option.isSome_none,cFa];rw[cAt (hb i j hi hj),cBt,cAt (hb i j hi hj)];rfl
  ·have hl:=(h5 i _ (hget i hi)).1;have hj':j<(xs.getD i []).length:=by omega
   have e2:us[i*z+j]?=some (us.getD (i*z+j) undef):=by rw[cBt,cAt (hb i j hi hj)];rfl
   exact ((h5 i _ (hget i hi)).2 j _ _ (cEn hj') e2).1
  have hl:=(h5 i _ (hget i hi)).1;have hj:j<z:=by
   rw[← hl];rcases cBd j (xs.getD i []).length with h|h
   ·exact h
   rw[cAw h] at hd;cases hd
  have e2:us[i*z+j]?=some (us.getD (i*z+j) undef):=by rw[cBt,cAt (hb i j hi hj)];rfl
  exact ((h5 i _ (hget i hi)).2 j d _ hd e2).2.mono fun g' hg'=>⟨hm g' hg',fun _=>rfl⟩
theorem aUt {f:FuncId} {args:List DV} {e:TypeId} {z:Nat} {xs:List (List DV)} (h:bB P O f args (.row e z xs)):bB P O f args (frz z xs):=
 fun w I A vals h1 h2 h3=>(h w I A vals h1 h2 h3).mono fun _ w' ⟨v,I',O',r,k1,k2,k3,k4,k5,k6,k7,k8⟩=>by
  subst k8;obtain ⟨B,c,⟨b,hb,rfl⟩,q2,q3⟩:=k6;have hm: ∀g,I' g→(I' g∨B=some g):=fun g hg=>.inl hg;have hmono: ∀(B':cY) d x,bN w' I' B' d x→bN w' (fun g=>I' g∨B=some g) B' d x:=fun B' d x hr=>hr.mono fun g hg=>⟨hm g hg,fun _=>rfl⟩;refine ⟨_,fun g=>I' g∨B=some g,_,frz z xs,k1,⟨fun s=>(k2.own s).keep (fun _ _ _=>rfl) hmono,k2.inj,fun s g c' hA=>⟨(k2.sep s g c' hA).1,fun hi=>hi.elim (k2.sep s g c' hA).2 fun hB=>?_⟩,k2.imm.step (fun g hg=>hg.elim (k2.imm g) fun hB=>(q3 g hB).2.1) fun g hg=>⟨.inl hg,rfl⟩⟩,k3,k4,
   ⟨k5.os,k5.tape,k5.output,k5.size,fun g hg=>.inl (k5.imm g hg),fun g hg hA=>?_,k5.loc,k5.outA⟩,q2.frz (fun g hg=>.inr hg) hm hb,k7,rfl⟩
  ·have:=(h1.sep s g c' hA).1;have:=(q3 g hB).1;omega
  obtain ⟨e1,e2,e3⟩:=k5.old g hg hA;refine ⟨e1,fun hi=>hi.elim e2 fun hB=>?_,e3⟩;have:=(q3 g hB).1;omega
theorem cV.frz {a:Act} (hs:cV nt w I A ρ a) {s:Nat} (hlt:s<100000) {e:TypeId} {z:Nat} {xs:List (List DV)} (h:ρ s=.row e z xs):
  ∃I' A',cV nt w I' A' (set (dG s ρ) s (Sg.frz z xs)) a∧e8 w I A w I' A':=by
 have ho:=hs.osim.own s;have hsl:=hs.slot s;rw[h] at ho hsl;obtain ⟨B,c,h1,h2⟩:=ho;have hd:=hs.disown hlt;have hm: ∀g,I g→(I g∨B=some g):=fun g hg=>.inl hg;have hmono: ∀(B':cY) d x,bN w I B' d x→bN w (fun g=>I g∨B=some g) B' d x:=fun B' d x hr=>hr.mono fun g hg=>⟨hm g hg,fun _=>rfl⟩;have hB: ∀g,B=some g→g<w.heap.size:=fun g hg=>(hs.osim.sep s g c (by rw[h1,hg])).1;refine ⟨fun g=>I g∨B=some g,lA A s none,⟨⟨fun t=>?_,hd.osim.inj,fun t g c' hA=>⟨(hd.osim.sep t g c' hA).1,fun hi=>hi.elim (hd.osim.sep t g c' hA).2 fun hb=>?_⟩,hs.osim.imm.step (fun g hg=>hg.elim (hs.osim.imm g) (hB g)) fun g hg=>⟨.inl hg,rfl⟩⟩,hs.size,hs.bound,fun i hi=>?_,fun t ht=>?_⟩,
  ⟨rfl,⟨rfl,cCq _⟩,rfl,cCq _,hm,fun g hg hA=>⟨rfl,fun hi=>hi.elim id fun hb=>absurd h1 (by rw[hb];exact hA s c),fun t c' ht=>?_⟩,fun t g c' hA _ ht=>⟨t,c',ht,?_⟩,fun t ht=>eW A _ aN⟩⟩
 ·have:=(hd.osim.own t).keep (I':=fun g=>I g∨B=some g) (fun _ _ _=>rfl) hmono;unfold set at this ⊢;split
  ·trivial
  rename_i hne;rw[if_neg hne] at this;exact this
 ·unfold lA at hA;split at hA
  ·cases hA
  rename_i hne;exact hne (hs.osim.inj t s g c' c hA (by rw[h1,hb]))
 ·by_cases hi':i=s
  ·subst hi';obtain ⟨B',c',q1,b,hb',q2⟩:=hsl hi;rw[h1] at q1;simp only[cAx,bZo] at q1;obtain ⟨rfl,rfl⟩:=q1;rw[bC,if_pos rfl,q2];exact h2.frz (fun g hg=>.inr hg) hm hb'
  have:=(hd.slot i hi).keep (I':=fun g=>I g∨B=some g) hmono;rw[bC,if_neg hi'] at this ⊢;exact this
 ·have:=hd.out t ht;rw[bC,if_neg aN] at this ⊢;exact this
 ·unfold lA at ht;split at ht
  ·cases ht
  exact hA t c' ht
 unfold lA at hA;split at hA
 ·cases hA
 exact hA
theorem bOa (s:Nat) (hlt:(decide (s<100000))=true) {e:TypeId} {z:Nat} {xs:List (List DV)} (h:ρ s=.row e z xs) (k:AW P nt c Q (set (dG s ρ) s (frz z xs))):AW P nt c Q ρ:=
 fun ro ds I A a w hw hd=>by
  obtain ⟨I',A',h1,h2⟩:=hw.frz (cFq hlt) h;exact wpIn_mono (k ro ds I' A' a w h1 hd) fun _ _ _ ⟨I2,A2,ρ2,k1,k2,k3,k4⟩=>⟨I2,A2,ρ2,k1,k2,h2.trans k3,k4⟩
theorem aZa (s:Nat) {d:DV} (d':DV) (hlt:(decide (s<100000))=true) (h:ρ s=d) (hw:cF d d') (hp:lO d=true) (hp':lO d'=true) (k:AW P nt c Q (set ρ s d')):AW P nt c Q ρ:=
 fun ro ds I A a w hs hd=>k ro ds I A a w ⟨⟨fun t=>by
   rw[bC];split
   ·exact d8.ofPure (by cases d'<;>first|rfl|cases hp')
   ·exact hs.osim.own t,hs.osim.inj,hs.osim.sep,hs.osim.imm⟩,hs.size,hs.bound,fun i hi=>by
   rw[bC];split
   ·rename_i e;subst e;have:=hs.slot i hi;rw[h] at this;exact .ofRel (hw _ _ _ _ (this.rel hp))
   ·exact hs.slot i hi,fun t ht=>by
   have:=cFq hlt;rw[bC,if_neg aN];exact hs.out t ht⟩ hd
theorem aOz (s:Nat) (e:TypeId) (z:Nat) (hlt:(decide (s<nt))=true) (h:ρ s=.v (.slice none 0 0)∨ρ s=.ez) (k:AW P nt c Q (set (dG s ρ) s (.row e z []))):AW P nt c Q ρ:=
 fun ro ds I A a w hs hd=>by
  have hlt:=cFq hlt;have hsl:=hs.slot s hlt;obtain ⟨b,hx⟩: ∃b,a.tmps.getD s undef=.slice b 0 0:=by
   generalize a.tmps.getD s undef=x at hsl ⊢;rcases h with h|h<;>rw[h] at hsl
   ·have hsl:bN w I A (.v (.slice none 0 0)) x:=hsl;cases hsl;exact ⟨_,rfl⟩
   have hsl:bN w I A .ez x:=hsl;cases hsl;exact ⟨_,rfl⟩
  have hput:a.put (some s) (.slice b 0 0)=a:=aMm (by rw[hs.size];exact hlt) hx;have hnew:=hs.own (d:=s) hlt (B:=none) (c:=0) (v:=.row e z []) (x:=.slice b 0 0) (fun g hg=>by cases hg) ⟨none,0,by unfold lA;rw[if_pos rfl],b,kG _,rfl⟩ ⟨none,0,by unfold lA;rw[if_pos rfl],rfl,rfl⟩;rw[hput] at hnew;refine wpIn_mono (k ro ds I (lA A s (some (none,0))) a w hnew hd) fun _ _ _ ⟨I2,A2,ρ2,k1,k2,k3,k4⟩=>⟨I2,A2,ρ2,k1,k2,e8.trans ?_ k3,k4⟩;refine ⟨rfl,⟨rfl,cCq _⟩,rfl,cCq _,fun _ h=>h,fun g hg hA=>⟨rfl,fun h=>h,fun t c' ht=>?_⟩,fun t g c' hA _ ht=>⟨t,c',ht,?_⟩,fun t ht=>eW A _ (by have:=hs.bound;omega)⟩
  ·unfold lA at ht;split at ht
   ·cases ht
   exact hA t c' ht
  unfold lA at hA;split at hA
  ·cases hA
  exact hA
theorem aVb (s:Nat) (e:TypeId) (z:Nat) (hlt:(decide (s<nt))=true) (h:ρ s=.v (.slice none 0 0)) (k:AW P nt c Q (set (dG s ρ) s (.row e z []))):AW P nt c Q ρ:=aOz s e z hlt (.inl h) k
theorem cF.ez (z:Nat) (f:Nat→List DV):cF .ez (.sl z 0 f):=fun _ _ A x h=>by cases h;exact .sl0 A z f _ _
inductive tF:List DV→List DV→Prop
 |nil:tF [] []
 |cons {d d':DV} {l l':List DV} (h:cF d d') (t:tF l l'):tF (d::l) (d'::l')
theorem tF.len {l l':List DV} (h:tF l l'):l.length=l'.length:=by
 induction h with
 |nil=>rfl
 |cons h t ih=>simp[ih]
theorem tF.get {l l':List DV} (h:tF l l'): ∀(j:Nat) (d:DV),l'[j]?=some d→ ∃d',l[j]?=some d'∧cF d' d:=by
 induction h with
 |nil=>intro j d h;simp at h
 |cons h t ih=>
  intro j d hd;cases j with
  |zero=>simp at hd;subst hd;exact ⟨_,rfl,h⟩
  |succ j=>simpa using ih j d (by simpa using hd)
theorem aOy {f:FuncId} {args args':List DV} {R:aV→DV→Prop} (hw:tF args args') (h:lE P O f args' R):lE P O f args R:=
 fun w I A vals h1 h2 h3=>h w I A vals h1 (h2.trans hw.len) fun j d u hd hu=>by
  obtain ⟨d',k1,k2⟩:=hw.get j d hd;exact k2 _ _ _ _ (h3 j d' u k1 hu)
theorem oY {f:FuncId} {args:List DV} {r:DV} (args':List DV) (hw:tF args args') (h:bB P O f args' r):bB P O f args r:=aOy hw h
theorem aUm {f:FuncId} {args:List DV} {r:DV} (r':DV) (h:bB P O f args r) (hw:cF r r') (h1:bX r=false) (h2:bX r'=false):bB P O f args r':=
 lE.mono (R:=fun O' x=>O'=O∧x=r') (fun w I A vals k1 k2 k3=>(h w I A vals k1 k2 k3).mono fun _ w' ⟨v,I',O',x,q1,q2,q3,q4,q5,q6,q7,q8⟩=>by
  subst q8;refine ⟨v,I',O',r',q1,q2,q3,q4,q5,?_,q7,rfl⟩;have:bN w' I' A x v:=by cases x<;>first|exact q6|cases h1
  have:=hw _ _ _ _ this;cases r'<;>first|exact this|cases h2) fun _ _ h=>h
theorem aQl (L:List Nat) {x y:Code} (J:aV→Prop) (hx: ∀K:aV→Prop,(∀ρ',J (keepC L ρ')→K ρ')→AW P nt x (aSo K Q) ρ) (hy: ∀ρ,J ρ→AW P nt y Q ρ):AW P nt (.seq x y) Q ρ:=
 aA fun K hK=>hx K fun ρ' hJ=>hK ρ' (dY (Le.keepC L ρ') (hy _ hJ))
theorem cF.frz {z n:Nat} {xs:List (List DV)} {f:Nat→List DV} (hn:xs.length=n) (h: ∀i,i<n→xs.getD i []=f i):cF (frz z xs) (.sl z n f):=by
 subst hn;exact cF.sl z _ h
end
end Go.Sg
namespace Go.Sg
open Go.RowKit
def encL {α:Type} [Inhabited α] (z:Nat) (e:α→List DV) (l:List α):DV:=.sl z l.length fun i=>e (l.getD i default)
def rowL {α:Type} (t:TypeId) (z:Nat) (e:α→List DV) (l:List α):DV:=.row t z (l.map e)
abbrev vi (x:Int):DV:=.v (.int .i64 x)
abbrev vb (x:Bool):DV:=.v (.bool x)
abbrev vs (x:ByteArray):DV:=.v (.string x)
abbrev eI (x:Int):List DV:=[vi x]
abbrev bT (l:List Int):DV:=encL 1 eI l
theorem bHf {α β:Type} (e:α→β) (l:List α):(l.map e).take l.length=l.map e:=by
 rw[← cAr (f:=e),cBn]
theorem aHc {α:Type} [Inhabited α] (e:α→List DV) (l:List α) {i:Nat} (h:i<l.length):(l.map e).getD i []=e (l.getD i default):=by
 simp[cFk,cEn h]
theorem oF {α:Type} [Inhabited α] (e:α→List DV) (l:List α):((List.range l.length).map fun i=>e (l.getD i default))=l.map e:=by
 apply cDs b7;intro i h1 h2;simp at h1;simp[cEn h1]
theorem bWy (a:Bool):(a==true)=a:=by cases a<;>rfl
theorem bWp (a:Bool):(a==false)= !a:=by cases a<;>rfl
theorem aXd (a b:Bool):(bif a then b else false)=(a&&b):=by cases a<;>rfl
theorem aWo (a b:Bool):(bif a then true else b)=(a||b):=by cases a<;>rfl
theorem aZl (l:List Int) (x:Int):l.map eI++[[vi x]]=(l++[x]).map eI:=by simp
theorem bLp (k n:Nat):(((no_index (OfNat.ofNat k)):Int)<(n:Int))=(k<n):=by apply propext;show ((k:Nat):Int)<n↔_;omega
theorem bLk (k n:Nat):((n:Int)<((no_index (OfNat.ofNat k)):Int))=(n<k):=by apply propext;show (n:Int)<((k:Nat):Int)↔_;omega
theorem bOo (k n:Nat):(((no_index (OfNat.ofNat k)):Int)≤(n:Int))=(k≤n):=by apply propext;show ((k:Nat):Int)≤n↔_;omega
theorem bNd (k n:Nat):((n:Int)≤((no_index (OfNat.ofNat k)):Int))=(n≤k):=by apply propext;show (n:Int)≤((k:Nat):Int)↔_;omega
theorem aXn (i n:Nat):((i:Int)==(n:Int))=(i==n):=by rw[cBk];simp only[cCe];omega
theorem bLu (i n:Nat):((i:Int) !=(n:Int))=(i !=n):=by rw[cBk];simp only[bne_iff_ne,ne_eq];omega
theorem bMf (k n:Nat):((n:Int)==((no_index (OfNat.ofNat k)):Int))=(n==k):=aXn n k
theorem cKi (k n:Nat):((n:Int) !=((no_index (OfNat.ofNat k)):Int))=(n !=k):=bLu n k
theorem aUn (k n:Nat):((n:Int)-(no_index (OfNat.ofNat k))).toNat=n-k:=by show ((n:Int)-(k:Nat)).toNat=_;omega
theorem cHx (k n:Nat):((n:Int)-(k:Int)).toNat=n-k:=by omega
theorem cGp (k n:Nat):((n:Int)+(no_index (OfNat.ofNat k))).toNat=n+k:=by show ((n:Int)+(k:Nat)).toNat=_;omega
theorem bEc (i:Nat):1+i=i+1:=bZj 1 i
section
variable {P:Program} {nt:Nat} {ρ O:aV} {Q:Exit→aV→Prop} {c:Code}
theorem cF.frzL {α:Type} [Inhabited α] {z:Nat} (e:α→List DV) (l:List α):cF (Sg.frz z (l.map e)) (encL z e l):=
 cF.frz b7 fun i hi=>aHc e l hi
theorem cF.nilL {α:Type} [Inhabited α] {z c:Nat} {b:Option Addr} (e:α→List DV):cF (.v (.slice b 0 c)) (encL z e []):=cF.nil z c b _
theorem cG.encL {α:Type} [Inhabited α] {t z:Nat} {e:α→List DV} {l l':List α} (h:ρ t=Sg.encL z e l') (hl:l'=l):cG ρ t (Sg.encL z e l):=by
 subst hl;exact cG.is h rfl rfl
theorem cG.rowL {α:Type} {t:Nat} {ty:TypeId} {z:Nat} {e:α→List DV} {l l':List α} (h:ρ t=Sg.rowL ty z e l') (hl:l'=l):cG ρ t (Sg.rowL ty z e l):=by
 subst hl;exact cG.row _ _ _ h
theorem cG.cut {α:Type} {t s n:Nat} {ty:TypeId} {z:Nat} {e:α→List DV} {l l':List α} (h:ρ t=.own s n) (hs:s<100000) (hr:ρ s=Sg.rowL ty z e l') (hn:n≤l'.length) (hl:l'.take n=l):cG ρ t (Sg.rowL ty z e l):=by
 subst hl;have:=cG.own s ty z n (l'.map e) h hs hr (by simpa using hn)
 rwa [← List.map_take] at this
theorem cG.ownL {α:Type} {t s n:Nat} {ty:TypeId} {z:Nat} {e:α→List DV} {l l':List α} (h:ρ t=.own s n) (hs:s<100000) (hr:ρ s=Sg.rowL ty z e l') (hn:n=l'.length) (hl:l'=l):cG ρ t (Sg.rowL ty z e l):=
 cG.cut h hs hr aN (by rw[hn,cBn];exact hl)
theorem cF.litL {α:Type} [Inhabited α] {z n:Nat} {e:α→List DV} {xs:List (List DV)} (l:List α) (hx:xs=l.map e) (hn:n=l.length):cF (.sl z n fun i=>xs.getD i []) (Sg.encL z e l):=by
 subst hx;subst hn;exact cF.sl z _ fun i hi=>aHc e l hi
theorem jC {g:Bool} {pre:Prop} {f:FuncId} {l:List DV} {k:DV→Prop} {t:Tg k} {r:DV} (h:g=true→bB P ρ f l r) (hp:g=true→pre) (hr:lO r=true) (hk:k r):aKd P ρ g pre f l k t:=⟨r,hr,fun hg=>⟨hp hg,h hg⟩,hk⟩
theorem dQ {f:FuncId} {l:List DV} {k:DV→Prop} {t:Tg k} {r:DV} (h:bB P ρ f l r) (hr:bX r=false) (hk:k r):aNg P ρ f l k t:=⟨r,hr,h,hk⟩
theorem cB {α:Type} [Inhabited α] (s:Nat) (l:List α) {e:α→List DV} {t:TypeId} {z:Nat} (hlt:(decide (s<100000))=true) (h:ρ s=.row t z (l.map e)) (k:AW P nt c Q (set (dG s ρ) s (encL z e l))):AW P nt c Q ρ:=by
 refine bOa s hlt h (aZa s (encL z e l) hlt (by rw[bC,if_pos rfl]) (cF.frzL e l) rfl rfl ?_);have:set (set (dG s ρ) s (Sg.frz z (l.map e))) s (encL z e l)=set (dG s ρ) s (encL z e l):=by
  funext i;simp only[bC];split<;>rfl
 rw[this];exact k
theorem kC {α:Type} [Inhabited α] (s:Nat) (z:Nat) (e:α→List DV) (hlt:(decide (s<100000))=true) (h:ρ s=.v (.slice none 0 0)) (k:AW P nt c Q (set ρ s (encL z e []))):AW P nt c Q ρ:=
 aZa s _ hlt h (cF.nilL e) rfl rfl k
theorem dF {α:Type} (s:Nat) (t:TypeId) (z:Nat) (e:α→List DV) (hlt:(decide (s<nt))=true) (h:ρ s=.v (.slice none 0 0)) (k:AW P nt c Q (set (dG s ρ) s (rowL t z e []))):AW P nt c Q ρ:=
 aVb s t z hlt h k
theorem uD {α:Type} [Inhabited α] {f:FuncId} {args:List DV} {t:TypeId} {z:Nat} {e:α→List DV} {l:List α} (h:bB P O f args (rowL t z e l)):bB P O f args (encL z e l):=
 aUm _ (aUt h) (cF.frzL e l) rfl rfl
end
attribute [go_sem] forall_eq forall_eq_or_imp or_false encL rowL bHf aHc oF iS cAr List.range_zero aXd aWo bWy bWp Bool.not_not and_self ne_eq not_false_eq_true aZl bLp bLk bOo bNd aXn bLu bMf cKi aUn cHx cGp bEc Nat.zero_lt_succ Nat.add_one_sub_one decide_true decide_false bZm bZt Nat.lt_irrefl cBg
end Go.Sg
namespace Go.Sg
open Go.RowKit
theorem bFi {P:Program} {f:FuncId} {args:List DV} {w:World} {vals:Array Value} (h:bB P (fun _=>.any) f args (vb true)) (hl:vals.size=args.length)
  (hv: ∀(j:Nat) (d:DV) (u:Value),args[j]?=some d→vals[j]?=some u→bN w (fun g=>g<w.heap.size) cU d u)
  (hG: ∀g us e,GT g=some (us,e)→w.heap[g]?=some (.cells us e (0,0))):
  Calls P f vals w fun e w'=>e=.returned (.bool true)∧Below w.heap.size w w':=by
 have hO:jX w (fun g=>g<w.heap.size) cU (fun _=>.any):=by
  refine ⟨fun _=>trivial,fun s t g c c' h=>?_,fun s g c h=>?_,⟨fun g h=>h,fun g us e hg=>⟨(cFj.1 (hG g us e hg)).1,hG g us e hg⟩⟩⟩
  ·exact absurd h b7
  exact absurd h b7
 refine (h w _ cU vals hO hl hv).mono fun e w' ⟨v,I',O',r,k1,k2,k3,k4,k5,k6,k7,k8⟩=>?_;subst k8;have k6:bN w' I' cU (vb true) v:=k6;cases k6;exact ⟨k1,k5.os,k5.tape.1,k5.output,k5.size,fun k hk=>(k5.old k hk fun s c h=>by cases h).1⟩
inductive RL (w:World) (I:Nat→Prop) (A:cY):List DV→List Value→Prop
 |nil:RL w I A [] []
 |cons {d:DV} {x:Value} {l:List DV} {m:List Value} (h:bN w I A d x) (t:RL w I A l m):RL w I A (d::l) (x::m)
theorem RL.len {w:World} {I:Nat→Prop} {A:cY} {l:List DV} {m:List Value} (h:RL w I A l m):m.length=l.length:=by
 induction h with
 |nil=>rfl
 |cons h t ih=>simp[ih]
theorem RL.get {w:World} {I:Nat→Prop} {A:cY} {l:List DV} {m:List Value} (h:RL w I A l m): ∀(j:Nat) (d:DV) (u:Value),l[j]?=some d→m[j]?=some u→bN w I A d u:=by
 induction h with
 |nil=>intro j d u hd;simp at hd
 |cons h t ih=>
  intro j d u hd hu;cases j with
  |zero=>simp at hd hu;subst hd;subst hu;exact h
  |succ j=>exact ih j d u (by simpa using hd) (by simpa using hu)
theorem bPr {P:Program} {f:FuncId} {args:List DV} {w:World} {vals:List Value} (h:bB P (fun _=>.any) f args (vb true)) (hv:RL w (fun g=>g<w.heap.size) cU args vals)
  (hG: ∀g us e,GT g=some (us,e)→w.heap[g]?=some (.cells us e (0,0))):
  Calls P f vals.toArray w fun e w'=>e=.returned (.bool true)∧Below w.heap.size w w':=
 bFi h (by simpa using hv.len) (fun j d u hd hu=>hv.get j d u hd (by simpa using hu)) hG
theorem aJq {w:World} {I:Nat→Prop} {A:cY} {α:Type} [Inhabited α] {z c:Nat} {e:α→List DV} {b:Option Addr}:bN w I A (encL z e []) (.slice b 0 c):=.sl0 A z _ b c
end Go.Sg
namespace Go.Sg
open Go.RowKit
inductive RC (w:World) (I:Nat→Prop):List DV→List Value→Prop
 |nil:RC w I [] []
 |cons {d:DV} {x:Value} {l:List DV} {m:List Value} (h:bN w I cU d x) (o:x.oneCell'=true) (t:RC w I l m):RC w I (d::l) (x::m)
section
variable {w:World} {I:Nat→Prop}
theorem RC.len {l:List DV} {m:List Value} (h:RC w I l m):m.length=l.length:=by
 induction h with
 |nil=>rfl
 |cons h o t ih=>simp[ih]
theorem RC.get {l:List DV} {m:List Value} (h:RC w I l m): ∀(j:Nat) (d:DV) (u:Value),l[j]?=some d→m[j]?=some u→bN w I cU d u:=by
 induction h with
 |nil=>intro j d u hd;simp at hd
 |cons h o t ih=>
  intro j d u hd hu;cases j with
  |zero=>simp at hd hu;subst hd;subst hu;exact h
  |succ j=>exact ih j d u (by simpa using hd) (by simpa using hu)
theorem RC.one {l:List DV} {m:List Value} (h:RC w I l m): ∀u∈m,u.oneCell'=true:=by
 induction h with
 |nil=>simp
 |cons h o t ih=>intro u hu;rcases cDt.1 hu with e|e;exact e▸o;exact ih u e
theorem RC.app {l l':List DV} {m m':List Value} (h:RC w I l m) (h':RC w I l' m'):RC w I (l++l') (m++m'):=by
 induction h with
 |nil=>exact h'
 |cons h o t ih=>exact .cons h o ih
theorem RC.join {l l':List DV} {cs:List Value} {o s:Nat} (h:RC w I l ((cs.drop o).take s)) (h':RC w I l' (cs.drop (o+s))):RC w I (l++l') (cs.drop o):=by
 have:=h.app h'
 rwa [← cBp,cCo] at this
theorem RC.stop {cs:List Value} {n:Nat} (h:cs.length=n):RC w I [] (cs.drop n):=by
 rw[List.drop_eq_nil_of_le aN];exact .nil
theorem RC.agg {l:List DV} {cs:Array Value} (h:RC w I l cs.toList) {A:cY}:bN w I A (.agg l) (.agg cs):=by
 refine bN.ofNoOwn (.agg cU l cs (by simpa using h.len.symm) h.one fun j d u hd hu=>h.get j d u hd (by simpa using hu))
theorem RC.single {d:DV} {v:Value} (h:RC w I [d] [v]) {A:cY}:bN w I A d v:=by
 cases h with
 |cons h o t=>exact h.ofNoOwn
end
def gG (P:Program) (t:TypeId) {α:Type} (e:α→List DV) (ok:α→Prop):Prop:=
 ∀(H:Type) (enc:TypeId×Value→H) (w:World) (sp:Nat→Bool) (held:Bool) (fuel:Nat) (cs:List Value) (x:DataW H×List MemPlace),DataW.trod enc P w 0 sp held fuel t cs=some x→(∀n∈x.1.weights P t,n≤reachBytes)→
  ∃a:α,ok a∧RC w (fun g=>g<w.heap.size) (e a) cs
section
variable {P:Program} {t:TypeId}
abbrev eB (b:Bool):List DV:=[vb b]
abbrev eS (s:ByteArray):List DV:=[vs s]
theorem bAj (ht:P.underlying t=some .bool):gG P t eB (fun _=>True):=fun H enc w sp held fuel cs x h hz=>by
 obtain ⟨b,rfl,_⟩:=DataW.trod_bool ht h;exact ⟨b,trivial,.cons (.v _ _) rfl .nil⟩
theorem bEh (ht:P.underlying t=some (.int .i64)):gG P t eI (fun n=> -9223372036854775808≤n∧n≤9223372036854775807):=fun H enc w sp held fuel cs x h hz=>by
 obtain ⟨n,rfl,_,hw⟩:=DataW.trod_int ht h;refine ⟨n,?_,.cons (.v _ _) rfl .nil⟩;simp[Lit.wf,IntKind.min,IntKind.max,IntKind.signed,IntKind.bits] at hw;omega
theorem aPa (ht:P.underlying t=some .string):gG P t eS (fun s=>s.size≤140737488355328):=fun H enc w sp held fuel cs x h hz=>by
 obtain ⟨s,rfl,rfl,hs⟩:=DataW.trod_string ht h;have:=hz s.data.toList.length (by simp[DataW.weights]);exact ⟨s,by
  show s.size≤_;have h2:s.size=s.data.toList.length:=Array.length_toList.symm;rw[h2];unfold reachBytes at this;omega,.cons (.v _ _) rfl .nil⟩
theorem aJr {α β:Type} {f:α→Option β}: ∀{l:List α} {r:List β},l.mapM f=some r→r.length=l.length∧ ∀(j:Nat) (x:α),l[j]?=some x→f x=r[j]?
 | [],r,h=>by
  have:r=[]:=by simpa using h.symm
  subst this;exact ⟨rfl,by simp⟩
 |a::l,r,h=>by
  rw[cDd] at h;cases ha:f a with
  |none=>simp[ha] at h
  |some y=>
   cases hl:l.mapM f with
   |none=>simp[ha,hl] at h
   |some ys=>
    simp[ha,hl] at h;subst h;obtain ⟨h1,h2⟩:=aJr hl;refine ⟨by simp[h1],fun j x hx=>?_⟩;cases j with
    |zero=>simp at hx;subst hx;simpa using ha
    |succ j=>simpa using h2 j x (by simpa using hx)
theorem aWc {w:World} {a:Addr} {v:Value} (h:w.cell? a=some v):a.spot=none∧a.block<w.heap.size:=by
 unfold World.cell? at h;split at h
 ·rename_i c e f hh;refine ⟨?_,(cFj.1 hh).1⟩;cases hs:a.spot with
  |none=>rfl
  |some s=>rw[hs] at h;simp at h
 cases h
theorem aUb {w:World} {b:Nat} {a:Addr} {n:Nat} {cs:List Value} (h:w.cells? b a n=some cs):cs.length=n∧ ∀j,j<n→w.cell? (a.add j)=cs[j]?:=by
 unfold World.cells? at h;split at h
 ·obtain ⟨h1,h2⟩:=aJr h;refine ⟨by simpa using h1,fun j hj=>h2 j j (by simp[hj])⟩
 cases h
theorem qV {H:Type} {P:Program} {e:TypeId}: ∀{l:List (DataW H)} {j:Nat} {d:DataW H},l[j]?=some d→ ∀n∈d.weights P e,n∈DataW.weightsAll P e l
 | [],_,_,h,_,_=>by simp at h
 |d0::l,0,d,h,n,hn=>by
  simp only[List.getElem?_cons_zero,cAx] at h;subst h;simp only[DataW.weightsAll,cEh];exact .inl hn
 |d0::l,j+1,d,h,n,hn=>by
  simp only[cAa] at h;simp only[DataW.weightsAll,cEh];exact .inr (qV h n hn)
theorem b8 {el:TypeId} {α:Type} [Inhabited α] {e:α→List DV} {ok:α→Prop} {z:Nat} (ht:P.underlying t=some (.slice el)) (hc:P.cellsOf el=z) (hz:0<z) (hby:0<P.bytesOf el) (hd:gG P el e ok) (hlen: ∀a,(e a).length=z):
  gG P t (fun l:List α=>[encL z e l]) (fun l=>(∀a∈l,ok a)∧l.length≤140737488355328):=fun H enc w sp held fuel cs x h hw=>by
 rcases DataW.trod_slice ht h with ⟨rfl,_⟩|⟨a,len,cap,elems,rest,n,rfl,rfl,hx,hb,hl,hm,hle,hel,_,_⟩
 ·exact ⟨[],⟨by simp,by simp⟩,.cons aJq rfl .nil⟩
 have hreach:len≤140737488355328:=by
  have h1:=hw (((elems.map (·.1)).length+(rest.map (·.1)).length)*P.bytesOf el) (by rw[hx];simp[DataW.weights,ht]);have h2:(elems.map (·.1)).length=len:=by simpa using hle
  rw[h2] at h1;have h3:len*1≤(len+(rest.map (·.1)).length)*P.bytesOf el:=Nat.mul_le_mul aN hby;unfold reachBytes at h1;omega
 have each: ∀i,∃(p:α×List Value),i<len→ok p.1∧RC w (fun g=>g<w.heap.size) (e p.1) p.2∧p.2.length=z∧ ∀j,j<z→w.cell? ((a.add (i*z)).add j)=p.2[j]?:=fun i=>by
  by_cases hi:i<len
  ·have:=hel i hi;rw[cEn aN,Option.bind_eq_some_iff,hc] at this;obtain ⟨cs',h1,h2⟩:=this;obtain ⟨y,h3,h4⟩:=hd H enc w sp held n cs' _ h2 fun m hm=>hw m (by
    rw[hx];simp only[DataW.weights,ht];refine cAi _ (List.mem_append_left _ (qV (j:=i) (d:=elems[i].1) ?_ m hm));rw[cDj,cEn aN];rfl)
   obtain ⟨h5,h6⟩:=aUb h1;exact ⟨(y,cs'),fun _=>⟨h3,h4,h5,h6⟩⟩
  exact ⟨(default,[]),fun h=>absurd h hi⟩
 have hch:=Classical.axiomOfChoice each;obtain ⟨f,hf⟩:=hch;have hlen':((List.range len).map fun i=>(f i).1).length=len:=by simp
 have hget: ∀i,i<len→((List.range len).map fun i=>(f i).1).getD i default=(f i).1:=fun i hi=>by
  rw[cFk,cDj,cBs hi];rfl
 refine ⟨(List.range len).map fun i=>(f i).1,⟨fun y hy=>?_,by rw[hlen'];exact hreach⟩,.cons ?_ rfl .nil⟩
 ·obtain ⟨i,hi,rfl⟩:=cAy.1 hy;exact (hf i (by simpa using hi)).1
 rcases bZl len with h0|h0
 ·subst h0;exact aJq
 have hsp:a.spot=none∧a.block<w.heap.size:=by
  obtain ⟨_,_,k3,k4⟩:=hf 0 h0;have:=k4 0 hz;rw[cEn aN,Nat.zero_mul] at this;exact aWc this
 obtain ⟨b,o,s⟩:=a;obtain ⟨rfl,hbl⟩:=hsp;show bN _ _ _ (.sl z ((List.range len).map fun i=>(f i).1).length fun i=>e (((List.range len).map fun i=>(f i).1).getD i default)) _;rw[hlen'];refine .sl cU z len _ b o cap (fun i j=>(f i).2.getD j undef) h0 hl hm hbl (fun i _=>hlen _) (fun i j hi hj=>?_) (fun i j hi hj=>?_) fun i j d hi hdd=>?_
 ·obtain ⟨_,_,k3,k4⟩:=hf i hi;have:=k4 j hj;rw[Addr.add_lit,Addr.add_lit,cCa] at this;rw[this,cFk,cEn aN];rfl
 ·obtain ⟨_,k2,k3,_⟩:=hf i hi;rw[cFk,cEn aN];exact k2.one _ (cDh _)
 obtain ⟨_,k2,k3,_⟩:=hf i hi;rw[hget i hi] at hdd;have hj:j<(f i).2.length:=by
  have:=k2.len;have h2:j<(e (f i).1).length:=(cBz.1 hdd).1;omega
 rw[cFk,cEn hj];exact k2.get j d _ hdd (cEn hj)
theorem aI {fs:Array Field} {H:Type} {enc:TypeId×Value→H} {w:World} {sp:Nat→Bool} {held:Bool} {fuel:Nat} {cs:List Value} {x:DataW H×List MemPlace} (ht:P.underlying t=some (.struct fs))
  (h:DataW.trod enc P w 0 sp held fuel t cs=some x) (hw: ∀n∈x.1.weights P t,n≤reachBytes) (i:Nat) {nm:Field} {α:Type} {e:α→List DV} {ok:α→Prop} {s:Nat} (hf:fs[i]?=some nm) (hs:P.cellsOf nm.type=s) (hd:gG P nm.type e ok):
  ∃a:α,ok a∧RC w (fun g=>g<w.heap.size) (e a) ((cs.drop nm.offset).take s):=by
 obtain ⟨xs,n,rfl,hx,h1,h2,h3⟩:=DataW.trod_struct ht h;have:=h3 i nm hf;have hi:i<fs.size:=(cFj.1 hf).1;rw[cEn aN,hs] at this;refine hd H enc w sp held n _ _ this fun m hm=>hw m ?_;rw[hx];simp only[DataW.weights,ht];refine DataW.weights_mem_each (j:=i) (t:=nm.type) (d:=xs[i].1) ?_ ?_ m hm
 ·rw[cDj,cAg,hf];rfl
 rw[cDj,cEn aN];rfl
theorem aPr {fs:Array Field} {α:Type} {e:α→List DV} {ok:α→Prop} {H:Type} {enc:TypeId×Value→H} {w:World} {r:Reach} {base:Nat} {sp:Nat→Bool} {held:Bool} {v:Value} {d:DataW H} {ps:List MemPlace}
  (ht:P.underlying t=some (.struct fs)) (hd:gG P t e ok) (hv:Value.okWide P w r base t v) (h:DataW.Trod enc P w 0 sp held t v d ps) (hw: ∀n∈d.weights P t,n≤reachBytes): ∃a:α,ok a∧bN w (fun g=>g<w.heap.size) cU (.agg (e a)) v:=by
 obtain ⟨cs,rfl,_⟩:=WideShapes.okWide_struct ht hv;obtain ⟨fuel,h⟩:=h;obtain ⟨a,h1,h2⟩:=hd H enc w sp held fuel _ _ h hw;exact ⟨a,h1,RC.agg h2⟩
theorem bHo {α:Type} {e:α→DV} {ok:α→Prop} {H:Type} {enc:TypeId×Value→H} {w:World} {sp:Nat→Bool} {held:Bool} {v:Value} {d:DataW H} {ps:List MemPlace}
  (hd:gG P t (fun a=>[e a]) ok) (hv:v.cells= #[v]) (h:DataW.Trod enc P w 0 sp held t v d ps) (hw: ∀n∈d.weights P t,n≤reachBytes): ∃a:α,ok a∧bN w (fun g=>g<w.heap.size) cU (e a) v:=by
 obtain ⟨fuel,h⟩:=h;rw[hv] at h;obtain ⟨a,h1,h2⟩:=hd H enc w sp held fuel _ _ h hw;exact ⟨a,h1,RC.single h2⟩
end
end Go.Sg
namespace Go.Sg
open Go.RowKit
section
variable {P:Program} {t:TypeId} {H:Type} {enc:TypeId×Value→H} {w:World} {r:Reach} {base:Nat} {sp:Nat→Bool} {held:Bool} {v:Value} {d:DataW H} {ps:List MemPlace} {α:Type} {ok:α→Prop}
theorem bFj {e:α→DV} {k:IntKind} (ht:P.underlying t=some (.int k)) (hd:gG P t (fun a=>[e a]) ok) (hv:Value.okWide P w r base t v) (h:DataW.Trod enc P w 0 sp held t v d ps) (hw: ∀n∈d.weights P t,n≤reachBytes): ∃a:α,ok a∧bN w (fun g=>g<w.heap.size) cU (e a) v:=by
 obtain ⟨n,rfl⟩:=WideShapes.okWide_int ht hv;exact bHo hd (by simp[Value.cells]) h hw
end
end Go.Sg
namespace Go.Sg
open Go.RowKit
def aKf {H:Type} (P:Program):Nat→TypeId→DataW H→Option (List Value)
 |0,_,_=>none
 |f+1,t,d=>
  match P.underlying t,d with
  |some (.int k),.lit (.int k' z)=>some [.int k' z]
  |some (.array n e),.agg ds=>if ds.length=n∧P.cellsOf t=n*P.cellsOf e then (ds.mapM (aKf P f e)).map List.flatten else none
  |some (.struct fs),.agg ds=>if ds.length=fs.size∧P.cellsOf t=fs.size∧((List.range fs.size).all fun (i:Nat)=>match (fs[i]?:Option Field) with
    |some fl=>fl.offset==i&&P.cellsOf fl.type==1
    |none=>false)=true then ((List.range fs.size).mapM fun (i:Nat)=>match (fs[i]?:Option Field),(ds[i]?:Option (DataW H)) with
    |some fl,some d=>aKf P f fl.type d
    |_,_=>none).map List.flatten else none
  |_,_=>none
theorem aQc (z:Nat): ∀(n:Nat) (cs:List Value),cs.length=n*z→cs=((List.range n).map fun i=>(cs.drop (i*z)).take z).flatten
 |0,cs,h=>by
  have:cs=[]:=cEm.1 aN;subst this;rfl
 |n+1,cs,h=>by
  have h1:=aQc z n (cs.drop z) (by rw[cEk,h,cBb];omega);rw[List.range_succ_eq_map,cEb,List.flatten_cons,Nat.zero_mul,cBv,List.map_map];have h2:(List.range n).map ((fun i=>(cs.drop (i*z)).take z)∘Nat.succ)=(List.range n).map fun i=>((cs.drop z).drop (i*z)).take z:=by
   refine cEe fun i _=>?_;simp only[Function.comp,cBp,cBb];rw[bZj z]
  rw[h2,← h1,cCo]
theorem aRw {α:Type} {n:Nat} {g:Nat→α} {us:List α} (hl:us.length=n) (h: ∀i,i<n→us[i]?=some (g i)):(List.range n).map g=us:=by
 apply List.ext_getElem?;intro i;by_cases hi:i<n
 ·rw[h i hi];simp[hi]
 rw[cAw (by simp;omega),cAw aN]
theorem aCs {H:Type} {enc:TypeId×Value→H} {P:Program} {w:World} {base:Nat} {sp:Nat→Bool} {held:Bool}: ∀(f:Nat) (t:TypeId) (d:DataW H) (us:List Value),aKf P f t d=some us→
  ∀(fuel:Nat) (cs:List Value) (p:List MemPlace),DataW.trod enc P w base sp held fuel t cs=some (d,p)→cs=us
 |0,_,_,_,h=>by cases h
 |f+1,t,d,us,h=>by
  intro fuel cs p ht;unfold aKf at h;split at h
  ·rename_i k k' z hu;cases h;obtain ⟨z',hc,hx,_⟩:=DataW.trod_int hu ht;cases hx;exact hc
  ·rename_i n e ds hu;split at h
   ·rename_i hc;obtain ⟨h1,h2⟩:=hc;obtain ⟨uss,hm,rfl⟩:=cBa.1 h;cases fuel with
    |zero=>simp[DataW.trod] at ht
    |succ fuel=>
     simp only[DataW.trod,hu] at ht;split at ht
     ·rename_i hl;obtain ⟨xs,hm2,hx⟩:=cBa.1 ht;have hxs:xs.map (·.1)=ds:=by
       have:=congrArg Prod.fst hx;simpa using this
      have hlen:cs.length=n*P.cellsOf e:=by omega
      rw[aQc (P.cellsOf e) n cs hlen];congr 1;have hul:uss.length=n:=by rw[Lib.mapM_length hm,h1]
      refine aRw hul fun i hi=>?_;obtain ⟨b,hb,hf⟩:=Lib.mapM_at hm2 i i (by simp[hi]);have hd:ds[i]?=some b.1:=by rw[← hxs,cDj,hb];rfl
      obtain ⟨u,hu1,hu2⟩:=Lib.mapM_at hm i _ hd;rw[hu1,aCs f e b.1 u hu2 _ _ b.2 hf]
     cases ht
   cases h
  ·rename_i fs ds hu;split at h
   ·rename_i hc;obtain ⟨h1,h2,h3⟩:=hc;obtain ⟨uss,hm,rfl⟩:=cBa.1 h;obtain ⟨xs,n,rfl,hx,k1,k2,k3⟩:=DataW.trod_struct hu ht;have hxs:ds=xs.map (·.1):=by
     have:=congrArg Prod.fst hx;simpa using this
    rw[aQc 1 fs.size cs aN];congr 1;have hul:uss.length=fs.size:=by rw[Lib.mapM_length hm];simp
    refine aRw hul fun i hi=>?_;obtain ⟨u,hu1,hu2⟩:=Lib.mapM_at hm i i (by simp[hi]);rw[cCk] at h3;have h4:=h3 i (cCc.2 hi);have hfi:fs[i]?=some fs[i]:=cAt hi;simp only[hfi,bZi,cCe] at h4;have h5:=k3 i fs[i] hfi;rw[h4.1,h4.2] at h5;have hxi:xs[i]?=some (xs[i]'(by omega)):=cEn aN;have hdi:ds[i]?=some (xs[i]'(by omega)).1:=by rw[hxs,cDj,hxi];rfl
    simp only[hfi,hdi] at hu2;rw[hxi] at h5;rw[hu1,Nat.mul_one,aCs f _ _ u hu2 _ _ _ h5]
   cases h
  cases h
theorem jQ {P:Program} {w:World} {n:String} {d:DataW Unit} {us:List Value} {g:Nat} (f:Nat) {t:TypeId}: ∀{l:List (String×DataW Unit)} {ps:List MemPlace},DataW.LaidVars P w l ps→(n,d)∈l→P.globalNamed n=some g→(P.globals[g]?).map (·.type)=some t→
  aKf P f t d=some us→w.ShapedOpen P→(((begin P (fun _ _=>0) default).world.heap[g]?).bind Obj.row?).map (·.2)=some t→w.heap[g]?=some (.cells us.toArray t (0,0))
 | [],_,_,hm,_,_,_,_,_=>by cases hm
 |(n',d')::r,ps,hL,hm,hg,hty,hlf,hsh,hz=>by
  obtain ⟨g',t',cs,fuel,p,q,k1,k2,k3,k4,k5,_⟩:=hL;rcases cDt.1 hm with e|hm
  ·cases e;obtain rfl:=bZr (hg.symm.trans k1);obtain rfl:=bZr (hty.symm.trans k2);have hcs:=aCs f t d us hlf _ _ _ k4;have hgl:g<P.globals.size:=by
    rcases cBd g P.globals.size with h|h
    ·exact h
    rw[cDy h] at hty;cases hty
   obtain ⟨⟨z,t2⟩,hz1,hz2⟩:=cBa.1 hz;cases hz2;obtain ⟨cs',e1,_⟩:=hsh.1 g z _ hgl hz1;unfold World.var? at k3;rw[hg] at k3;simp only[Option.bind_some,e1,cAx] at k3;subst k3;rw[e1,← hcs]
  exact jQ f k5 hm hg hty hlf hsh hz
end Go.Sg
attribute [push_cast] decide_eq_true_eq decide_eq_false_iff_not Bool.not_eq_true' Bool.not_eq_false' beq_iff_eq bne_iff_ne beq_eq_false_iff_ne bne_eq_false_iff_eq Bool.not_eq_true Bool.not_eq_false Int.not_lt Int.not_le Nat.not_lt Nat.not_le ne_eq Int.ofNat_inj Bool.and_eq_true Bool.or_eq_true Bool.and_eq_false_iff Bool.or_eq_false_iff Bool.not_eq_eq_eq_not Bool.not_true Bool.not_false
namespace Go.Sg
theorem bM {p:Prop} (h:p:=by first|omega|assumption|(simp only[cAb,cDx,cCz];omega)|(intros;first|omega|assumption|(simp_all;done)|grind)):p:=h
theorem bE {p:Prop} (h:p:=by first|assumption|omega|(simp only[cAb,cDx,cCz] at*;omega)|(simp_all;done)):p:=h
theorem bNz {P:Program} {nt id:Nat} {d:Bool} {l l':List Oper} {Q:Exit→aV→Prop} {ρ:aV} (hl:l=l') (h:AW P nt (.region id l'.toArray d) Q ρ):AW P nt (.region id l.toArray d) Q ρ:=hl▸h
end Go.Sg
namespace Go.Sg
open Go.RowKit
open Go.Rv (FR)
def pur (fl:List Nat) (i:Nat) (o:Oper):Bool:=(dT o.op&&o.dst.isSome)&& !fl.contains i
theorem aBj {fl:List Nat} {i:Nat} {o:Oper} (h:pur fl i o=true):dT o.op=true∧o.dst.isSome=true:=by
 unfold pur at h;simp only[bZi] at h;exact h.1
section
variable {P:Program} {nt:Nat} {ρ:aV} {ops:Array Oper}
theorem bEz {o:Oper} {K:aV→Prop} {t:TypeId} {n:Nat} {parts:Array (Nat×Operand)} {d:Nat} {e:TypeId} {z by_:Nat} {zs:List Value} (hop:o.op=.buildSlice t n parts) (hg:o.guard=none) (hdst:o.dst=some d) (hd:d<nt)
  (ho:dP nt o=true) (hs:pT P t=some (e,z,by_)) (hz:eE P e=some zs) (hz0:0<z) (hn0:0<n) (hn:n*z≤16777216) (hl:parts.toList.length=n) (hp:aAv ρ z 0 parts.toList)
  (hK:K (set (dG d ρ) d (.row e z (bsL ρ parts.toList)))):OW P nt ops o K ρ:=by
 obtain ⟨hu,i,hi,rfl,rfl⟩:=gE hs;obtain ⟨i',zv,hi',hzv,rfl,_⟩:=eR hz;rw[hi] at hi';cases hi';refine fU hg fun I A a w hsim=>?_
 have hpart: ∀(j:Nat) (p:Nat×Operand),parts.toList[j]?=some p→p.1=j∧(a.eval p.2).cells.size=i.size∧(∀u∈(a.eval p.2).cells.toList,u.oneCell'=true)∧
   ∀(r:Nat) (x:DV) (u:Value),(cE (un (ev ρ p.2)))[r]?=some x→(a.eval p.2).cells[r]?=some u→bN w I cU x u:=fun j p hj=>by
  obtain ⟨h1,h2,h3,h4⟩:=l3 hp j p hj;have hx:=hsim.opd p.2 (bO ho (by
   simp only[hop,Op.operands];simp;exact ⟨p.1,by have:=cDb hj;simpa using this⟩)) h2
  obtain ⟨k1,k2,k3⟩:=nX hx (.inl aN);exact ⟨by omega,by omega,k2,fun r x u hx hu=>(k3 r x u hx hu).pure (e6 h4 hx)⟩
 let vparts:List (Nat×Value):=parts.toList.map fun p=>(p.1,a.eval p.2)
 have hv: ∀(j k:Nat) (v:Value),vparts[j]?=some (k,v)→ ∃p,parts.toList[j]?=some p∧p.1=k∧a.eval p.2=v:=fun j k v h=>by
  simp only[vparts,cDj,cBa] at h;obtain ⟨p,hp,he⟩:=h;simp at he;exact ⟨p,hp,he.1,he.2⟩
 obtain ⟨zero,hzero⟩: ∃zero:Array Value,zero=(Array.range (n*i.size)).map (zv.cells[· %zv.cells.size]!):=⟨_,rfl⟩;have hzsz:zero.size=n*i.size:=by simp[hzero]
 obtain ⟨out,o1,o2,o3⟩:=xV (fun k=>some (k*i.size,i.size)) vparts zero (fun j k v h=>by
  obtain ⟨p,hpj,rfl,rfl⟩:=hv j k v h;obtain ⟨h1,h2,_⟩:=hpart j p hpj;have hjn:j<n:=by
   rw[← hl];rcases cBd j parts.toList.length with h|h
   ·exact h
   rw[cAw h] at hpj;cases hpj
  refine ⟨p.1*i.size,by rw[h2],?_⟩;rw[hzsz,h2,h1];have:(j+1)*i.size≤n*i.size:=cEr _ hjn;rw[cBb] at this;exact this)
 rw[hzsz] at o2;have hout: ∀(j:Nat) (p:Nat×Operand) (r:Nat),parts.toList[j]?=some p→r<i.size→out[j*i.size+r]?=(a.eval p.2).cells[r]?:=fun j p r hj hr=>by
  obtain ⟨h1,h2,_⟩:=hpart j p hj;have hvj:vparts[j]?=some (p.1,a.eval p.2):=by simp only[vparts,cDj,hj];rfl
  rcases o3 (j*i.size+r) with ⟨j',k,v,off,k1,k2,k3,k4,k5⟩|⟨k1,_⟩
  ·obtain ⟨p',hp',rfl,rfl⟩:=hv j' k v k1;obtain ⟨h1',h2',_⟩:=hpart j' p' hp';simp only[cAx,bZo] at k2;obtain ⟨rfl,_⟩:=k2;have e1:=jS (z:=i.size) (i:=p'.1) hz0 k3 aN;have e2:=jS (z:=i.size) (i:=j) (q:=j*i.size+r) hz0 aN aN;have:j'=j:=by omega
   subst this;rw[hj] at hp';cases hp';rw[k5,h1];congr 1;omega
  exact absurd ⟨by rw[h1];omega,by rw[h1,h2];omega⟩ (k1 j p.1 _ (p.1*i.size) hvj (by rw[h2]))
 have hgetp: ∀m,m<n→ ∃p,parts.toList[m]?=some p∧(bsL ρ parts.toList)[m]?=some (cE (un (ev ρ p.2))):=fun m hm=>by
  have h1:parts.toList[m]?=some (parts.toList[m]'(by omega)):=cEn aN;exact ⟨_,h1,by simp only[bsL,cDj,h1];rfl⟩
 have hbl:(bsL ρ parts.toList).length=n:=by simp only[bsL,cAr];exact hl
 obtain ⟨A',k1,k2⟩:=hsim.newRow hd (e:=e) (z:=i.size) (c:=n) (xs:=bsL ρ parts.toList) (us:=out) o2 (by
   unfold maxLen;have:n*1≤n*i.size:=cBh _ hz0;omega) (by rw[hbl];exact cCq _) (fun m x hx=>by
  have hm:m<n:=by
   rw[← hbl];rcases cBd m (bsL ρ parts.toList).length with h|h
   ·exact h
   rw[cAw h] at hx;cases hx
  obtain ⟨p,hp1,hp2⟩:=hgetp m hm;rw[hp2] at hx;cases hx;obtain ⟨_,h2,h3,h4⟩:=hpart m p hp1;refine ⟨(l3 hp m p hp1).2.2.1,fun r dv u hdv hu=>?_⟩;have hr:r<i.size:=by
   rw[← (l3 hp m p hp1).2.2.1];rcases cBd r (cE (un (ev ρ p.2))).length with h|h
   ·exact h
   rw[cAw h] at hdv;cases hdv
  rw[hout m p r hp1 hr] at hu;exact ⟨h3 u (by simpa using cBu hu),h4 r dv u hdv hu⟩)
 refine ⟨.slice (some ⟨w.heap.size,0,none⟩) n n,_,I,A',_,?_,?_,k2,hK⟩
 ·have hne:n*i.size≠0:=by
   have:=Nat.mul_pos hn0 hz0;omega
  have hmap:(parts.map fun p=>(p.1,a.eval p.2)).toList=vparts:=by simp[vparts]
  have h24: ¬(n*i.size>2^24):=by
   have:(2:Nat)^24=16777216:=by decide
   omega
  simp only[execOp,hop,Instr.buildSlice,Sem.run_bind,run_underlying hu,Result.andThen_ok,run_sizeOf w hi,Program.cellsOf,hi,cBj,bZy,h24,cFv,hne,zeroValue,run_typeInfo w hi,hzv,Sem.run_pure,Sem.run_ite];simp only[hmap];rw[← hzero,o1];simp[newRow]
 rw[hdst];rw[hbl] at k1;exact k1
def bPz (P:Program) (ρ:aV) (d:Nat) (sl:Option (TypeId×Nat×Nat)) (n:Nat) (parts:List (Nat×Operand)) (K:aV→Prop):Prop:=
 match sl with
 |some (e,z,_)=>(eE P e).isSome=true∧0<z∧0<n∧n*z≤16777216∧parts.length=n∧aAv ρ z 0 parts∧K (set (dG d ρ) d (.row e z (bsL ρ parts)))
 |none=>False
def aRq (z:Nat) (xs:List (List DV)) (k:DV→Prop) (_:Tg k):Prop:= ∃v,cF (frz z xs) v∧lO v=true∧k v
theorem aUc {z:Nat} {xs:List (List DV)} {k:DV→Prop} {t:Tg k} (v:DV) (h:cF (frz z xs) v) (h2:lO v=true) (hk:k v):aRq z xs k t:=⟨v,h,h2,hk⟩
def uL (d:Nat) (K:aV→Prop) (ρ:aV):Prop:=
 match ρ d with
 | .row _ z xs=>aRq z xs (fun v=>K (set (dG d ρ) d v)) ⟨⟩
 |_=>False
theorem aGf {o:Oper} {d:Nat} {K:aV→Prop} (hd:d<100000) (h:OW P nt ops o (uL d K) ρ):OW P nt ops o K ρ:=by
 intro ro ds I A a w hs hdf next Q' hn
 refine h ro ds I A a w hs hdf next Q' fun I' A' a' w' ρ' q1 q2 q3 q4=>?_
 unfold uL at q4;split at q4
 ·rename_i e z xs hrow;obtain ⟨v,hv,hp,hK⟩:=q4;obtain ⟨I2,A2,r1,r2⟩:=q1.frz hd hrow;refine hn I2 A2 a' w' _ ?_ q2 (q3.trans r2) hK;refine ⟨⟨fun t=>?_,r1.osim.inj,r1.osim.sep,r1.osim.imm⟩,r1.size,r1.bound,fun i hi=>?_,fun t ht=>?_⟩
  ·have:=r1.osim.own t;simp only[bC] at this ⊢;split
   ·exact d8.ofPure (by cases v<;>first|rfl|cases hp)
   rename_i e1;rw[if_neg e1] at this;exact this
  ·have:=r1.slot i hi;simp only[bC] at this ⊢;split
   ·rename_i e1;rw[if_pos e1] at this;exact .ofRel (hv _ _ _ _ (this.rel rfl))
   rename_i e1;rw[if_neg e1] at this;exact this
  have:=r1.out t ht;simp only[bC] at this ⊢;rw[if_neg aN] at this ⊢;exact this
 exact q4.elim
def cX (P:Program) (ρ:aV) (op:Op) (dst:Option Nat) (K:aV→Prop):Prop:=
 match op,dst with
 | .buildSlice t (n+1) parts,some d=>bPz P ρ d (pT P t) (n+1) parts.toList K
 | .call ⟨.builtin .append,args,ts⟩,some d=>aEk P ρ (.call ⟨.builtin .append,args,ts⟩) (some d) (uL d K)
 |op,dst=>aEk P ρ op dst K
theorem aQo (hnt:nt≤100000) {o:Oper} {K:aV→Prop} (hg:o.guard=none) (ho:dP nt o=true) (hd:d3 nt o=true) (h:cX P ρ o.op o.dst K):OW P nt ops o K ρ:=by
 unfold cX at h;split at h
 ·rename_i t n parts d hop hdst;unfold bPz at h;split at h
  ·rename_i e z by_ hs;obtain ⟨q1,q2,q3,q4,q5,q6,q7⟩:=h;obtain ⟨zs,hz⟩:=cAu.1 q1;have hdn:d<nt:=by unfold d3 at hd;rw[hdst] at hd;simpa using hd
   exact bEz hop hg hdst hdn ho hs hz q2 q3 q4 q5 q6 q7
  exact h.elim
 ·rename_i args ts d hop hdst;have hdn:d<nt:=by unfold d3 at hd;rw[hdst] at hd;simpa using hd
  refine aGf (d:=d) aN (cC hg ho hd ?_);rw[hop,hdst];exact h
 exact cC hg ho hd h
def sEF (P:Program) (nt:Nat) (fl:List Nat) (l:List Oper) (i:Nat) (K:aV→Prop) (ρ:aV):Prop:=
 match l[i]? with
 |none=>K ρ
 |some o=>if pur fl i o then ∃d,gY P l ρ o d∧K (putD ρ o.dst d) else OW P nt l.toArray o K ρ
theorem aZd {fl:List Nat} {l:List Oper} {i:Nat} {K K':aV→Prop} (h: ∀ρ,K ρ→K' ρ) (hh:sEF P nt fl l i K ρ):sEF P nt fl l i K' ρ:=by
 unfold sEF at*;split
 ·rename_i hi;rw[hi] at hh;exact h _ hh
 rename_i o hi;rw[hi] at hh;simp only at hh;split
 ·rename_i hp;rw[if_pos hp] at hh;obtain ⟨d,h1,h2⟩:=hh;exact ⟨d,h1,h _ h2⟩
 rename_i hp;rw[if_neg hp] at hh;exact hh.mono h
def vC (P:Program) (nt:Nat) (fl:List Nat) (l:List Oper) (k:aV→Prop):Nat→Array Bool→aV→Prop
 |0,listed,ρ=>Region.ready .any l.toArray listed=[]∧k ρ
 |fuel+1,listed,ρ=>(Region.ready .any l.toArray listed=[]→k ρ)∧ ∀i∈Region.ready .any l.toArray listed,sEF P nt fl l i (vC P nt fl l k fuel (listed.setIfInBounds i true)) ρ
theorem tS {ro:Option Nat} {ds:List Deferred} {fl:List Nat} {l:List Oper} {k:aV→Prop} {Q':Exit→Act→World→Prop} (hr:kH nt l=true): ∀(fuel:Nat) (listed:Array Bool) (ρ:aV) (I:Nat→Prop) (A:cY) (a:Act) (w:World),
  vC P nt fl l k fuel listed ρ→cV nt w I A ρ a→a.defers=ds→
  (∀I' A' a' w' ρ',cV nt w' I' A' ρ' a'→a'.defers=ds→e8 w I A w' I' A'→k ρ'→Q' .normal a' w')→wpAnyIn (FR ro) 0 P .any l.toArray Q' fuel listed a w
 |0,listed,ρ,I,A,a,w,h,hs,hd,hk=>⟨h.1,hk I A a w ρ hs hd (e8.refl _ _ _) h.2⟩
 |fuel+1,listed,ρ,I,A,a,w,h,hs,hd,hk=>by
  refine ⟨fun h0=>hk I A a w ρ hs hd (e8.refl _ _ _) (h.1 h0),fun i hi=>?_⟩;have h2:=h.2 i hi;have rec_: ∀I' A' a' w' ρ',cV nt w' I' A' ρ' a'→a'.defers=ds→e8 w I A w' I' A'→vC P nt fl l k fuel (listed.setIfInBounds i true) ρ'→wpAnyIn (FR ro) 0 P .any l.toArray Q' fuel (listed.setIfInBounds i true) a' w':=
   fun I' A' a' w' ρ' q1 q2 q3 q4=>tS hr fuel _ ρ' I' A' a' w' q4 q1 q2 fun I2 A2 a2 w2 ρ2 k1 k2 k3 k4=>hk I2 A2 a2 w2 ρ2 k1 k2 (q3.trans k3) k4
  unfold wpOpIn;unfold sEF at h2;simp only[cEu];split
  ·rename_i ho;rw[ho] at h2;exact rec_ I A a w ρ hs hd (e8.refl _ _ _) h2
  rename_i o ho;rw[ho] at h2;have hOW:OW P nt l.toArray o (vC P nt fl l k fuel (listed.setIfInBounds i true)) ρ:=by
   simp only at h2;split at h2
   ·rename_i hp;obtain ⟨d,k1,k2⟩:=h2;exact oK (lT hr) (e9 hr ho).1 (e9 hr ho).2 (aBj hp).2 k1 k2
   exact h2
  have:=hOW ro ds I A a w hs hd (wpAnyIn (FR ro) 0 P .any l.toArray Q' fuel (listed.setIfInBounds i true)) Q' rec_;split at this
  ·rename_i hw;rw[if_pos hw];exact this
  rename_i hw;rw[if_neg hw];exact this
theorem bHd {fl:List Nat} {l:List Oper} {j:Nat} {oi oj:Oper} {d:DV} (hj:l[j]?=some oj) (hpj:(pur fl j oj)=true) {ki:Nat} (hki:oi.dst=some ki) (hap:oi.apart l.toArray oj=true) {K:aV→Prop}
  (hy:gY P l ρ oi d) (h:sEF P nt fl l j K (putD ρ oi.dst d)):sEF P nt fl l j (fun ρ'=>gY P l ρ' oi d∧K (putD ρ' oi.dst d)) ρ:=by
 obtain ⟨h1,h2,h3⟩:=Oper.apart_spec hap;unfold sEF at h ⊢;rw[hj] at h ⊢;simp only[hpj,if_true] at h ⊢;obtain ⟨u,k1,k2⟩:=h;obtain ⟨kj,hkj⟩:=cAu.1 (aBj hpj).2;have hne:kj≠ki:=fun e=>h2 ki hki (by rw[hkj,e]);have hdi:bX d=false:=hy.1;have hui:bX u=false:=k1.1;have hρi:bX (ρ ki)=false:=hy.2.1 ki hki;have hρj:bX (ρ kj)=false:=by
  have:=k1.2.1 kj hkj;rw[hki,cD,bC,if_neg hne] at this;exact this
 refine ⟨u,?_,?_,?_⟩
 ·have:=nQ (ρ:=putD ρ oi.dst d) (k:=ki) (u:=ρ ki) hρi (by rw[hki,cD,bC,if_pos rfl];exact hdi) (h1 ki hki) (fun e=>hne (by rw[hkj] at e;cases e;rfl)) k1;rw[hki,cD,aBr] at this;exact this
 ·rw[hkj,cD];exact nQ hui hρj (h3 kj hkj) (fun e=>hne (by rw[hki] at e;cases e;rfl)) hy
 rw[hki,hkj] at k2;rw[hki,hkj];have:putD (putD ρ (some kj) u) (some ki) d=putD (putD ρ (some ki) d) (some kj) u:=by
  funext i;simp only[cD,bC];by_cases e1:i=ki
  ·rw[if_pos e1,if_neg (by rw[e1];exact fun e=>hne e.symm),if_pos e1]
  simp only[if_neg e1]
 rw[this];exact k2
def jN (l:List Oper) (i:Nat):List Nat:=
 (List.range l.length).foldl (fun acc j=>match l[j]? with
  |some o=>if o.after.any (fun e=>Region.binds .any e&&(e.on==i||acc.contains e.on)) then j::acc else acc
  |none=>acc) []
def aPo (fl:List Nat) (l:List Oper) (listed:Array Bool) (i:Nat):Bool:=
 match l[i]? with
 |none=>false
 |some oi=>(pur fl i oi&&(jN l i).all fun j=> !listed.getD j true&&match l[j]? with
   |some o=>o.after.any (fun e=>Region.binds .any e&&(e.on==i||(jN l i).contains e.on))
   |none=>false)&&(List.range l.length).all fun j=>
  j==i||listed.getD j true||(jN l i).contains j||match l[j]? with
   |none=>true
   |some oj=>pur fl j oj&&oi.apart l.toArray oj
theorem rH {fl:List Nat} {l:List Oper} {k:aV→Prop} {i:Nat} {oi:Oper} {d:DV} (hi:l[i]?=some oi) (hpi:(pur fl i oi)=true) (D:Nat→Prop)
  (hD: ∀j oj,D j→l[j]?=some oj→ ∃e∈oj.after,Region.binds .any e=true∧(e.on=i∨D e.on)):
  ∀(fuel:Nat) (listed:Array Bool) (ρ:aV),(∀j,D j→listed.getD j true=false)→
   (∀j oj,l[j]?=some oj→j≠i→listed.getD j true=false→ ¬D j→(pur fl j oj)=true∧oi.apart l.toArray oj=true)→
   i∈Region.ready .any l.toArray listed→gY P l ρ oi d→vC P nt fl l k fuel (listed.setIfInBounds i true) (putD ρ oi.dst d)→vC P nt fl l k (fuel+1) listed ρ:=by
 obtain ⟨ki,hki⟩:=cAu.1 (aBj hpi).2;have take: ∀{K:aV→Prop} {ρ:aV},gY P l ρ oi d→K (putD ρ oi.dst d)→sEF P nt fl l i K ρ:=fun h1 h2=>by
  unfold sEF;rw[hi];simp only[hpi,if_true];exact ⟨d,h1,h2⟩
 intro fuel
 induction fuel with
 |zero=>
  intro listed ρ _ _ hr hy H;refine ⟨fun h=>(by rw[h] at hr;cases hr),fun j hj=>?_⟩;by_cases hji:j=i
  ·subst hji;exact take hy H
  have:=ready_mono hj hji;rw[H.1] at this;cases this
 |succ fuel ih=>
  intro listed ρ hun0 hfree hr hy H;refine ⟨fun h=>(by rw[h] at hr;cases hr),fun j hj=>?_⟩;by_cases hji:j=i
  ·subst hji;exact take hy H
  have h1:=H.2 j (ready_mono hj hji);obtain ⟨hjun,oj,hoj,hall⟩:=mem_ready.1 hj;have hoj':l[j]?=some oj:=by simpa using hoj
  have hne: ∀m,listed.getD m true=false→ ∀e∈oj.after,Region.binds .any e=true→e.on≠m:=fun m h0 e he hb heq=>by
   have h1:=hall e he hb;rw[heq] at h1;rcases cBd m listed.size with h'|h'
   ·simp[h'] at h0 h1;rw[h0] at h1;cases h1
   simp[cDy h'] at h1
  have hnot: ¬D j:=fun hDj=>by
   obtain ⟨e,he,hb,hon|hon⟩:=hD j oj hDj hoj'
   ·exact hne i (mem_ready.1 hr).1 e he hb hon
   exact hne e.on (hun0 _ hon) e he hb rfl
  obtain ⟨hpj,hap⟩:=hfree j oj hoj' hji hjun hnot;have h2:=bHd hoj' hpj hki hap hy h1;have hset: ∀m,j≠m→(listed.setIfInBounds j true).getD m true=listed.getD m true:=fun m h=>getD_set_ne true h;have hun': ∀m,D m→(listed.setIfInBounds j true).getD m true=false:=fun m hm=>by
   rw[hset m (fun e=>hnot (e▸hm))];exact hun0 m hm
  have hfree': ∀m om,l[m]?=some om→m≠i→(listed.setIfInBounds j true).getD m true=false→ ¬D m→(pur fl m om)=true∧oi.apart l.toArray om=true:=fun m om hm hmi hun hno=>by
   refine hfree m om hm hmi ?_ hno;by_cases hjm:j=m
   ·subst hjm;exact hjun
   rw[hset m hjm] at hun;exact hun
  refine aZd (fun ρ' h3=>ih (listed.setIfInBounds j true) ρ' hun' hfree' (ready_mono hr (bZv hji)) h3.1 ?_) h2;rw[cFl _ _ hji];exact h3.2
theorem aJp {fl:List Nat} {l:List Oper} {listed:Array Bool} {i:Nat} {oi:Oper} (hi:l[i]?=some oi) (h:aPo fl l listed i=true):(pur fl i oi)=true∧
  (∀j oj,j∈jN l i→l[j]?=some oj→ ∃e∈oj.after,Region.binds .any e=true∧(e.on=i∨e.on∈jN l i))∧(∀j,j∈jN l i→listed.getD j true=false)∧
  ∀j oj,l[j]?=some oj→j≠i→listed.getD j true=false→ ¬j∈jN l i→(pur fl j oj)=true∧oi.apart l.toArray oj=true:=by
 unfold aPo at h;rw[hi] at h;generalize jN l i=D at h ⊢;simp only[bZi] at h;obtain ⟨⟨h1,h2⟩,h3⟩:=h;rw[cCk] at h2 h3;refine ⟨h1,fun j oj hj hoj=>?_,fun j hj=>?_,fun j oj hj hne hun hno=>?_⟩
 ·have:=h2 j hj;rw[hoj] at this;simp only[bZi,Array.any_eq_true',cEx,cCe] at this;obtain ⟨_,e,he,hb,hon⟩:=this;exact ⟨e,he,hb,hon.imp id fun h=>by simpa using h⟩
 ·have:=h2 j hj;simp only[bZi,cAz] at this;exact this.1
 have hlt:j<l.length:=by
  rcases cBd j l.length with h|h
  ·exact h
  rw[cAw h] at hj;cases hj
 have:=h3 j (by simpa using hlt);rw[hj] at this;simp only[cEx,bZi,cCe] at this;rcases this with ((h|h)|h)|h
 ·exact absurd h hne
 ·rw[hun] at h;cases h
 ·exact absurd (by simpa using h) hno
 exact h
def aFv (fl:List Nat) (l:List Oper):List Nat→Array Bool→Bool
 | [],listed=>(Region.ready .any l.toArray listed).isEmpty
 |i::r,listed=>((Region.ready .any l.toArray listed).contains i&&aPo fl l listed i||Region.ready .any l.toArray listed==[i])&&aFv fl l r (listed.setIfInBounds i true)
def aDf (P:Program) (nt:Nat) (fl:List Nat) (l:List Oper) (k:aV→Prop):List Nat→aV→Prop
 | [],ρ=>k ρ
 |i::r,ρ=>match l[i]? with
  |none=>False
  |some o=>if pur fl i o then ∃d,gY P l ρ o d∧aDf P nt fl l k r (putD ρ o.dst d) else OW P nt l.toArray o (aDf P nt fl l k r) ρ
theorem nW {fl:List Nat} {l:List Oper} {k:aV→Prop}: ∀(r:List Nat) (listed:Array Bool) (ρ:aV),aFv fl l r listed=true→aDf P nt fl l k r ρ→vC P nt fl l k r.length listed ρ
 | [],_,_,hB,h=>⟨by simpa[aFv] using hB,h⟩
 |i::r,listed,ρ,hB,h=>by
  simp only[aFv,bZi,cEx] at hB;obtain ⟨hB1,hB2⟩:=hB;unfold aDf at h;split at h
  ·exact h.elim
  rename_i o h0;rcases hB1 with ⟨hr,hf⟩|hone
  ·obtain ⟨hp,hD,hun,hfree⟩:=aJp h0 hf;rw[if_pos hp] at h;obtain ⟨d,k1,k2⟩:=h;exact rH h0 hp (fun j=>j∈jN l i) hD r.length listed ρ hun hfree (by simpa using hr) k1 (nW r _ _ hB2 k2)
  have hone:Region.ready .any l.toArray listed=[i]:=by simpa using hone
  refine ⟨fun h=>(by rw[hone] at h;cases h),fun j hj=>?_⟩;rw[hone] at hj;obtain rfl:j=i:=by simpa using hj
  unfold sEF;rw[h0];simp only;split
  ·rename_i hp;rw[if_pos hp] at h;obtain ⟨d,k1,k2⟩:=h;exact ⟨d,k1,nW r _ _ hB2 k2⟩
  rename_i hp;rw[if_neg hp] at h;exact h.mono fun ρ' h'=>nW r _ _ hB2 h'
def oJ (P:Program) (all:List Oper) (o:Oper) (f:Bool) (K:aV→Prop) (ρ:aV):Prop:=
 match o.guard with
 |none=>(match f,dT o.op&&o.dst.isSome with
  |true,_=>cX P ρ o.op o.dst K
  |false,true=>prG P ρ o.op o.dst K
  |false,false=>aEk P ρ o.op o.dst K)
 |some (j,want)=>(match f with
  |true=>False
  |false=>gdG P ρ o.op o.dst (gAt all ρ j want) K)
theorem aGp {cl:List (Nat×Nat)} {c:Code} {Q:Exit→aV→Prop} (hc:(cl.all fun p=>decide (p.1<nt)&&decide (p.2<nt)&&p.1 !=p.2)=true)
  (h1:AW P nt c (fun e ρ=>match e with| .normal=>clG cl (Q .normal) ρ|e=>Q e ρ) ρ):AW P nt c Q ρ:=by
 intro ro ds I A a w hs hd;refine wpIn_mono (h1 ro ds I A a w hs hd) ?_;intro e a1 w1 ⟨I1,A1,ρ1,k1,k2,k3,k4⟩;cases e with
 |normal=>
  obtain ⟨A2,ρ2,r1,r2,r3⟩:=cV.claims cl k1 hc k4;exact ⟨I1,A2,ρ2,r1,k2,k3.trans r2,r3⟩
 |exit i=>exact ⟨I1,A1,ρ1,k1,k2,k3,k4⟩
 |goto l=>exact ⟨I1,A1,ρ1,k1,k2,k3,k4⟩
 |ret=>exact ⟨I1,A1,ρ1,k1,k2,k3,k4⟩
 |panic ch=>exact ⟨I1,A1,ρ1,k1,k2,k3,k4⟩
 |outgrown=>exact ⟨I1,A1,ρ1,k1,k2,k3,k4⟩
end
@[congr] theorem SettleG_congr {z:Nat} {xs xs':List (List DV)} {k:DV→Prop} {t:Tg k} (h:xs=xs'):aRq z xs k t=aRq z xs' k t:=by rw[h]
section
variable {P:Program} {ρ:aV} (all:List Oper) (os:List (Oper×Bool)) (k:aV→Prop) (d:Option Tmp) (op:Op) (ty:TypeId) (pos:String) (af:Array Edge) (j:Nat) (want:Bool)
variable (K:aV→Prop) (dd:Nat) (t:TypeId) (n:Nat) (parts:Array (Nat×Operand)) (x y:Operand)
theorem cHn:cX P ρ (.buildSlice t (n+1) parts) (some dd) K=bPz P ρ dd (pT P t) (n+1) parts.toList K:=rfl
theorem cGm:cX P ρ (.buildSlice t 0 parts) (some dd) K=aEk P ρ (.buildSlice t 0 parts) (some dd) K:=rfl
theorem cId:cX P ρ (.makeSlice t x y) (some dd) K=aEk P ρ (.makeSlice t x y) (some dd) K:=rfl
theorem cHf:cX P ρ (.assign x) d K=aEk P ρ (.assign x) d K:=by cases d<;>rfl
theorem cHk (args:Array Operand) (ts:Array TypeId):cX P ρ (.call ⟨.builtin .append,args,ts⟩) (some dd) K=aEk P ρ (.call ⟨.builtin .append,args,ts⟩) (some dd) (uL dd K):=rfl
end
attribute [go_sem] cHn cGm cId cHf cHk bPz uL
end Go.Sg
namespace Go.Sg
open Go.RowKit
open Go.Rv (FR)
section
variable {P:Program} {nt:Nat} {ρ:aV}
def opX (P:Program) (fl:List Nat) (l:List Oper) (i:Nat) (K:aV→Prop) (ρ:aV):Prop:=
 match l[i]? with
 |none=>False
 |some o=>oJ P l o (fl.contains i) K ρ
theorem bPv (hnt:nt≤100000) {l:List Oper} {o:Oper} {i:Nat} {f:Bool} {K:aV→Prop} (hr:kH nt l=true) (hgo:l.all gOk=true) (hi:l[i]?=some o) (h:oJ P l o f K ρ):OW P nt l.toArray o K ρ:=by
 obtain ⟨h1,h2⟩:=e9 hr hi;unfold oJ at h;split at h
 ·rename_i hg;split at h
  ·exact aQo hnt hg h1 h2 h
  ·rename_i hf hp;obtain ⟨d,k1,k2⟩:=aAb (all:=l) hg h;simp only[bZi] at hp;exact oK (lT hr) h1 h2 hp.2 k1 k2
  exact cC hg h1 h2 h
 rename_i j want hg;split at h
 ·exact h.elim
 have hgk:=cCk.1 hgo o (cDb hi);unfold gOk at hgk;rw[hg] at hgk;simp only[cAc,cCl] at hgk;obtain ⟨d,k1,k2⟩:=sG hg hgk h;simp only[bZi] at hgk;exact oK (lT hr) h1 h2 hgk.2 k1 k2
theorem bOx {fl:List Nat} {l:List Oper} {i:Nat} {o:Oper} {f:Bool} {K:aV→Prop} (h:l[i]?=some o) (hf:fl.contains i=f) (hk:oJ P l o f K ρ):opX P fl l i K ρ:=by
 unfold opX;rw[h,hf];exact hk
def bHx (P:Program) (fl:List Nat) (l:List Oper) (k:aV→Prop):Nat→Array Bool→aV→Prop
 |0,listed,ρ=>Region.ready .any l.toArray listed=[]∧ ∃ρ',Le ρ ρ'∧k ρ'
 |fuel+1,listed,ρ=> ∃ρ',Le ρ ρ'∧(Region.ready .any l.toArray listed=[]→k ρ')∧ ∀i∈Region.ready .any l.toArray listed,opX P fl l i (bHx P fl l k fuel (listed.setIfInBounds i true)) ρ'
theorem aAf {ro:Option Nat} {ds:List Deferred} {fl:List Nat} {l:List Oper} {k:aV→Prop} {Q':Exit→Act→World→Prop} (hr:kH nt l=true) (hgo:l.all gOk=true): ∀(fuel:Nat) (listed:Array Bool) (ρ:aV) (I:Nat→Prop) (A:cY) (a:Act) (w:World),
  bHx P fl l k fuel listed ρ→cV nt w I A ρ a→a.defers=ds→
  (∀I' A' a' w' ρ',cV nt w' I' A' ρ' a'→a'.defers=ds→e8 w I A w' I' A'→k ρ'→Q' .normal a' w')→wpAnyIn (FR ro) 0 P .any l.toArray Q' fuel listed a w
 |0,listed,ρ,I,A,a,w,h,hs,hd,hk=>by
  obtain ⟨h1,ρ',hl,h2⟩:=h;exact ⟨h1,hk I A a w ρ' (hs.weaken hl) hd (e8.refl _ _ _) h2⟩
 |fuel+1,listed,ρ,I,A,a,w,h,hs,hd,hk=>by
  obtain ⟨ρ',hl,h1,h2⟩:=h;have hs:=hs.weaken hl;refine ⟨fun h0=>hk I A a w ρ' hs hd (e8.refl _ _ _) (h1 h0),fun i hi=>?_⟩;have h2:=h2 i hi;have rec_: ∀I' A' a' w' ρ'',cV nt w' I' A' ρ'' a'→a'.defers=ds→e8 w I A w' I' A'→bHx P fl l k fuel (listed.setIfInBounds i true) ρ''→wpAnyIn (FR ro) 0 P .any l.toArray Q' fuel (listed.setIfInBounds i true) a' w':=
   fun I' A' a' w' ρ'' q1 q2 q3 q4=>aAf hr hgo fuel _ ρ'' I' A' a' w' q4 q1 q2 fun I2 A2 a2 w2 ρ2 k1 k2 k3 k4=>hk I2 A2 a2 w2 ρ2 k1 k2 (q3.trans k3) k4
  unfold wpOpIn;unfold opX at h2;simp only[cEu];split
  ·rename_i ho;rw[ho] at h2;exact h2.elim
  rename_i o ho;rw[ho] at h2;have:=bPv hs.bound hr hgo ho h2 ro ds I A a w hs hd (wpAnyIn (FR ro) 0 P .any l.toArray Q' fuel (listed.setIfInBounds i true)) Q' rec_;split at this
  ·rename_i hw;rw[if_pos hw];exact this
  rename_i hw;rw[if_neg hw];exact this
def clQ (cl:List (Nat×Nat)) (Q:Exit→aV→Prop):Exit→aV→Prop
 | .normal,ρ=>clG cl (Q .normal) ρ
 |e,ρ=>Q e ρ
theorem aOg {cl:List (Nat×Nat)} {c:Code} {Q:Exit→aV→Prop} (hc:(cl.all fun p=>decide (p.1<nt)&&decide (p.2<nt)&&p.1 !=p.2)=true) (h:AW P nt c (clQ cl Q) ρ):AW P nt c Q ρ:=
 aGp hc (bGz h fun e ρ h=>by cases e<;>exact h)
def yX (l:List Oper):Bool:=(List.range l.length).all fun i=>match l[i]? with
 |some o=>o.after.all fun e=> !Region.binds .any e||decide (e.on<i)
 |none=>true
theorem qA {l:List Oper} {listed:Array Bool} (hb:yX l=true) (hsz:listed.size=l.length) (h: ∃i,i<l.length∧listed.getD i true=false):Region.ready .any l.toArray listed≠[]:=by
 have key: ∀i,i<l.length→listed.getD i true=false→ ∃j,j∈Region.ready .any l.toArray listed:=by
  intro i
  induction i using Nat.strongRecOn with
  |_ i ih=>
   intro hi hun;have ho:l[i]?=some l[i]:=cEn hi;by_cases hd: ∀e∈l[i].after,Region.binds .any e=true→listed.getD e.on false=true
   ·exact ⟨i,mem_ready.2 ⟨hun,l[i],by simp,hd⟩⟩
   simp only[Classical.not_forall] at hd;obtain ⟨e,he,hbi,hl⟩:=hd;have hlt:e.on<i:=by
    unfold yX at hb;rw[cCk] at hb;have:=hb i (by simpa using hi);rw[ho] at this;have:=Array.all_eq_true'.1 this e he;rw[hbi] at this;simpa using this
   refine ih e.on hlt aN ?_;have hs:e.on<listed.size:=by omega
   simp[cAt hs] at hl ⊢;exact hl
 obtain ⟨i,hi,hun⟩:=h;obtain ⟨j,hj⟩:=key i hi hun;intro h0;rw[h0] at hj;cases hj
def bOr (p:Nat→Prop):List Nat→Prop
 | []=>True
 |i::r=>p i∧bOr p r
theorem aKr {p:Nat→Prop}: ∀{r:List Nat},bOr p r→ ∀i∈r,p i
 | [],_,i,h=>by simp at h
 |j::r,h,i,hi=>by
  rcases cDt.1 hi with rfl|hi
  ·exact h.1
  exact aKr h.2 i hi
theorem aZw (L fl:List Nat) (cl:List (Nat×Nat)) {id:Nat} {l:List Oper} {Q:Exit→aV→Prop} (hm:P.follows .mixedOrders=true) (hr:(gL nt l&&cl.all fun p=>decide (p.1<nt)&&decide (p.2<nt)&&p.1 !=p.2)=true)
  (h: ∀Y:Nat→Array Bool→aV→Prop,(∀(n:Nat) (listed:Array Bool) (L:List Nat) (rd:List Nat) (ρ:aV),(Region.ready .any l.toArray listed==rd)=true→rd.isEmpty=false→bOr (fun i=>opX P fl l i (Y n (listed.setIfInBounds i true)) (keepC L ρ)) rd→Y (n+1) listed ρ)→
   (∀(n:Nat) (listed:Array Bool) (L:List Nat) (ρ:aV),yX l=true→listed.size=l.length→(∃i,i<l.length∧listed.getD i true=false)→(∀(i:Nat) (o:Oper),listed.getD i true=false→l[i]?=some o→(∀e∈o.after,Region.binds .any e=true→listed.getD e.on false=true)→oJ P l o (fl.contains i) (Y n (listed.setIfInBounds i true)) (keepC L ρ))→Y (n+1) listed ρ)→
   (∀(listed:Array Bool) (L:List Nat) (ρ:aV),(Region.ready .any l.toArray listed).isEmpty=true→clG cl (Q .normal) (keepC L ρ)→Y 0 listed ρ)→Y l.length (Array.replicate l.length false) (keepC L ρ)):AW P nt (.region id l.toArray true) Q ρ:=by
 simp only[gL,bZi] at hr;obtain ⟨⟨h1,h2⟩,h3⟩:=hr;have hY:=h (bHx P fl l (clG cl (Q .normal))) (fun n listed L rd ρ q1 q2 q3=>by
  have q1:Region.ready .any l.toArray listed=rd:=by simpa using q1
  refine ⟨_,Le.keepC L ρ,fun h0=>?_,?_⟩
  ·rw[q1] at h0;rw[h0] at q2;cases q2
  rw[q1];exact aKr q3) (fun n listed L ρ p1 p2 p3 q2=>⟨_,Le.keepC L ρ,fun h0=>absurd h0 (qA p1 p2 p3),fun i hi=>by
  obtain ⟨hun,o,ho,hdep⟩:=mem_ready.1 hi;have ho':l[i]?=some o:=by simpa using ho
  refine bOx ho' rfl (q2 i o hun ho' fun e he hb=>?_);exact hdep e he hb⟩) (fun listed L ρ q1 q2=>⟨by simpa using q1,_,Le.keepC L ρ,q2⟩)
 refine aOg h3 ?_;refine dY (Le.keepC L ρ) ?_;intro ro ds I A a w hs hd;refine wpIn_region_any hm ?_;have hgr:mI w I w.drew I:=⟨rfl,⟨rfl,cEq _⟩,rfl,cCq _,fun _ _=>rfl,fun _ h=>h,fun _ h=>.inl h⟩
 have:=aAf (ro:=ro) (Q':=fun e a' w'=> ∃I' A' ρ',cV nt w' I' A' ρ' a'∧a'.defers=ds∧e8 w I A w' I' A'∧clQ cl Q e ρ') h1 h2 _ _ (keepC L ρ) I A a w.drew hY (hs.grow hgr) hd
  fun I' A' a' w' ρ' q1 q2 q3 q4=>⟨I',A',ρ',q1,q2,(hgr.ext hs.osim).trans q3,q4⟩
 simpa using this
end
section
variable {P:Program} {ρ:aV} (all:List Oper) (K:aV→Prop) (d:Option Tmp) (op:Op) (ty:TypeId) (pos:String) (af:Array Edge) (j:Nat) (want:Bool)
theorem aVo:oJ P all ⟨d,op,ty,pos,af,none⟩ false K ρ=(match dT op&&d.isSome with
   |true=>prG P ρ op d K
   |false=>aEk P ρ op d K):=by
 unfold oJ;simp only;generalize (dT op&&d.isSome)=b;cases b<;>rfl
theorem cJd:oJ P all ⟨d,op,ty,pos,af,none⟩ true K ρ=cX P ρ op d K:=rfl
theorem cGo:oJ P all ⟨d,op,ty,pos,af,some (j,want)⟩ false K ρ=gdG P ρ op d (gAt all ρ j want) K:=rfl
end
def aX (b:Bool) (x:DV):DV:=bif b then x else .any
theorem cGt (x:DV):aX true x=x:=rfl
theorem cGg (x:DV):aX false x=.any:=rfl
def jB (s b:Bool) (x y:DV):DV:=bif s then x else bif b then y else .any
theorem cGw (b:Bool) (x y:DV):jB true b x y=x:=rfl
theorem cIl (x y:DV):jB false true x y=y:=rfl
theorem cJa (x y:DV):jB false false x y=.any:=rfl
theorem bBr (p:Nat→Bool) (b:Bool) (x:DV):dI p (aX b x)=(!b||dI p x):=by cases b<;>simp[aX,dI]
theorem aVh (p:Nat→Bool) (s b:Bool) (x y:DV):dI p (jB s b x y)=((!s||dI p x)&&(s|| !b||dI p y)):=by cases s<;>cases b<;>simp[jB,dI]
attribute [go_sem] aVo cJd cGo cGt cGg cGw cIl cJa bBr aVh Bool.or_true
end Go.Sg
namespace Go.Sg
open Go.RowKit
open Go.Rv (FR)
structure Hd where
 B:Option Nat
 b:Option Addr
 c:Nat
abbrev iY:Hd:=⟨none,none,0⟩
abbrev Hd.sl (h:Hd) (n:Nat):DV:=.v (.slice h.b n h.c)
inductive Rg where
 |row (h:Hd) (e:TypeId) (z:Nat) (l:List (List DV))
 |map (g c:Nat) (es:List (Value×Value))
def Rg.B:Rg→Option Nat
 | .row h _ _ _=>h.B
 | .map g _ _=>some g
def Rg.holds (w:World) (I:Nat→Prop):Rg→Prop
 | .row h e z l=>l6 h.B h.b∧hU w I e z l h.B h.c
 | .map g _ es=> ∃vs cl,w.heap[g]?=some (.map (List.toArray vs) cl)∧vs.map (fun (m:MapEntry)=>(m.key,m.val))=es
structure p7 (w:World) (I:Nat→Prop) (A:cY) (r:Rg):Prop where
 holds:r.holds w I
 free: ∀g,r.B=some g→g<w.heap.size∧ ¬I g∧ ∀s c,A s≠some (some g,c)
structure XG (w0:World) (I0:Nat→Prop) (A0:cY) (G0:Nat→Prop) (w:World) (I:Nat→Prop) (A:cY):Prop where
 os:w.os=w0.os
 tape:w.tape=w0.tape∧w0.drawn≤w.drawn
 output:w.output=w0.output
 size:w0.heap.size≤w.heap.size
 imm: ∀g,I0 g→I g
 old: ∀g,g<w0.heap.size→(∀s c,A0 s≠some (some g,c))→ ¬G0 g→w.heap[g]?=w0.heap[g]?∧(I g→I0 g)∧ ∀s c,A s≠some (some g,c)
 outA: ∀s,100000≤s→A s=A0 s
 loc: ∀s g c,A s=some (some g,c)→g<w0.heap.size→s<100000→G0 g∨ ∃t c',t<100000∧A0 t=some (some g,c')
def oZ (rs:List Rg):Prop:=rs.Pairwise fun x y=> ∀g,x.B=some g→y.B≠some g
def lR (w0:World) (I0:Nat→Prop) (A0:cY) (G0:Nat→Prop) (rs:List Rg) (w:World) (I:Nat→Prop) (A:cY):Prop:=
 (∀r∈rs,p7 w I A r)∧oZ rs∧(∀r∈rs,∀g,r.B=some g→G0 g∨w0.heap.size≤g)∧XG w0 I0 A0 G0 w I A
section
variable {w0:World} {I0:Nat→Prop} {A0:cY} {G0:Nat→Prop}
theorem XG.refl (w:World) (I:Nat→Prop) (A:cY) (G:Nat→Prop):XG w I A G w I A:=⟨rfl,⟨rfl,cCq _⟩,rfl,cCq _,fun _ h=>h,fun g _ hA _=>⟨rfl,fun h=>h,hA⟩,fun _ _=>rfl,fun s g c h _ hs=>.inr ⟨s,c,hs,h⟩⟩
theorem XG.ext {w w':World} {I I':Nat→Prop} {A A':cY} (h:XG w0 I0 A0 G0 w I A) (k:e8 w I A w' I' A'):XG w0 I0 A0 G0 w' I' A' where
 os:=k.os.trans h.os
 tape:=⟨k.tape.1.trans h.tape.1,cBc h.tape.2 k.tape.2⟩
 output:=k.output.trans h.output
 size:=cBc h.size k.size
 imm:=fun g hg=>k.imm g (h.imm g hg)
 old:=fun g hg hA hG=>by
  obtain ⟨h1,h2,h3⟩:=h.old g hg hA hG;obtain ⟨k1,k2,k3⟩:=k.old g (cDi hg h.size) h3;exact ⟨k1.trans h1,fun x=>h2 (k2 x),k3⟩
 outA:=fun s hs=>(k.outA s hs).trans (h.outA s hs)
 loc:=fun s g c hA hg hs=>by
  obtain ⟨t,c',ht,hAt⟩:=k.loc s g c hA (cDi hg h.size) hs;exact h.loc t g c' hAt hg ht
theorem hU.ofG {w w':World} {I I':Nat→Prop} {e:TypeId} {z:Nat} {xs:List (List DV)} {B:Option Nat} {c:Nat} (h:hU w I e z xs B c) (hb: ∀g,B=some g→w'.heap[g]?=w.heap[g]?) (hr: ∀d x,bN w I cU d x→bN w' I' cU d x):hU w' I' e z xs B c:=by
 cases B with
 |none=>exact h
 |some g=>
  obtain ⟨us,q1,q2,q3,q4,q5⟩:=h;exact ⟨us,(hb g rfl).trans q1,q2,q3,q4,fun i x hx=>⟨(q5 i x hx).1,fun j d u hd hu=>⟨((q5 i x hx).2 j d u hd hu).1,hr _ _ ((q5 i x hx).2 j d u hd hu).2⟩⟩⟩
theorem Rg.holds.ofG {w w':World} {I I':Nat→Prop} {r:Rg} (h:r.holds w I) (hb: ∀g,r.B=some g→w'.heap[g]?=w.heap[g]?) (hr: ∀d x,bN w I cU d x→bN w' I' cU d x):r.holds w' I':=by
 cases r with
 |row h' e z l=>exact ⟨h.1,h.2.ofG hb hr⟩
 |map g c es=>obtain ⟨vs,cl,h1,h2⟩:=h;exact ⟨vs,cl,(hb g rfl).trans h1,h2⟩
theorem p7.ext {w w':World} {I I':Nat→Prop} {A A':cY} {ρ:aV} {r:Rg} (hs:jX w I A ρ) (h:p7 w I A r) (k:e8 w I A w' I' A'):p7 w' I' A' r where
 holds:=h.holds.ofG (fun g hg=>(k.old g (h.free g hg).1 (h.free g hg).2.2).1) fun d x hr=>k.rel hs hr
 free:=fun g hg=>by
  obtain ⟨h1,h2,h3⟩:=h.free g hg;obtain ⟨k1,k2,k3⟩:=k.old g h1 h3;exact ⟨cDi h1 k.size,fun x=>h2 (k2 x),k3⟩
theorem lR.ext {w w':World} {I I':Nat→Prop} {A A':cY} {ρ:aV} {rs:List Rg} (hs:jX w I A ρ) (h:lR w0 I0 A0 G0 rs w I A) (k:e8 w I A w' I' A'):lR w0 I0 A0 G0 rs w' I' A':=
 ⟨fun r hr=>(h.1 r hr).ext hs k,h.2.1,h.2.2.1,h.2.2.2.ext k⟩
theorem lR.nil {w:World} {I:Nat→Prop} {A:cY} {s1 s2:List Rg} (h:lR w0 I0 A0 G0 (s1++s2) w I A) (e:TypeId) (z:Nat):lR w0 I0 A0 G0 (s1++(.row iY e z [])::s2) w I A:=by
 obtain ⟨f1,f2,f3,f4⟩:=h;have hm: ∀x∈s1++(.row iY e z [])::s2,x=(.row iY e z [])∨x∈s1++s2:=fun x hx=>by
  simp at hx ⊢;rcases hx with h|h|h
  ·exact .inr (.inl h)
  ·exact .inl h
  exact .inr (.inr h)
 refine ⟨fun r hr=>?_,?_,fun r hr g hg=>?_,f4⟩
 ·rcases hm r hr with rfl|h
  ·exact {holds:=⟨kG _,(show ([]:List (List DV))=[]∧(0:Nat)=0 from ⟨rfl,rfl⟩)⟩,free:=fun g hg=>(by cases hg)}
  exact f1 r h
 ·unfold oZ at f2 ⊢;rw[cDa] at f2 ⊢;refine ⟨f2.1,cBi.2 ⟨fun y hy g hg=>(by cases hg),f2.2.1⟩,fun x hx y hy g hg hy'=>?_⟩;rcases cDt.1 hy with rfl|hy
  ·cases hy'
  exact f2.2.2 x hx y hy g hg hy'
 rcases hm r hr with rfl|h
 ·cases hg
 exact f3 r h g hg
theorem lR.swap {w:World} {I:Nat→Prop} {A:cY} {rs rs':List Rg} (h:lR w0 I0 A0 G0 rs w I A) (hp:rs.Perm rs'):lR w0 I0 A0 G0 rs' w I A:=
 ⟨fun r hr=>h.1 r (hp.mem_iff.2 hr),h.2.1.perm hp fun {x y} hxy g hg hg'=>hxy g hg' hg,fun r hr=>h.2.2.1 r (hp.mem_iff.2 hr),h.2.2.2⟩
end
def mL {σ:Type} (P:Program) (nt:Nat) (F:σ→World→(Nat→Prop)→cY→Prop) (c:Code) (Q:Exit→σ→aV→Prop) (s:σ) (ρ:aV):Prop:=
 ∀(ro:Option Nat) (ds:List Deferred) I A a w,cV nt w I A ρ a→a.defers=ds→F s w I A→
  c.wpIn (FR ro) 0 P (fun e a' w'=> ∃I' A' ρ' s',cV nt w' I' A' ρ' a'∧a'.defers=ds∧F s' w' I' A'∧Q e s' ρ') a w
def StF {σ:Type} (F:σ→World→(Nat→Prop)→cY→Prop):Prop:= ∀s w I A w' I' A' ρ,jX w I A ρ→F s w I A→e8 w I A w' I' A'→F s w' I' A'
theorem wM (w0:World) (I0:Nat→Prop) (A0:cY) (G0:Nat→Prop):StF (lR w0 I0 A0 G0):=fun _ _ _ _ _ _ _ _ hs h k=>lR.ext hs h k
def oD {σ:Type} (K:σ→aV→Prop) (Q:Exit→σ→aV→Prop):Exit→σ→aV→Prop
 | .normal,s,ρ=>K s ρ
 |e,s,ρ=>Q e s ρ
def lV {σ:Type} (id:Nat) (Q:Exit→σ→aV→Prop):Exit→σ→aV→Prop
 | .exit id',s,ρ=>if id'=id then Q .normal s ρ else Q (.exit id') s ρ
 |e,s,ρ=>Q e s ρ
section
variable {σ:Type} {P:Program} {nt:Nat} {F:σ→World→(Nat→Prop)→cY→Prop} {Q:Exit→σ→aV→Prop} {s:σ} {ρ:aV}
theorem bH (hF:StF F) {c:Code} (h:AW P nt c (fun e ρ'=>Q e s ρ') ρ):mL P nt F c Q s ρ:=fun ro ds I A a w hs hd hf=>
 wpIn_mono (h ro ds I A a w hs hd) fun _ _ _ ⟨I',A',ρ',h1,h2,h3,h4⟩=>⟨I',A',ρ',s,h1,h2,hF _ _ _ _ _ _ _ ρ hs.osim hf h3,h4⟩
theorem dN (h:Q .normal s ρ):mL P nt F .skip Q s ρ:=fun ro ds I A a w hs hd hf=>wpIn_skip ⟨I,A,ρ,s,hs,hd,hf,h⟩
theorem gB {i:Nat} (h:Q (.exit i) s ρ):mL P nt F (.exit i) Q s ρ:=fun ro ds I A a w hs hd hf=>wpIn_exit ⟨I,A,ρ,s,hs,hd,hf,h⟩
theorem lH (h:Q .ret s ρ):mL P nt F .ret Q s ρ:=fun ro ds I A a w hs hd hf=>wpIn_ret ⟨I,A,ρ,s,hs,hd,hf,h⟩
theorem bD {x y:Code} (h: ∀K:σ→aV→Prop,(∀s ρ,mL P nt F y Q s ρ→K s ρ)→mL P nt F x (oD K Q) s ρ):mL P nt F (.seq x y) Q s ρ:=by
 intro ro ds I A a w hs hd hf;refine wpIn_seq (wpIn_mono (h (fun s ρ=>mL P nt F y Q s ρ) (fun _ _ h=>h) ro ds I A a w hs hd hf) ?_);intro e a1 w1 ⟨I1,A1,ρ1,s1,h1,h2,h3,h4⟩;cases e with
 |normal=>exact h4 ro ds I1 A1 a1 w1 h1 h2 h3
 |exit i=>exact ⟨I1,A1,ρ1,s1,h1,h2,h3,h4⟩
 |goto l=>exact ⟨I1,A1,ρ1,s1,h1,h2,h3,h4⟩
 |ret=>exact ⟨I1,A1,ρ1,s1,h1,h2,h3,h4⟩
 |panic ch=>exact ⟨I1,A1,ρ1,s1,h1,h2,h3,h4⟩
 |outgrown=>exact ⟨I1,A1,ρ1,s1,h1,h2,h3,h4⟩
theorem dL {id:Nat} {c:Code} (h:mL P nt F c (lV id Q) s ρ):mL P nt F (.block id c) Q s ρ:=by
 intro ro ds I A a w hs hd hf;refine wpIn_block (wpIn_mono (h ro ds I A a w hs hd hf) ?_);intro e a1 w1 ⟨I1,A1,ρ1,s1,h1,h2,h3,h4⟩;cases e with
 |exit i=>
  simp only[Exit.inBlock,lV] at*;split<;>rename_i hi
  ·rw[if_pos hi] at h4;exact ⟨I1,A1,ρ1,s1,h1,h2,h3,h4⟩
  rw[if_neg hi] at h4;exact ⟨I1,A1,ρ1,s1,h1,h2,h3,h4⟩
 |normal=>exact ⟨I1,A1,ρ1,s1,h1,h2,h3,h4⟩
 |goto l=>exact ⟨I1,A1,ρ1,s1,h1,h2,h3,h4⟩
 |ret=>exact ⟨I1,A1,ρ1,s1,h1,h2,h3,h4⟩
 |panic ch=>exact ⟨I1,A1,ρ1,s1,h1,h2,h3,h4⟩
 |outgrown=>exact ⟨I1,A1,ρ1,s1,h1,h2,h3,h4⟩
theorem cQ {c:Code} {ρ ρ':aV} (hl:Le ρ ρ') (h:mL P nt F c Q s ρ'):mL P nt F c Q s ρ:=fun ro ds I A a w hs hd hf=>h ro ds I A a w (hs.weaken hl) hd hf
theorem aXu {x:Operand} {c d:Code} (b:Bool) (ho:iE nt x=true) (hx:ev ρ x=.v (.bool b)) (ht:b=true→mL P nt F c Q s ρ) (hf:b=false→mL P nt F d Q s ρ):mL P nt F (.cond x c d) Q s ρ:=by
 intro ro ds I A a w hs hd hF;have he:=hs.evRel x ho;rw[hx] at he;have hv:a.eval x=.bool b:=by
  generalize a.eval x=y at he ⊢;cases he;rfl
 exact wpIn_cond_split hv (fun h=>ht h ro ds I A a w hs hd hF) (fun h=>hf h ro ds I A a w hs hd hF)
theorem aZf {c:Code} (J:Nat→σ→aV→Prop) (n₀:Nat) (h₀:J n₀ s ρ)
  (round: ∀n s ρ,J n s ρ→ ∀K:σ→aV→Prop,(∀m s' ρ',m<n→J m s' ρ'→K s' ρ')→mL P nt F c (oD K Q) s ρ):mL P nt F (.loop c) Q s ρ:=by
 intro ro ds I A a w hs hd hf;refine wpIn_loop_ghost (fun n a' w'=> ∃I' A' ρ' s',cV nt w' I' A' ρ' a'∧a'.defers=ds∧F s' w' I' A'∧J n s' ρ') n₀ ⟨I,A,ρ,s,hs,hd,hf,h₀⟩ ?_;intro n a1 w1 ⟨I1,A1,ρ1,s1,h1,h2,h3,h4⟩;refine wpIn_mono (round n s1 ρ1 h4 (fun s ρ=> ∃m,m<n∧J m s ρ) (fun m s' ρ' hm hj=>⟨m,hm,hj⟩) ro ds I1 A1 a1 w1 h1 h2 h3) ?_;intro e a2 w2 ⟨I2,A2,ρ2,s2,k1,k2,k3,k4⟩;cases e with
 |normal=>obtain ⟨m,hm,hj⟩:=k4;exact ⟨m,hm,I2,A2,ρ2,s2,k1,k2,k3,hj⟩
 |exit i=>exact ⟨I2,A2,ρ2,s2,k1,k2,k3,k4⟩
 |goto l=>exact ⟨I2,A2,ρ2,s2,k1,k2,k3,k4⟩
 |ret=>exact ⟨I2,A2,ρ2,s2,k1,k2,k3,k4⟩
 |panic ch=>exact ⟨I2,A2,ρ2,s2,k1,k2,k3,k4⟩
 |outgrown=>exact ⟨I2,A2,ρ2,s2,k1,k2,k3,k4⟩
theorem gU (L:List Nat) {c:Code} (J:Nat→σ→aV→Prop) (n₀:Nat) (h₀:J n₀ s (keepC L ρ))
  (round: ∀n s ρ,J n s ρ→ ∀K:σ→aV→Prop,(∀m s' ρ',m<n→J m s' (keepC L ρ')→K s' ρ')→mL P nt F c (oD K Q) s ρ):mL P nt F (.loop c) Q s ρ:=by
 refine cQ (Le.keepC L ρ) (aZf (fun n s ρ=> ∃ρ',J n s ρ'∧Le ρ ρ') n₀ ⟨_,h₀,Le.refl _⟩ ?_);rintro n s1 ρ1 ⟨ρ2,hJ,hle⟩ K hK;exact cQ hle (round n s1 ρ2 hJ K fun m s' ρ' hm hj=>hK m s' ρ' hm ⟨_,hj,Le.keepC L ρ'⟩)
theorem cGb (K:σ→aV→Prop) (Q:Exit→σ→aV→Prop) (s:σ) (ρ:aV):oD K Q .normal s ρ=K s ρ:=rfl
theorem cGz (K:σ→aV→Prop) (Q:Exit→σ→aV→Prop) (s:σ) (ρ:aV):oD K Q .ret s ρ=Q .ret s ρ:=rfl
theorem cGf (K:σ→aV→Prop) (Q:Exit→σ→aV→Prop) (i:Nat) (s:σ) (ρ:aV):oD K Q (.exit i) s ρ=Q (.exit i) s ρ:=rfl
theorem cFz (i:Nat) (Q:Exit→σ→aV→Prop) (s:σ) (ρ:aV):lV i Q .normal s ρ=Q .normal s ρ:=rfl
theorem cGj (i:Nat) (Q:Exit→σ→aV→Prop) (s:σ) (ρ:aV):lV i Q .ret s ρ=Q .ret s ρ:=rfl
theorem cGc (i j:Nat) (Q:Exit→σ→aV→Prop) (s:σ) (ρ:aV):lV i Q (.exit j) s ρ=if j=i then Q .normal s ρ else Q (.exit j) s ρ:=rfl
def iU (P:Program) (nt:Nat) (F:σ→World→(Nat→Prop)→cY→Prop) (ops:Array Oper) (o:Oper) (K:σ→aV→Prop) (s:σ) (ρ:aV):Prop:=
 ∀(ro:Option Nat) (ds:List Deferred) I A a w,cV nt w I A ρ a→a.defers=ds→F s w I A→ ∀(next:Act→World→Prop) (Q':Exit→Act→World→Prop),
  (∀I' A' a' w' ρ' s',cV nt w' I' A' ρ' a'→a'.defers=ds→F s' w' I' A'→K s' ρ'→next a' w')→
  if Region.wanted o (yielded ops a.tmps)=true then o.wpIn (FR ro) 0 P a w next Q' else (∀f,o.about P w a.eval=some f→(FR ro).fn f)∧next (a.put o.dst undef) w
theorem cH (hF:StF F) {ops:Array Oper} {o:Oper} {K:σ→aV→Prop} (h:OW P nt ops o (K s) ρ):iU P nt F ops o K s ρ:=fun ro ds I A a w hs hd hf next Q' hn=>
 h ro ds I A a w hs hd next Q' fun I' A' a' w' ρ' q1 q2 q3 q4=>hn I' A' a' w' ρ' s q1 q2 (hF _ _ _ _ _ _ _ ρ hs.osim hf q3) q4
def RWF (P:Program) (nt:Nat) (F:σ→World→(Nat→Prop)→cY→Prop) (ops:Array Oper) (k:σ→aV→Prop):List Oper→σ→aV→Prop
 | [],s,ρ=>k s ρ
 |o::os,s,ρ=>iU P nt F ops o (RWF P nt F ops k os) s ρ
theorem aFp {ro:Option Nat} {ds:List Deferred} {ops:Array Oper} {k:σ→aV→Prop} {Q':Exit→Act→World→Prop}: ∀(l:List Oper) (s:σ) (ρ:aV) (I:Nat→Prop) (A:cY) (a:Act) (w:World),RWF P nt F ops k l s ρ→cV nt w I A ρ a→a.defers=ds→F s w I A→
  (∀I' A' a' w' ρ' s',cV nt w' I' A' ρ' a'→a'.defers=ds→F s' w' I' A'→k s' ρ'→Q' .normal a' w')→wpListIn (FR ro) 0 P ops Q' l a w
 | [],s,ρ,I,A,a,w,h,hs,hd,hf,hk=>hk I A a w ρ s hs hd hf h
 |o::l,s,ρ,I,A,a,w,h,hs,hd,hf,hk=>by
  refine wpListIn_step fun K hK=>h ro ds I A a w hs hd hf K Q' fun I' A' a' w' ρ' s' h1 h2 h3 h4=>hK _ _ ?_;exact aFp l s' ρ' I' A' a' w' h4 h1 h2 h3 hk
theorem fY {id:Nat} {l:List Oper} (h:RWF P nt F l.toArray (Q .normal) l s ρ):mL P nt F (.region id l.toArray false) Q s ρ:=by
 intro ro ds I A a w hs hd hf;exact wpIn_region_lit (aFp l s ρ I A a w h hs hd hf fun I' A' a' w' ρ' s' h1 h2 h3 h4=>⟨I',A',ρ',s',h1,h2,h3,h4⟩)
def aYv (P:Program) (nt:Nat) (F:σ→World→(Nat→Prop)→cY→Prop) (l:List Oper) (k:σ→aV→Prop):Nat→Array Bool→σ→aV→Prop
 |0,listed,s,ρ=>Region.ready .any l.toArray listed=[]∧ ∃ρ',Le ρ ρ'∧k s ρ'
 |fuel+1,listed,s,ρ=> ∃ρ',Le ρ ρ'∧(Region.ready .any l.toArray listed=[]→k s ρ')∧ ∀i∈Region.ready .any l.toArray listed,∃o,l[i]?=some o∧iU P nt F l.toArray o (aYv P nt F l k fuel (listed.setIfInBounds i true)) s ρ'
theorem yN {ro:Option Nat} {ds:List Deferred} {l:List Oper} {k:σ→aV→Prop} {Q':Exit→Act→World→Prop}: ∀(fuel:Nat) (listed:Array Bool) (s:σ) (ρ:aV) (I:Nat→Prop) (A:cY) (a:Act) (w:World),
  aYv P nt F l k fuel listed s ρ→cV nt w I A ρ a→a.defers=ds→F s w I A→
  (∀I' A' a' w' ρ' s',cV nt w' I' A' ρ' a'→a'.defers=ds→F s' w' I' A'→k s' ρ'→Q' .normal a' w')→wpAnyIn (FR ro) 0 P .any l.toArray Q' fuel listed a w
 |0,listed,s,ρ,I,A,a,w,h,hs,hd,hf,hk=>by
  obtain ⟨h1,ρ',hl,h2⟩:=h;exact ⟨h1,hk I A a w ρ' s (hs.weaken hl) hd hf h2⟩
 |fuel+1,listed,s,ρ,I,A,a,w,h,hs,hd,hf,hk=>by
  obtain ⟨ρ',hl,h1,h2⟩:=h;have hs:=hs.weaken hl;refine ⟨fun h0=>hk I A a w ρ' s hs hd hf (h1 h0),fun i hi=>?_⟩;obtain ⟨o,ho,h3⟩:=h2 i hi;unfold wpOpIn;simp only[cEu,ho];exact h3 ro ds I A a w hs hd hf _ Q' fun I' A' a' w' ρ'' s'' q1 q2 q3 q4=>yN fuel _ s'' ρ'' I' A' a' w' q4 q1 q2 q3 hk
theorem aVg (L:List Nat) {id:Nat} {l:List Oper} (hF:StF F) (hm:P.follows .mixedOrders=true)
  (h: ∀Y:Nat→Array Bool→σ→aV→Prop,
   (∀(n:Nat) (listed:Array Bool) (L:List Nat) (s:σ) (ρ:aV),yX l=true→listed.size=l.length→(∃i,i<l.length∧listed.getD i true=false)→(∀(i:Nat) (o:Oper),listed.getD i true=false→l[i]?=some o→(∀e∈o.after,Region.binds .any e=true→listed.getD e.on false=true)→iU P nt F l.toArray o (Y n (listed.setIfInBounds i true)) s (keepC L ρ))→Y (n+1) listed s ρ)→
   (∀(listed:Array Bool) (L:List Nat) (s:σ) (ρ:aV),(Region.ready .any l.toArray listed).isEmpty=true→Q .normal s (keepC L ρ)→Y 0 listed s ρ)→Y l.length (Array.replicate l.length false) s (keepC L ρ)):mL P nt F (.region id l.toArray true) Q s ρ:=by
 have hY:=h (aYv P nt F l (Q .normal)) (fun n listed L s ρ p1 p2 p3 q2=>⟨_,Le.keepC L ρ,fun h0=>absurd h0 (qA p1 p2 p3),fun i hi=>by
   obtain ⟨hun,o,ho,hdep⟩:=mem_ready.1 hi;have ho':l[i]?=some o:=by simpa using ho
   exact ⟨o,ho',q2 i o hun ho' fun e he hb=>hdep e he hb⟩⟩) (fun listed L s ρ q1 q2=>⟨by simpa using q1,_,Le.keepC L ρ,q2⟩)
 refine cQ (Le.keepC L ρ) ?_;intro ro ds I A a w hs hd hf;refine wpIn_region_any hm ?_;have hgr:mI w I w.drew I:=⟨rfl,⟨rfl,cEq _⟩,rfl,cCq _,fun _ _=>rfl,fun _ h=>h,fun _ h=>.inl h⟩
 have:=yN (ro:=ro) (Q':=fun e a' w'=> ∃I' A' ρ' s',cV nt w' I' A' ρ' a'∧a'.defers=ds∧F s' w' I' A'∧Q e s' ρ') _ _ s (keepC L ρ) I A a w.drew hY (hs.grow hgr) hd (hF _ _ _ _ _ _ _ _ hs.osim hf (hgr.ext hs.osim))
  fun I' A' a' w' ρ' s' q1 q2 q3 q4=>⟨I',A',ρ',s',q1,q2,q3,q4⟩
 simpa using this
end
attribute [go_sem] cGb cGz cGf cFz cGj cGc
section
variable {P:Program} {nt:Nat} {ρ:aV}
theorem cV.calledG {w w':World} {I I':Nat→Prop} {A:cY} {a:Act} {O':aV} (hs:cV nt w I A ρ a) (h1:jX w' I' A O') (h2: ∀s,fN (ρ s) (O' s)) (h3: ∀s,dH (ρ s)→dH (O' s)) (hrel: ∀d x,bN w I A d x→bN w' I' A d x):
  cV nt w' I' A O' a where
 osim:=h1
 size:=hs.size
 bound:=hs.bound
 slot:=fun i hi=>by
  have hsl:=hs.slot i hi;have hf:=h2 i;generalize a.tmps.getD i undef=x at*;generalize ρ i=d at*;generalize O' i=d' at*;cases d with
  |bx cs=>
   cases d'<;>simp only[fN] at hf<;>first|cases hf|skip
   exact hsl
  |row e z xs=>
   cases d' with
   |row e' z' xs'=>
    obtain ⟨rfl,rfl,hl⟩:=hf;obtain ⟨B,c,k1,k2⟩:=hsl;exact ⟨B,c,k1,by rw[← hl];exact k2⟩
   |_=>cases hf
  |cond g y=>simp only[fN] at hf;subst hf;exact ⟨fun hg=>hrel _ _ (hsl.1 hg),hsl.2⟩
  |mo es=>simp only[fN] at hf;subst hf;exact hsl
  |_=>simp only[fN] at hf;subst hf;exact hrel _ _ hsl
 out:=fun s hs'=>h3 s (hs.out s hs')
theorem aGx {f:FuncId} {fn:Func} {c:Code} {O:aV} {args:List DV} {R:aV→DV→Prop} (hf:P.funcs[f]?=some fn) (hb:fn.body=some c)
  (hn:(decide (args.length≤fn.ntmps)&&decide (fn.ntmps≤100000)&&fn.results.toList.all (fun v=>match v with| .tmp t=>decide (t<fn.ntmps)| .cell t _=>decide (t<fn.ntmps)))=true)
  (h: ∀w I A a,cV fn.ntmps w I (dZ A) (vH O args) a→a.defers=[]→c.wpIn (FR none) 0 P (fun e a' w'=> ∃I' A' ρ',cV fn.ntmps w' I' A' ρ' a'∧a'.defers=[]∧e8 w I (dZ A) w' I' A'∧aDl P fn O R e ρ') a w):lE P O f args R:=by
 intro w I A vals hO hl hv;simp only[bZi,cFp] at hn;obtain ⟨⟨hn1,hn2⟩,hn3⟩:=hn;refine calls_of_wp hf hb (wp_mono (wpIn_wide.1 (Go.Rv.aHx▸h w I A _ (cV.enter hO hl hn1 hn2 hv) rfl)) ?_);intro e a' w' ⟨I',A',ρ',k1,k2,k3,k4⟩
 have fin:(∃O' r,(∀s,ρ' (s+100000)=sh (O' s))∧(∀s,fN (O s) (O' s))∧(∀s,dH (O s)→dH (O' s))∧p6 P ρ' fn.results.toList r∧R O' r)→
   ∃v,(results fn a'.tmps).run P w'=.ok v w'∧ ∃v' I' O' r,Ending.returned v=.returned v'∧jX w' I' A O'∧(∀s,fN (O s) (O' s))∧(∀s,dH (O s)→dH (O' s))∧e8 w I A w' I' A∧qI w w' I' A r v'∧R O' r:=by
  rintro ⟨O',r,q1,q2,q3,q4,q5⟩;obtain ⟨v,r1,r2⟩:=bAu k1 k3 hn3 q4;have hA': ∀s,A' (s+100000)=A s:=fun s=>by rw[k3.outA _ aN,i5]
  have hfun:(fun s=>A' (s+100000))=A:=funext hA';refine ⟨v,r1,v,I',O',r,rfl,⟨fun s=>?_,hO.inj,fun s g c hA=>?_,k1.osim.imm⟩,q2,q3,⟨k3.os,k3.tape,k3.output,k3.size,k3.imm,fun g hg hA=>?_,fun s g c hA _ hs=>⟨s,c,hs,hA⟩,fun _ _=>rfl⟩,r2,q5⟩
  ·have:=k1.osim.own (s+100000);rw[q1] at this;have:=this.outof (s:=s) rfl
   rwa [hfun] at this
  ·exact k1.osim.sep (s+100000) g c ((hA' s).trans hA)
  obtain ⟨e1,e2,e3⟩:=k3.old g hg fun s c hs=>by
   unfold dZ at hs;split at hs
   ·cases hs
   exact hA _ _ hs
  exact ⟨e1,e2,hA⟩
 cases e with
 |normal=>exact ⟨k2,fin k4⟩
 |ret=>exact ⟨k2,fin k4⟩
 |_=>exact k4.elim
end
section
variable {w0:World} {I0:Nat→Prop} {A0:cY} {G0:Nat→Prop} {P:Program} {nt:Nat} {ρ:aV}
theorem cV.takeG {w:World} {I:Nat→Prop} {A:cY} {a:Act} {s1 s2:List Rg} {h0:Hd} {e:TypeId} {z:Nat} {l:List (List DV)} {d:Nat} (hs:cV nt w I A ρ a) (hf:lR w0 I0 A0 G0 (s1++ .row h0 e z l::s2) w I A) (hd:d<nt) (hρ:ρ d=h0.sl l.length):
  cV nt w I (lA A d (some (h0.B,h0.c))) (set (dG d ρ) d (.row e z l)) a∧lR w0 I0 A0 G0 (s1++s2) w I (lA A d (some (h0.B,h0.c))):=by
 obtain ⟨f1,f2,f3,f4⟩:=hf;have hrow:=f1 (.row h0 e z l) b7;have hd2:d<100000:=cDi hd hs.bound;have hup: ∀t,t≠d→lA A d (some (h0.B,h0.c)) t=A t:=fun t h=>eW A _ h;have hap: ∀x∈s1++s2,∀g,h0.B=some g→x.B≠some g:=fun x hx g hg=>by
  unfold oZ at f2;rw[cDa] at f2;rcases cEh.1 hx with h|h
  ·intro hxg;exact f2.2.2 x h (.row h0 e z l) b7 g hxg hg
  exact (cBi.1 f2.2.1).1 x h g hg
 have hval:a.tmps.getD d undef=.slice h0.b l.length h0.c:=by
  have:=hs.slot d hd;rw[hρ] at this;generalize a.tmps.getD d undef=x at this ⊢;have this:bN w I A (.v (.slice h0.b l.length h0.c)) x:=this;cases this;rfl
 have hsome: ∀s g c,lA A d (some (h0.B,h0.c)) s=some (some g,c)→(s=d∧h0.B=some g)∨(s≠d∧A s=some (some g,c)):=fun s g c h=>by
  rcases cK h with ⟨h1,h2⟩|⟨h1,h2⟩
  ·simp only[cAx,bZo] at h2;exact .inl ⟨h1,by first|exact h2.1|exact h2.1.symm|exact congrArg some h2.1|exact congrArg some h2.1.symm⟩
  exact .inr ⟨h1,h2⟩
 refine ⟨⟨⟨fun s=>?_,fun s t g c1 c2 h1 h2=>?_,fun s g c1 h1=>?_,hs.osim.imm⟩,hs.size,hs.bound,fun i hi=>?_,fun s h=>?_⟩,fun x hx=>?_,f2.sublist (List.Sublist.append (List.Sublist.refl _) (List.sublist_cons_self _ _)),fun x hx=>f3 x (by simp at hx ⊢;rcases hx with h|h;exact .inl h;exact .inr (.inr h)),
  ⟨f4.os,f4.tape,f4.output,f4.size,f4.imm,fun g hg hA hG=>?_,fun s hs'=>?_,fun s g c h1 hg hs'=>?_⟩⟩
 ·unfold set;split
  ·rename_i h;subst h;exact ⟨_,_,dA _ _ _,hrow.holds.2⟩
  rename_i h;rw[iM hd2 (hs.out s)];exact (hs.osim.own s).reown h hup
 ·rcases hsome s g c1 h1 with ⟨rfl,h3⟩|⟨h3,h4⟩<;>rcases hsome t g c2 h2 with ⟨rfl,h5⟩|⟨h5,h6⟩
  ·rfl
  ·exact absurd h6 ((hrow.free g h3).2.2 t c2)
  ·exact absurd h4 ((hrow.free g h5).2.2 s c1)
  exact hs.osim.inj s t g c1 c2 h4 h6
 ·rcases hsome s g c1 h1 with ⟨rfl,h3⟩|⟨h3,h4⟩
  ·exact ⟨(hrow.free g h3).1,(hrow.free g h3).2.1⟩
  exact hs.osim.sep s g c1 h4
 ·unfold set;split
  ·rename_i h;subst h;exact ⟨_,_,dA _ _ _,h0.b,hrow.holds.1,hval⟩
  rename_i h;rw[iM hd2 (hs.out i)];exact (hs.slot i hi).reown h hup
 ·unfold set;rw[if_neg aN,iM hd2 (hs.out s)];exact pJ (hs.out s h)
 ·have hx1:=f1 x (by simp at hx ⊢;rcases hx with h|h;exact .inl h;exact .inr (.inr h));refine ⟨hx1.holds,fun g hg=>⟨(hx1.free g hg).1,(hx1.free g hg).2.1,fun s c h=>?_⟩⟩;rcases hsome s g c h with ⟨rfl,h3⟩|⟨h3,h4⟩
  ·exact hap x hx g h3 hg
  exact (hx1.free g hg).2.2 s c h4
 ·obtain ⟨k1,k2,k3⟩:=f4.old g hg hA hG;refine ⟨k1,k2,fun s c h=>?_⟩;rcases hsome s g c h with ⟨rfl,h3⟩|⟨h3,h4⟩
  ·rcases f3 (.row h0 e z l) b7 g h3 with h|h
   ·exact hG h
   omega
  exact k3 s c h4
 ·rw[hup s aN];exact f4.outA s hs'
 rcases hsome s g c h1 with ⟨rfl,h3⟩|⟨h3,h4⟩
 ·rcases f3 (.row h0 e z l) b7 g h3 with h|h
  ·exact .inl h
  omega
 exact f4.loc s g c h4 hg hs'
theorem cV.giveG {w:World} {I:Nat→Prop} {A:cY} {a:Act} {s1 s2:List Rg} {d:Nat} {e:TypeId} {z:Nat} {l:List (List DV)} (hs:cV nt w I A ρ a) (hf:lR w0 I0 A0 G0 (s1++s2) w I A) (hd:d<nt)
  (hρ:ρ d=.row e z l) (hnew: ∀g c,A d=some (some g,c)→G0 g∨w0.heap.size≤g): ∃h:Hd,cV nt w I (lA A d none) (set (dG d ρ) d (h.sl l.length)) a∧lR w0 I0 A0 G0 (s1++ .row h e z l::s2) w I (lA A d none):=by
 have hsl:=hs.slot d hd;have ho:=hs.osim.own d;have hd2:d<100000:=cDi hd hs.bound;rw[hρ] at hsl ho;obtain ⟨B,c,hA,b,hb,hx⟩:=hsl;obtain ⟨B',c',hA',hrow⟩:=ho;rw[hA] at hA';simp only[cAx,bZo] at hA';obtain ⟨rfl,rfl⟩:=hA';have hup: ∀t,t≠d→lA A d none t=A t:=fun t h=>eW A _ h;have hno: ∀t g c',lA A d none t=some (some g,c')→t≠d∧A t=some (some g,c'):=fun t g c' h=>by
  unfold lA at h;split at h
  ·cases h
  rename_i h';exact ⟨h',h⟩
 have hsep: ∀g,B=some g→g<w.heap.size∧ ¬I g∧ ∀s c',lA A d none s≠some (some g,c'):=fun g hg=>by
  have h1:=hs.osim.sep d g c (by rw[hA,hg]);refine ⟨h1.1,h1.2,fun s c' h=>?_⟩;obtain ⟨h2,h3⟩:=hno s g c' h;exact h2 (hs.osim.inj s d g c' c h3 (by rw[hA,hg]))
 obtain ⟨f1,f2,f3,f4⟩:=hf;have hm: ∀x∈s1++(.row ⟨B,b,c⟩ e z l)::s2,x=(.row ⟨B,b,c⟩ e z l)∨x∈s1++s2:=fun x hx=>by
  simp at hx ⊢;rcases hx with h|h|h
  ·exact .inr (.inl h)
  ·exact .inl h
  exact .inr (.inr h)
 have hne: ∀x∈s1++s2,∀g,B=some g→x.B≠some g:=fun x hx g hg hxg=>((f1 x hx).free g hxg).2.2 d c (by rw[hA];exact congrArg (fun q=>some (q,c)) hg);refine ⟨⟨B,b,c⟩,⟨⟨fun s=>?_,fun s t g c1 c2 h1 h2=>?_,fun s g c1 h=>?_,hs.osim.imm⟩,hs.size,hs.bound,fun i hi=>?_,fun s h=>?_⟩,fun r hr=>?_,?_,fun r hr g hg=>?_,⟨f4.os,f4.tape,f4.output,f4.size,f4.imm,fun g hg hAg hG=>?_,fun s hs'=>?_,fun s g c' h hg hs'=>f4.loc s g c' (hno s g c' h).2 hg hs'⟩⟩
 ·unfold set;split
  ·trivial
  rename_i h;rw[iM hd2 (hs.out s)];exact (hs.osim.own s).reown h hup
 ·exact hs.osim.inj s t g c1 c2 (hno s g c1 h1).2 (hno t g c2 h2).2
 ·exact hs.osim.sep s g c1 (hno s g c1 h).2
 ·unfold set;split
  ·rename_i h;subst h;rw[hx];exact .ofRel (.v _ _)
  rename_i h;rw[iM hd2 (hs.out i)];exact (hs.slot i hi).reown h hup
 ·unfold set;rw[if_neg aN,iM hd2 (hs.out s)];exact pJ (hs.out s h)
 ·rcases hm r hr with rfl|h
  ·exact ⟨⟨hb,hrow⟩,hsep⟩
  obtain ⟨q1,q3⟩:=f1 r h;exact ⟨q1,fun g hg=>⟨(q3 g hg).1,(q3 g hg).2.1,fun s c' h=>(q3 g hg).2.2 s c' (hno s g c' h).2⟩⟩
 ·unfold oZ at f2 ⊢;rw[cDa] at f2 ⊢;refine ⟨f2.1,cBi.2 ⟨fun y hy g hg=>hne y (by simp[hy]) g hg,f2.2.1⟩,fun x hx y hy g hg hy'=>?_⟩;rcases cDt.1 hy with rfl|hy
  ·exact hne x (by simp[hx]) g hy' hg
  exact f2.2.2 x hx y hy g hg hy'
 ·rcases hm r hr with rfl|h
  ·exact hnew g c (by rw[hA];exact congrArg (fun q=>some (q,c)) hg)
  exact f3 r h g hg
 ·obtain ⟨k1,k2,k3⟩:=f4.old g hg hAg hG;exact ⟨k1,k2,fun s c' h=>k3 s c' (hno s g c' h).2⟩
 rw[hup s aN];exact f4.outA s hs'
theorem lR.mine {w:World} {I:Nat→Prop} {A:cY} {rs:List Rg} (hf:lR w0 I0 (dZ A0) G0 rs w I A) (hs:jX w I A ρ) {d:Nat} (hd:d<100000) (g c:Nat) (hA:A d=some (some g,c)):G0 g∨w0.heap.size≤g:=by
 rcases cBd g w0.heap.size with hlt|hge
 ·rcases hf.2.2.2.loc d g c hA hlt hd with h|⟨t,c',ht,hAt⟩
  ·exact .inl h
  unfold dZ at hAt;rw[if_pos ht] at hAt;cases hAt
 exact .inr hge
theorem gT {ops:Array Oper} {o:Oper} {K:List Rg→aV→Prop} {rs s1 s2:List Rg} {h0:Hd} {e:TypeId} {z:Nat} {l:List (List DV)} (d:Nat) (hd:d<nt) (hρ:ρ d=h0.sl l.length) (hr:rs=s1++ .row h0 e z l::s2)
  (h:iU P nt (lR w0 I0 A0 G0) ops o K (s1++s2) (set (dG d ρ) d (.row e z l))):iU P nt (lR w0 I0 A0 G0) ops o K rs ρ:=fun ro ds I A a w hs hdf hf=>by
 subst hr;obtain ⟨h1,h2⟩:=hs.takeG hf hd hρ;exact h ro ds I _ a w h1 hdf h2
theorem aUs {c:Code} {Q:Exit→List Rg→aV→Prop} {rs s1 s2:List Rg} {e:TypeId} {z:Nat} {l:List (List DV)} (d:Nat) (hd:d<nt) (hρ:ρ d=.row e z l) (hr:rs=s1++s2)
  (h: ∀hd:Hd,mL P nt (lR w0 I0 (dZ A0) G0) c Q (s1++ .row hd e z l::s2) (set (dG d ρ) d (hd.sl l.length))):mL P nt (lR w0 I0 (dZ A0) G0) c Q rs ρ:=fun ro ds I A a w hs hdf hf=>by
 subst hr;obtain ⟨hh,h1,h2⟩:=hs.giveG hf hd hρ fun g c hA=>hf.mine hs.osim (cDi hd hs.bound) g c hA;exact h hh ro ds I _ a w h1 hdf h2
theorem lS {ops:Array Oper} {o:Oper} {K:List Rg→aV→Prop} {rs s1 s2:List Rg} {e:TypeId} {z:Nat} {l:List (List DV)} (d:Nat) (hd:d<nt) (hρ:ρ d=.row e z l) (hr:rs=s1++s2)
  (h: ∀hd:Hd,iU P nt (lR w0 I0 (dZ A0) G0) ops o K (s1++ .row hd e z l::s2) (set (dG d ρ) d (hd.sl l.length))):iU P nt (lR w0 I0 (dZ A0) G0) ops o K rs ρ:=fun ro ds I A a w hs hdf hf=>by
 subst hr;obtain ⟨hh,h1,h2⟩:=hs.giveG hf hd hρ fun g c hA=>hf.mine hs.osim (cDi hd hs.bound) g c hA;exact h hh ro ds I _ a w h1 hdf h2
theorem kM {c:Code} {Q:Exit→List Rg→aV→Prop} {rs:List Rg} (s1 s2:List Rg) (e:TypeId) (z:Nat) (hr:rs=s1++s2) (h:mL P nt (lR w0 I0 A0 G0) c Q (s1++ .row iY e z []::s2) ρ):mL P nt (lR w0 I0 A0 G0) c Q rs ρ:=fun ro ds I A a w hs hdf hf=>by
 subst hr;exact h ro ds I A a w hs hdf (hf.nil e z)
theorem cV.settleG {w:World} {I:Nat→Prop} {A:cY} {a:Act} {s1 s2:List Rg} {h0:Hd} {e:TypeId} {z:Nat} {l:List (List DV)} (hs:cV nt w I A ρ a) (hf:lR w0 I0 A0 G0 (s1++ .row h0 e z l::s2) w I A):
  ∃I':Nat→Prop,cV nt w I' A ρ a∧lR w0 I0 A0 G0 (s1++s2) w I' A∧(∀B d x,bN w I B d x→bN w I' B d x)∧ ∀(B:cY) (n:Nat),n=l.length→bN w I' B (Sg.frz z l) (.slice h0.b n h0.c):=by
 obtain ⟨f1,f2,f3,f4⟩:=hf;have hrow:=f1 (.row h0 e z l) b7;have hap: ∀x∈s1++s2,∀g,h0.B=some g→x.B≠some g:=fun x hx g hg=>by
  unfold oZ at f2;rw[cDa] at f2;rcases cEh.1 hx with h|h
  ·intro hxg;exact f2.2.2 x h (.row h0 e z l) b7 g hxg hg
  exact (cBi.1 f2.2.1).1 x h g hg
 have hmono: ∀(B':cY) d x,bN w I B' d x→bN w (fun g=>I g∨h0.B=some g) B' d x:=fun B' d x hr=>hr.mono fun g hg=>⟨.inl hg,fun _=>rfl⟩;refine ⟨fun g=>I g∨h0.B=some g,⟨⟨fun t=>(hs.osim.own t).keep (fun _ _ _=>rfl) hmono,hs.osim.inj,fun t g c' hA=>⟨(hs.osim.sep t g c' hA).1,fun hi=>hi.elim (hs.osim.sep t g c' hA).2 fun hb=>(hrow.free g hb).2.2 t c' hA⟩,hs.osim.imm.step (fun g hg=>hg.elim (hs.osim.imm g) fun hb=>(hrow.free g hb).1) fun g hg=>⟨.inl hg,rfl⟩⟩,hs.size,hs.bound,fun i hi=>(hs.slot i hi).keep hmono,hs.out⟩,⟨fun x hx=>?_,f2.sublist (List.Sublist.append (List.Sublist.refl _) (List.sublist_cons_self _ _)),fun x hx=>f3 x (by simp at hx ⊢;rcases hx with h|h;exact .inl h;exact .inr (.inr h)),⟨f4.os,f4.tape,f4.output,f4.size,fun g hg=>.inl (f4.imm g hg),fun g hg hA hG=>?_,f4.outA,f4.loc⟩⟩,hmono,fun B n hn=>?_⟩
 ·have hx1:=f1 x (by simp at hx ⊢;rcases hx with h|h;exact .inl h;exact .inr (.inr h));exact ⟨hx1.holds.ofG (fun _ _=>rfl) fun d u hr=>hmono _ _ _ hr,fun g hg=>⟨(hx1.free g hg).1,fun hi=>hi.elim (hx1.free g hg).2.1 fun hb=>hap x hx g hb hg,(hx1.free g hg).2.2⟩⟩
 ·obtain ⟨k1,k2,k3⟩:=f4.old g hg hA hG;refine ⟨k1,fun h=>h.elim k2 fun hb=>?_,k3⟩;rcases f3 (.row h0 e z l) b7 g hb with h|h
  ·exact absurd h hG
  omega
 subst hn;exact hrow.holds.2.frz (I':=fun g=>I g∨h0.B=some g) (fun g hg=>.inr hg) (fun g hg=>.inl hg) (A:=B) hrow.holds.1
theorem cV.settleS {w:World} {I:Nat→Prop} {A:cY} {a:Act} {s1 s2:List Rg} {h0:Hd} {e:TypeId} {z:Nat} {l:List (List DV)} (hs:cV nt w I A ρ a) (hf:lR w0 I0 A0 G0 (s1++ .row h0 e z l::s2) w I A) {d:Nat} (hd:d<nt) (hρ:ρ d=h0.sl l.length) {d':DV} (hw:cF (Sg.frz z l) d') (hpl:lO d'=true):
  ∃I':Nat→Prop,cV nt w I' A (set ρ d d') a∧lR w0 I0 A0 G0 (s1++s2) w I' A:=by
 have hval:a.tmps.getD d undef=.slice h0.b l.length h0.c:=by
  have:=hs.slot d hd;rw[hρ] at this;generalize a.tmps.getD d undef=x at this ⊢;have this:bN w I A (.v (.slice h0.b l.length h0.c)) x:=this;cases this;rfl
 obtain ⟨I',h1,h2,h3,h4⟩:=hs.settleG hf;refine ⟨I',⟨⟨fun t=>?_,h1.osim.inj,h1.osim.sep,h1.osim.imm⟩,h1.size,h1.bound,fun i hi=>?_,fun t ht=>?_⟩,h2⟩
 ·rw[bC];split
  ·exact .ofPure (by cases d'<;>first|rfl|cases hpl)
  exact h1.osim.own t
 ·rw[bC];split
  ·rename_i e1;subst e1;rw[hval];exact .ofRel (hw _ _ _ _ (h4 A _ rfl))
  exact h1.slot i hi
 rw[bC,if_neg (by have:=hs.bound;omega)];exact h1.out t ht
theorem cV.settleB {w:World} {I:Nat→Prop} {A:cY} {a:Act} {s1 s2:List Rg} {h0:Hd} {e:TypeId} {z:Nat} {l:List (List DV)} (hs:cV nt w I A ρ a) (hf:lR w0 I0 A0 G0 (s1++ .row h0 e z l::s2) w I A) {t j:Nat} {cs:List DV} (hρ:ρ t=.bx cs) (hj:cs[j]?=some (h0.sl l.length)) {d':DV} (hw:cF (Sg.frz z l) d') (hpl:dI (fun _=>false) d'=true):
  ∃I':Nat→Prop,cV nt w I' A (set ρ t (.bx (cs.set j d'))) a∧lR w0 I0 A0 G0 (s1++s2) w I' A:=by
 obtain ⟨I',h1,h2,h3,h4⟩:=hs.settleG hf;refine ⟨I',⟨⟨fun s=>?_,h1.osim.inj,h1.osim.sep,h1.osim.imm⟩,h1.size,h1.bound,fun i hi=>?_,fun s hs'=>?_⟩,h2⟩
 ·rw[bC];split
  ·rename_i e1;subst e1;have:=h1.osim.own s;rw[hρ] at this;obtain ⟨g,c,us,et,q1,q2,q3,q4,q5⟩:=this;refine ⟨g,c,us,et,q1,q2,by rw[cDr];exact q3,q4,fun i d u hd hu=>?_⟩;rw[List.getElem?_set] at hd;split at hd
   ·rename_i hij;subst hij;split at hd
    ·cases hd;have:=q5 j _ u hj hu;have hu2:u=.slice h0.b l.length h0.c:=by cases this;rfl
     rw[hu2];exact hw _ _ _ _ (h4 A _ rfl)
    cases hd
   exact q5 i d u hd hu
  exact h1.osim.own s
 ·rw[bC];split
  ·rename_i e1;subst e1;have:=h1.slot i hi;rw[hρ] at this;exact this
  exact h1.slot i hi
 rw[bC];split
 ·rename_i e1;subst e1;have:=h1.out s hs';rw[hρ] at this;have this:eQ (fun t=>decide (100000≤t)) cs=true:=this;show eQ (fun t=>decide (100000≤t)) (cs.set j d')=true;rw[lU] at this ⊢;intro x hx;rcases List.mem_or_eq_of_mem_set hx with h|h
  ·exact this x h
  subst h;exact rT (fun _ h=>by cases h) _ hpl
 exact h1.out s hs'
theorem yL {c:Code} {Q:Exit→List Rg→aV→Prop} {rs s1 s2:List Rg} {h0:Hd} {e:TypeId} {z:Nat} {l:List (List DV)} (d:Nat) (hd:d<nt) (hρ:ρ d=h0.sl l.length) (hr:rs=s1++ .row h0 e z l::s2) {d':DV} (hw:cF (Sg.frz z l) d') (hpl:lO d'=true)
  (h:mL P nt (lR w0 I0 A0 G0) c Q (s1++s2) (set ρ d d')):mL P nt (lR w0 I0 A0 G0) c Q rs ρ:=fun ro ds I A a w hs hdf hf=>by
 subst hr;obtain ⟨I',h1,h2⟩:=hs.settleS hf hd hρ hw hpl;exact h ro ds I' A a w h1 hdf h2
theorem fE {c:Code} {Q:Exit→List Rg→aV→Prop} {rs s1 s2:List Rg} {h0:Hd} {e:TypeId} {z:Nat} {l:List (List DV)} (t j:Nat) {cs:List DV} (hρ:ρ t=.bx cs) (hj:cs[j]?=some (h0.sl l.length)) (hr:rs=s1++ .row h0 e z l::s2) {d':DV} (hw:cF (Sg.frz z l) d') (hpl:dI (fun _=>false) d'=true)
  (h:mL P nt (lR w0 I0 A0 G0) c Q (s1++s2) (set ρ t (.bx (cs.set j d')))):mL P nt (lR w0 I0 A0 G0) c Q rs ρ:=fun ro ds I A a w hs hdf hf=>by
 subst hr;obtain ⟨I',h1,h2⟩:=hs.settleB hf hρ hj hw hpl;exact h ro ds I' A a w h1 hdf h2
def GOf (rs:List Rg) (g:Nat):Prop:= ∃r∈rs,r.B=some g
def aFz (P:Program) (O:aV) (f:FuncId) (args:List DV) (rs:List Rg) (R:List Rg→aV→DV→Prop):Prop:=
 ∀(w:World) (I:Nat→Prop) (A:cY) (vals:Array Value),jX w I A O→(∀r∈rs,p7 w I A r)→oZ rs→vals.size=args.length→(∀(j:Nat) (d:DV) (u:Value),args[j]?=some d→vals[j]?=some u→bN w I A d u)→
  Calls P f vals w fun e w'=> ∃v I' O' rs' r,e=.returned v∧jX w' I' A O'∧(∀s,fN (O s) (O' s))∧(∀s,dH (O s)→dH (O' s))∧lR w I A (GOf rs) rs' w' I' A∧bX r=false∧bN w' I' A r v∧R rs' O' r
def bKu (P:Program) (fn:Func) (O:aV) (R:List Rg→aV→DV→Prop):Exit→List Rg→aV→Prop
 | .ret,rs,ρ| .normal,rs,ρ=> ∃O' r,(∀s,ρ (s+100000)=sh (O' s))∧(∀s,fN (O s) (O' s))∧(∀s,dH (O s)→dH (O' s))∧p6 P ρ fn.results.toList r∧bX r=false∧R rs O' r
 |_,_,_=>False
theorem bHh {nt:Nat} {w:World} {I:Nat→Prop} {A A':cY} {ρ:aV} {a:Act} {fn:Func} {r:DV} (hs:cV nt w I A' ρ a) (hA: ∀s,100000≤s→A' s=dZ A s)
  (hn:fn.results.toList.all (fun v=>match v with| .tmp t=>decide (t<nt)| .cell t _=>decide (t<nt))=true) (h:p6 P ρ fn.results.toList r) (ho:bX r=false):
  ∃v,(results fn a.tmps).run P w=.ok v w∧bN w I A r v:=by
 have hback: ∀{d:DV} {x:Value},bN w I A' (sh d) x→bN w I A d x:=fun h=>h.back hA;have hlt: ∀v∈fn.results.toList,(match v with| .tmp t=>t<nt| .cell t _=>t<nt):=fun v hv=>by
  have:=cCk.1 hn v hv;cases v<;>simpa using this
 generalize hl:fn.results.toList=rs at*;have hres:fn.results=rs.toArray:=by apply cCh;rw[hl]
 unfold p6 at h;split at h
 ·rename_i t;have ht:t<nt:=hlt (.tmp t) b7;have hsl:=hs.slot t ht;refine ⟨_,results_tmp hres _ P w,?_⟩;cases h with
  |pure r hp hw hr=>exact hback (hw w I A' _ (hsl.rel hp))
  |_=>cases ho
 ·rename_i b t;obtain ⟨h1,h2⟩:=h;obtain ⟨x,k1,k2⟩:=aAd hs hA (v:=.cell b t) (hlt (.cell b t) b7) h2;refine ⟨x,?_,k2⟩
  have:=rI (P:=P) (w:=w) (xY a.tmps) [.cell b t] [x] rfl
   (fun j y u hy hu=>by
    cases j with
    |zero=>simp at hy hu;subst hy;subst hu;exact k1
    |succ j=>simp at hy)
  rw[jW,hres,cAp,Sem.run_bind,Sem.run_map,this];rfl
 rename_i h1 h2;obtain ⟨rl,rfl,hlen,hall⟩:=h
 have: ∃vs:List Value,vs.length=rs.length∧(∀(j:Nat) (y:ResultVar) (u:Value),rs[j]?=some y→vs[j]?=some u→
   (xY a.tmps y).run P w=.ok u w)∧ ∀(j:Nat) (d:DV) (u:Value),rl[j]?=some d→vs[j]?=some u→bN w I A d u:=by
  clear hres hl hn h1 h2 ho
  induction rs generalizing rl with
  |nil=>
   obtain rfl:rl=[]:=cEj hlen;exact ⟨[],rfl,by simp,by simp⟩
  |cons y rs ih=>
   cases rl with
   |nil=>simp at hlen
   |cons d rl=>
    obtain ⟨x,k1,k2⟩:=aAd hs hA (v:=y) (hlt y b7) (hall 0 y d b7 b7);obtain ⟨vs,j1,j2,j3⟩:=ih (fun v hv=>hlt v (by simp[hv])) rl (by simpa using hlen) fun j v d' hv hd=>hall (j+1) v d' (by simpa using hv) (by simpa using hd);refine ⟨x::vs,by simp[j1],fun j y' u hy hu=>?_,fun j d' u hd hu=>?_⟩
    ·cases j with
     |zero=>simp at hy hu;subst hy;subst hu;exact k1
     |succ j=>exact j2 j y' u (by simpa using hy) (by simpa using hu)
    cases j with
    |zero=>simp at hd hu;subst hd;subst hu;exact k2
    |succ j=>exact j3 j d' u (by simpa using hd) (by simpa using hu)
 obtain ⟨vs,j1,j2,j3⟩:=this;have hrun:=rI (P:=P) (w:=w) (xY a.tmps) rs vs j1.symm j2;have hne:vs.length≠1:=fun e=>by
  rw[j1] at e
  match rs,e with
  | [.tmp t],_=>exact h1 t rfl
  | [.cell b t],_=>exact h2 b t rfl
 refine ⟨.tuple vs.toArray,?_,?_⟩
 ·rw[jW,hres,cAp,Sem.run_bind,Sem.run_map,hrun];simp[hne]
 exact bN.tup A rl _ (by simp[hlen,j1]) fun j d u hd hu=>j3 j d u hd (by simpa using hu)
theorem p7.into {w:World} {I:Nat→Prop} {A:cY} {r:Rg} (h:p7 w I A r):p7 w I (dZ A) r:=⟨h.holds,fun g hg=>⟨(h.free g hg).1,(h.free g hg).2.1,fun s c hs=>by
 unfold dZ at hs;split at hs
 ·cases hs
 exact (h.free g hg).2.2 _ c hs⟩⟩
theorem aHd {f:FuncId} {fn:Func} {c:Code} {O:aV} {args:List DV} {rs:List Rg} {R:List Rg→aV→DV→Prop} (hf:P.funcs[f]?=some fn) (hb:fn.body=some c)
  (hn:(decide (args.length≤fn.ntmps)&&decide (fn.ntmps≤100000)&&fn.results.toList.all (fun v=>match v with| .tmp t=>decide (t<fn.ntmps)| .cell t _=>decide (t<fn.ntmps)))=true)
  (h: ∀w0 I0 A0,mL P fn.ntmps (lR w0 I0 (dZ A0) (GOf rs)) c (bKu P fn O R) rs (vH O args)):aFz P O f args rs R:=by
 intro w I A vals hO hrow hap hl hv;simp only[bZi,cFp] at hn;obtain ⟨⟨hn1,hn2⟩,hn3⟩:=hn;refine calls_of_wp hf hb (wp_mono (wpIn_wide.1 (Go.Rv.aHx▸h w I A none [] I (dZ A) _ w (cV.enter hO hl hn1 hn2 hv) rfl ⟨fun r hr=>(hrow r hr).into,hap,fun r hr g hg=>.inl ⟨r,hr,hg⟩,XG.refl _ _ _ _⟩)) ?_);intro e a' w' ⟨I',A',ρ',rs',k1,k2,k3,k4⟩
 have fin:(∃O' r,(∀s,ρ' (s+100000)=sh (O' s))∧(∀s,fN (O s) (O' s))∧(∀s,dH (O s)→dH (O' s))∧p6 P ρ' fn.results.toList r∧bX r=false∧R rs' O' r)→
   ∃v,(results fn a'.tmps).run P w'=.ok v w'∧ ∃v' I' O' rs' r,Ending.returned v=.returned v'∧jX w' I' A O'∧(∀s,fN (O s) (O' s))∧(∀s,dH (O s)→dH (O' s))∧lR w I A (GOf rs) rs' w' I' A∧bX r=false∧bN w' I' A r v'∧R rs' O' r:=by
  rintro ⟨O',r,q1,q2,q3,q4,q5,q6⟩;obtain ⟨f1,f2,f3,f4⟩:=k3;obtain ⟨v,r1,r2⟩:=bHh k1 f4.outA hn3 q4 q5;have hA': ∀s,A' (s+100000)=A s:=fun s=>by rw[f4.outA _ aN,i5]
  have hfun:(fun s=>A' (s+100000))=A:=funext hA';refine ⟨v,r1,v,I',O',rs',r,rfl,⟨fun s=>?_,hO.inj,fun s g c hA=>?_,k1.osim.imm⟩,q2,q3,⟨fun r hr=>⟨(f1 r hr).holds,fun g hg=>⟨((f1 r hr).free g hg).1,((f1 r hr).free g hg).2.1,fun s c hA=>((f1 r hr).free g hg).2.2 (s+100000) c ((hA' s).trans hA)⟩⟩,f2,f3,
   ⟨f4.os,f4.tape,f4.output,f4.size,f4.imm,fun g hg hA hG=>?_,fun _ _=>rfl,fun s g c hA _ hs=>.inr ⟨s,c,hs,hA⟩⟩⟩,q5,r2,q6⟩
  ·have:=k1.osim.own (s+100000);rw[q1] at this;have:=this.outof (s:=s) rfl
   rwa [hfun] at this
  ·exact k1.osim.sep (s+100000) g c ((hA' s).trans hA)
  obtain ⟨e1,e2,e3⟩:=f4.old g hg (fun s c hs=>by
   unfold dZ at hs;split at hs
   ·cases hs
   exact hA _ _ hs) hG
  exact ⟨e1,e2,hA⟩
 cases e with
 |normal=>exact ⟨k2,fin k4⟩
 |ret=>exact ⟨k2,fin k4⟩
 |_=>exact k4.elim
theorem XG.toExt {w0 w:World} {I0 I:Nat→Prop} {A0 A:cY} (h:XG w0 I0 A0 (GOf []) w I A):e8 w0 I0 A0 w I A:=
 have hno: ∀g,¬GOf [] g:=fun g ⟨_,h,_⟩=>by cases h
 ⟨h.os,h.tape,h.output,h.size,h.imm,fun g hg hA=>h.old g hg hA (hno g),fun s g c hA hg hs=>(h.loc s g c hA hg hs).resolve_left (hno g),h.outA⟩
theorem i7 {f:FuncId} {fn:Func} {c:Code} {O:aV} {args:List DV} {R:aV→DV→Prop} (hf:P.funcs[f]?=some fn) (hb:fn.body=some c)
  (hn:(decide (args.length≤fn.ntmps)&&decide (fn.ntmps≤100000)&&fn.results.toList.all (fun v=>match v with| .tmp t=>decide (t<fn.ntmps)| .cell t _=>decide (t<fn.ntmps)))=true)
  (h: ∀w0 I0 A0,mL P fn.ntmps (lR w0 I0 (dZ A0) (GOf [])) c (fun e _ ρ=>aDl P fn O R e ρ) [] (vH O args)):lE P O f args R:=
 aGx hf hb hn fun w I A a hs hd=>wpIn_mono (h w I A none [] I (dZ A) a w hs hd ⟨fun r hr=>(by cases hr),List.Pairwise.nil,fun r hr=>(by cases hr),XG.refl _ _ _ _⟩) fun e a' w' ⟨I',A',ρ',s',h1,h2,h3,h4⟩=>⟨I',A',ρ',h1,h2,h3.2.2.2.toExt,h4⟩
theorem aFm {ops:Array Oper} {o:Oper} {K:List Rg→aV→Prop} {fv:Operand} {args:Array Operand} {ts:Array TypeId} {d:Nat} (hop:o.op=.call ⟨.value fv,args,ts⟩) (hg:o.guard=none) (hdst:o.dst=some d) (hd:d<nt)
  (ho:dP nt o=true) (hgf:gd (ev ρ fv)) (hga: ∀x∈args.toList,gd (ev ρ x)) {f:FuncId} {l:List DV} (hc:callee (un (ev ρ fv)) (args.toList.map fun x=>un (ev ρ x))=some (f,l)) (hb:aO P f=true)
  {cur rs s2:List Rg} (hp:cur.Perm (rs++s2)) {R:List Rg→aV→DV→Prop} (hm:aFz P ρ f l rs R) (hK: ∀rs' O' r,R rs' O' r→K (rs'++s2) (set O' d r)):iU P nt (lR w0 I0 A0 G0) ops o K cur ρ:=by
 intro ro ds I A a w hs hdf hf next Q' hn
 replace hf:=hf.swap hp;obtain ⟨vals,h1,h2,h3⟩:=mX hs hop ho hgf hga hc hb;rw[if_pos (by simp[Region.wanted,hg])];refine uR h1 ?_;obtain ⟨f1,f2,f3,f4⟩:=hf;have f2':=f2;unfold oZ at f2';rw[cDa] at f2';refine (hm w I A vals hs.osim (fun r hr=>f1 r (by simp[hr])) f2'.1 h2 h3).mono ?_;rintro e w' ⟨v,I',O',rs',r,rfl,k1,k2,k3,⟨g1,g2,g3,g4⟩,ko,kr,k6⟩;have hset: ∀g,I g→I' g∧w'.heap[g]?=w.heap[g]?:=fun g hg=>⟨g4.imm g hg,(g4.old g (hs.osim.imm g hg) (fun s c hc=>(hs.osim.sep s g c hc).2 hg) fun ⟨r,hr,hB⟩=>((f1 r (by simp[hr])).free g hB).2.1 hg).1⟩;have hrel: ∀B d x,bN w I B d x→bN w' I' B d x:=fun B d x hr=>hr.mono fun g hg=>⟨(hset g hg).1,fun o=>dW (hset g hg).2 o⟩;have hs':cV nt w' I' A O' a:=hs.calledG k1 k2 k3 (fun d x=>hrel A d x);have hs2:=hs'.put (d:=d) (v:=r) (x:=v) hd (.ofRel kr) (.ofPure ko);rw[hdst];have hold: ∀x∈s2,∀g,x.B=some g→w'.heap[g]?=w.heap[g]?∧(I' g→I g)∧g<w.heap.size∧ ¬GOf rs g:=fun x hx g hg=>by
  have hx1:=(f1 x (by simp[hx])).free g hg;have hno: ¬GOf rs g:=fun ⟨r,hr,hB⟩=>f2'.2.2 r hr x hx g hB hg;have:=g4.old g hx1.1 hx1.2.2 hno;exact ⟨this.1,this.2.1,hx1.1,hno⟩
 refine hn I' A _ w' _ _ hs2 (by rw[d7];exact hdf) ⟨fun x hx=>?_,?_,fun x hx g hg=>?_,⟨g4.os.trans f4.os,⟨g4.tape.1.trans f4.tape.1,cBc f4.tape.2 g4.tape.2⟩,g4.output.trans f4.output,cBc f4.size g4.size,fun g hg=>g4.imm g (f4.imm g hg),fun g hg hA hG=>?_,f4.outA,f4.loc⟩⟩ (hK rs' O' r k6)
 ·rcases cEh.1 hx with h|h
  ·exact g1 x h
  have hx1:=f1 x (by simp[h]);exact ⟨hx1.holds.ofG (fun g hg=>(hold x h g hg).1) fun d u hr=>hrel _ _ _ hr,fun g hg=>⟨cDi (hx1.free g hg).1 g4.size,fun hi=>(hx1.free g hg).2.1 ((hold x h g hg).2.1 hi),(hx1.free g hg).2.2⟩⟩
 ·unfold oZ;rw[cDa];refine ⟨g2,f2'.2.1,fun x hx y hy g hg hy'=>?_⟩;obtain ⟨_,_,q3,q4⟩:=hold y hy g hy';rcases g3 x hx g hg with h|h
  ·exact q4 h
  omega
 ·rcases cEh.1 hx with h|h
  ·rcases g3 x h g hg with ⟨r,hr,hB⟩|h
   ·exact f3 r (by simp[hr]) g hB
   exact .inr (cBc f4.size h)
  exact f3 x (by simp[h]) g hg
 obtain ⟨q1,q2,q3⟩:=f4.old g hg hA hG;obtain ⟨n1,n2,_⟩:=g4.old g (cDi hg f4.size) q3 fun ⟨r,hr,hB⟩=>by
  rcases f3 r (by simp[hr]) g hB with h|h
  ·exact hG h
  omega
 exact ⟨n1.trans q1,fun h=>q2 (n2 h),q3⟩
end
def bZf {σ:Type} (l:Nat) (K:σ→aV→Prop) (Q:Exit→σ→aV→Prop):Exit→σ→aV→Prop
 | .goto l',s,ρ=>if l'=l then K s ρ else Q (.goto l') s ρ
 |e,s,ρ=>Q e s ρ
section
variable {P:Program}
end
end Go.Sg
namespace Go.Sg
open Go.RowKit
open Go.Rv (FR)
section
variable {P:Program} {nt:Nat} {w0:World} {I0:Nat→Prop} {A0:cY} {G0:Nat→Prop} {ρ:aV}
structure bWn (K:List Rg→aV→Prop) (s1 s2:List Rg) (e:TypeId) (z:Nat) (l:List (List DV)) (d:Nat) (rs:List Rg) (ρ:aV):Prop where
 rows:rs=s1++s2
 at_:ρ d=.row e z l
 next: ∀hd:Hd,K (s1++ .row hd e z l::s2) (set (dG d ρ) d (hd.sl l.length))
theorem lK {ops:Array Oper} {o:Oper} {K:List Rg→aV→Prop} {rs:List Rg} (s1 s2:List Rg) (e:TypeId) (z:Nat) (l:List (List DV)) (d:Nat) (hd:d<nt)
  (h:iU P nt (lR w0 I0 (dZ A0) G0) ops o (bWn K s1 s2 e z l d) rs ρ):iU P nt (lR w0 I0 (dZ A0) G0) ops o K rs ρ:=
 fun ro ds I A a w hs hdf hf next Q' hn=>h ro ds I A a w hs hdf hf next Q' fun I' A' a' w' ρ' s' h1 h2 h3 h4=>by
  obtain ⟨e1,e2,e3⟩:=h4;subst e1;obtain ⟨hh,k1,k2⟩:=h1.giveG h3 hd e2 fun g c hA=>h3.mine h1.osim (cDi hd h1.bound) g c hA;exact hn I' _ a' w' _ _ k1 h2 k2 (e3 hh)
theorem aLu {σ:Type} {F:σ→World→(Nat→Prop)→cY→Prop} {Q:Exit→σ→aV→Prop} {s:σ} (L:List Nat) {x y:Code} (J:σ→aV→Prop) (hx: ∀K:σ→aV→Prop,(∀s' ρ',J s' (keepC L ρ')→K s' ρ')→mL P nt F x (oD K Q) s ρ) (hy: ∀s ρ,J s ρ→mL P nt F y Q s ρ):mL P nt F (.seq x y) Q s ρ:=
 bD fun K hK=>hx K fun s' ρ' hJ=>hK s' ρ' (cQ (Le.keepC L ρ') (hy _ _ hJ))
theorem bCc (O:aV) (s:Nat) (X Y:DV):set (set O s X) s Y=set O s Y:=by
 funext i;rw[bC,bC,bC];split<;>rfl
theorem aAn (O:aV) (s:Nat) (X:DV):g7 (set O s X)=set (g7 O) (s+100000) (sh X):=by
 funext i;rw[bC];by_cases h:i<100000
 ·rw[oG _ h,oG _ h,if_neg aN]
 obtain ⟨j,rfl⟩: ∃j,i=j+100000:=⟨i-100000,by omega⟩;rw[kL,kL,bC];by_cases e:j=s
 ·subst e;rw[if_pos rfl,if_pos rfl]
 rw[if_neg e,if_neg aN]
theorem bEp {O:aV} {s:Nat} {cs0 cs:List DV} (hO:O s=.bx cs0) (hl:cs0.length=cs.length) (hr:nM (· +100000) cs=cs) (ho:eQ (fun t=>decide (100000≤t)) cs=true) (hh:hi ρ=set (g7 O) (s+100000) (.bx cs)):
  (∀k,ρ (k+100000)=sh (set O s (.bx cs) k))∧(∀k,fN (O k) (set O s (.bx cs) k))∧(∀k,dH (O k)→dH (set O s (.bx cs) k)):=by
 refine ⟨fun k=>?_,fun k=>?_,fun k hk=>?_⟩
 ·refine aGe (O:=set O s (.bx cs)) ?_ k;rw[aAn,hh];exact congrArg _ (congrArg DV.bx hr.symm)
 ·rw[bC];split
  ·rename_i e;subst e;rw[hO];exact hl
  exact fN.refl _
 rw[bC];split
 ·exact ho
 exact hk
theorem bDm {fn:Func} {O:aV} {R:List Rg→aV→DV→Prop} {rs:List Rg} {s:Nat} {cs0 cs:List DV} {e:Exit} (he:e=.ret∨e=.normal) (hf:fn.results= #[]) (hO:O s=.bx cs0) (hl:cs0.length=cs.length) (hr:nM (· +100000) cs=cs) (ho:eQ (fun t=>decide (100000≤t)) cs=true) (hh:hi ρ=set (g7 O) (s+100000) (.bx cs))
  (hR:R rs (set O s (.bx cs)) (.tup [])):bKu P fn O R e rs ρ:=by
 obtain ⟨k1,k2,k3⟩:=bEp hO hl hr ho hh;have key: ∃O' r,(∀s,ρ (s+100000)=sh (O' s))∧(∀s,fN (O s) (O' s))∧(∀s,dH (O s)→dH (O' s))∧p6 P ρ fn.results.toList r∧bX r=false∧R rs O' r:=
  ⟨_,.tup [],k1,k2,k3,by rw[hf];exact ⟨[],rfl,rfl,fun j v d h=>by simp at h⟩,rfl,hR⟩
 rcases he with rfl|rfl<;>exact key
end
end Go.Sg
namespace Go.Sg
open Go.RowKit
open Go.Rv (FR)
def upB (b:Nat→Bool) (i:Nat):Nat→Bool:=fun j=>if j=i then true else b j
theorem cGq (b:Nat→Bool) (i j:Nat):upB b i j=if j=i then true else b j:=rfl
def b0 (n:Nat):Nat→Bool:=fun i=> !decide (i<n)
theorem cHh (n i:Nat):b0 n i= !decide (i<n):=rfl
def fL (b:Nat→Bool):List Nat→Prop
 | []=>True
 |j::r=>b j=true∧fL b r
def fM (b:Nat→Bool):List Nat→Prop
 | []=>True
 |j::r=>b j=false∧fM b r
theorem aRv {b:Nat→Bool}: ∀{r:List Nat},(∀j∈r,b j=true)→fL b r
 | [],_=>trivial
 |j::r,h=>⟨h j b7,aRv fun x hx=>h x (by simp[hx])⟩
theorem aTp {b:Nat→Bool}: ∀{r:List Nat},(∀j∈r,b j=false)→fM b r
 | [],_=>trivial
 |j::r,h=>⟨h j b7,aTp fun x hx=>h x (by simp[hx])⟩
def mK (b:Nat→Bool) (i:Nat) (D U:List (List Nat)):Prop:=b i=false∧fL b (D.getD i [])∧fM b (U.getD i [])
def aVw (l:List Oper) (D:List (List Nat)):Bool:=(List.range l.length).all fun i=>match l[i]? with
 |some o=>(D.getD i []).all fun j=>o.after.toList.any fun e=>Region.binds .any e&&(e.on==j||(D.getD e.on []).contains j)
 |none=>true
def aTt (n:Nat) (D U:List (List Nat)):Bool:=(List.range n).all fun i=>(U.getD i []).all fun x=>decide (x<n)&&(D.getD x []).contains i
def bDr (n:Nat) (D:List (List Nat)) (ls:Array Bool):Prop:= ∀x,x<n→ls.getD x true=true→ ∀j∈D.getD x [],ls.getD j true=true
theorem aHr {ls:Array Bool} {i:Nat} (hi:i<ls.size) (j:Nat):(ls.setIfInBounds i true).getD j true=if j=i then true else ls.getD j true:=by
 simp only[cBt,cEi];by_cases h:i=j
 ·subst h;simp[hi]
 rw[if_neg h,if_neg (fun e=>h e.symm)]
theorem aQu {ls:Array Bool} {j:Nat} (h:ls.getD j false=true):ls.getD j true=true:=by
 simp only[cBt] at*;cases hx:ls[j]? with
 |none=>rfl
 |some y=>rw[hx] at h;exact h
def uB (ls:Array Bool) (n:Nat):Nat:=((List.range n).filter fun i=> !ls.getD i true).length
theorem bCz {ls:Array Bool} {n:Nat} (h:uB ls n=0) {i:Nat} (hi:i<n):ls.getD i true=true:=by
 unfold uB at h;have:=cEj h;rw[List.filter_eq_nil_iff] at this;simpa using this i (by simpa using hi)
theorem aXa {ls:Array Bool} {n i:Nat} (hs:ls.size=n) (hi:i<n) (hf:ls.getD i true=false):uB ls n=uB (ls.setIfInBounds i true) n+1:=by
 unfold uB;have key: ∀m,m≤n→((List.range m).filter fun j=> !ls.getD j true).length=((List.range m).filter fun j=> !(ls.setIfInBounds i true).getD j true).length+(if i<m then 1 else 0):=by
  intro m
  induction m with
  |zero=>intro _;simp
  |succ m ih=>
   intro hm;rw[cBy,cDu,cDu,cAb,cAb,ih aN];have hg:=aHr (ls:=ls) (i:=i) aN m;by_cases he:m=i
   ·subst he;rw[if_pos rfl] at hg;have a1:([m].filter fun j=> !ls.getD j true)=[m]:=by simp only[cFc,List.filter_nil,hf];rfl
    have a2:([m].filter fun j=> !(ls.setIfInBounds m true).getD j true)=[]:=by simp only[cFc,List.filter_nil,hg];rfl
    rw[a1,a2];simp
   rw[if_neg he] at hg;have a1:([m].filter fun j=> !(ls.setIfInBounds i true).getD j true)=([m].filter fun j=> !ls.getD j true):=by simp only[cFc,List.filter_nil,hg]
   rw[a1];have a2:(if i<m+1 then 1 else 0:Nat)=if i<m then 1 else 0:=by
    by_cases h1:i<m
    ·rw[if_pos h1,if_pos (Nat.lt_succ_of_lt h1)]
    rw[if_neg h1,if_neg aN]
   omega
 have:=key n (cCq _);rw[if_pos hi] at this;exact this
theorem aYt (n:Nat):uB (Array.replicate n false) n=n:=by
 unfold uB;rw[List.filter_eq_self.2]
 ·simp
 intro i hi;have:i<n:=by simpa using hi
 simp[cBt,cEg,this]
theorem aZi {l:List Oper} {D:List (List Nat)} {ls:Array Bool} (hd:aVw l D=true) (hs:ls.size=l.length) (h:bDr l.length D ls) {i:Nat} {o:Oper} (ho:l[i]?=some o) (hdep: ∀e∈o.after,Region.binds .any e=true→ls.getD e.on false=true):
  (∀j∈D.getD i [],ls.getD j true=true)∧bDr l.length D (ls.setIfInBounds i true):=by
 have hi:i<l.length:=(cBz.1 ho).1;have h1: ∀j∈D.getD i [],ls.getD j true=true:=fun j hj=>by
  unfold aVw at hd;have h2:=cCk.1 hd i (by simpa using hi);rw[ho] at h2;have h3:=cCk.1 h2 j hj;rw[List.any_eq_true] at h3;obtain ⟨e,he,h4⟩:=h3;rw[bZi,cEx] at h4;have h5:=hdep e (by simpa using he) h4.1;rcases h4.2 with h6|h6
  ·rw[← show e.on=j by simpa using h6];exact aQu h5
  have hlt:e.on<l.length:=by
   rw[← hs];rcases cBd e.on ls.size with h|h
   ·exact h
   simp[cBt,cDy h] at h5
  exact h e.on hlt (aQu h5) j (by simpa using h6)
 refine ⟨h1,fun x hx hxt j hj=>?_⟩;rw[aHr aN] at hxt ⊢;split
 ·rfl
 split at hxt
 ·rename_i hxi;subst hxi;exact h1 j hj
 exact h x hx hxt j hj
theorem aYj {l:List Oper} {D U:List (List Nat)} {ls:Array Bool} (hu:aTt l.length D U=true) (h:bDr l.length D ls) {i:Nat} (hi:i<l.length) (hf:ls.getD i true=false) (hd: ∀j∈D.getD i [],ls.getD j true=true):mK (fun i=>ls.getD i true) i D U:=by
 refine ⟨hf,aRv hd,aTp fun x hx=>?_⟩;unfold aTt at hu;have h2:=cCk.1 (cCk.1 hu i (by simpa using hi)) x hx;rw[bZi,cFp] at h2;show ls.getD x true=false;cases hq:ls.getD x true with
 |false=>rfl
 |true=>have:=h x h2.1 hq i (by simpa using h2.2);rw[this] at hf;cases hf
theorem bBc {ls:Array Bool} {i:Nat} (hi:i<ls.size):(fun j=>(ls.setIfInBounds i true).getD j true)=upB (fun j=>ls.getD j true) i:=funext fun j=>by rw[aHr hi];rfl
theorem xJ (n:Nat):(fun j=>(Array.replicate n false).getD j true)=b0 n:=funext fun j=>by
 simp only[cBt,cEg,b0];by_cases h:j<n<;>simp[h]
theorem aQq {ls:Array Bool} {n:Nat} (hs:ls.size=n) (h:uB ls n=0):(fun j=>ls.getD j true)=fun _=>true:=funext fun j=>by
 rcases cBd j n with h1|h1
 ·exact bCz h h1
 simp[cBt,cDy (show ls.size≤j by omega)]
theorem vV: ∀(L:List Nat) (ρ:aV) (i:Nat),keepC L ρ i=if i∈L then ρ i else hi ρ i
 | [],ρ,i=>by rw[yH,if_neg b7]
 |l::L,ρ,i=>by
  rw[o0,bC];by_cases h:i=l
  ·subst h;rw[if_pos rfl,if_pos b7]
  rw[if_neg h,vV L ρ i];by_cases h2:i∈L
  ·rw[if_pos h2,if_pos (by simp[h2])]
  rw[if_neg h2,if_neg (by simp[h,h2])]
theorem yK (L:List Nat) (ρ:aV):keepC L (keepC L ρ)=keepC L ρ:=by
 funext i;rw[vV L (keepC L ρ) i];split
 ·rfl
 rename_i h;rw[vV L ρ i,if_neg h];unfold hi;split
 ·rfl
 rw[vV L ρ i,if_neg h];unfold hi;rename_i h2;rw[if_neg h2]
section
variable {P:Program} {nt:Nat} {ρ:aV}
theorem bMn {l:List Oper} {o:Oper} {K:aV→Prop} {j:Nat} {want:Bool} (hg:o.guard=some (j,want)) (hall:l.all (d3 nt)=true) (ho:dP nt o=true) (hd:d3 nt o=true) (hp:(dT o.op&&o.dst.isSome)=true) (h:gdG P ρ o.op o.dst (gAt l ρ j want) K):OW P nt l.toArray o K ρ:=by
 obtain ⟨d,k1,k2⟩:=sG hg hp h;simp only[bZi] at hp;exact oK hall ho hd hp.2 k1 k2
theorem aFw {l:List Oper} {ls:Array Bool} (hs:ls.size=l.length) (h:uB ls l.length=0):(Region.ready .any l.toArray ls).isEmpty=true:=by
 rw[List.isEmpty_iff];refine List.eq_nil_iff_forall_not_mem.2 fun i hi=>?_;obtain ⟨hun,o,ho,_⟩:=mem_ready.1 hi;have hi2:i<l.length:=(cBz.1 (by simpa using ho:l[i]?=some o)).1;rw[bCz h hi2] at hun;cases hun
theorem oH {σ γ:Type} {F:σ→World→(Nat→Prop)→cY→Prop} {Q:Exit→σ→aV→Prop} {s:σ} (L:List Nat) (D U:List (List Nat)) (E:γ→(Nat→Bool)→aV) (S:γ→(Nat→Bool)→σ) (g0:γ) {id:Nat} {l:List Oper} (hF:StF F) (hm:P.follows .mixedOrders=true) (hc:(yX l&&(aVw l D&&aTt l.length D U))=true)
  (h0:s=S g0 (b0 l.length)) (h1:keepC L ρ=E g0 (b0 l.length))
  (hstep: ∀(i:Nat) (o:Oper),l[i]?=some o→ ∀(g:γ) (b:Nat→Bool),mK b i D U→ ∀K:σ→aV→Prop,(∀g' s' ρ',s'=S g' (upB b i)→keepC L ρ'=E g' (upB b i)→K s' ρ')→iU P nt F l.toArray o K (S g b) (E g b))
  (hend: ∀g,Q .normal (S g fun _=>true) (E g fun _=>true)):mL P nt F (.region id l.toArray true) Q s ρ:=by
 simp only[bZi] at hc;obtain ⟨c1,c2,c3⟩:=hc;refine aVg L hF hm fun Y hYm hY0=>?_;have main: ∀(m:Nat) (ls:Array Bool) (g:γ) (ρ:aV),ls.size=l.length→uB ls l.length=m→bDr l.length D ls→keepC L ρ=E g (fun j=>ls.getD j true)→Y m ls (S g fun j=>ls.getD j true) ρ:=by
  intro m
  induction m with
  |zero=>
   intro ls g ρ hs hc hI hρ;refine hY0 _ L _ _ (aFw hs hc) ?_;rw[hρ,aQq hs hc];exact hend g
  |succ m ih=>
   intro ls g ρ hs hc hI hρ;refine hYm m _ L _ _ c1 hs ?_ fun i o hun ho hdep=>?_
   ·refine cEt fun hn=>?_;have:uB ls l.length=0:=by
     unfold uB;rw[cEm,List.filter_eq_nil_iff];intro i hi;cases hq:ls.getD i true with
     |true=>simp
     |false=>exact absurd ⟨i,by simpa using hi,hq⟩ hn
    omega
   have hi:i<l.length:=(cBz.1 ho).1;obtain ⟨k1,k2⟩:=aZi c2 hs hI ho hdep;rw[hρ];refine hstep i o ho g _ (aYj c3 hI hi hun k1) _ fun g' s' ρ' hs' hρ'=>?_;rw[← bBc aN] at hs' hρ';subst hs';refine ih _ g' ρ' (by simpa using hs) ?_ k2 hρ';have:=aXa hs hi hun;omega
 have:=main l.length (Array.replicate l.length false) g0 (keepC L ρ) b7 (aYt _) (fun x hx hxt=>by
  simp[cBt,cEg,hx] at hxt) (by rw[yK,h1,xJ])
 rw[xJ,← h0] at this;exact this
theorem oO {Q:Exit→aV→Prop} (L fl:List Nat) (cl:List (Nat×Nat)) (D U:List (List Nat)) (E:(Nat→Bool)→aV) {id:Nat} {l:List Oper} (hm:P.follows .mixedOrders=true) (hc:(yX l&&(aVw l D&&aTt l.length D U))=true) (hr:(gL nt l&&cl.all fun p=>decide (p.1<nt)&&decide (p.2<nt)&&p.1 !=p.2)=true)
  (h1:keepC L ρ=E (b0 l.length))
  (hstep: ∀(i:Nat) (o:Oper),l[i]?=some o→ ∀b:Nat→Bool,mK b i D U→ ∀K:aV→Prop,(∀ρ',keepC L ρ'=E (upB b i)→K ρ')→oJ P l o (fl.contains i) K (E b))
  (hend:clG cl (Q .normal) (E fun _=>true)):AW P nt (.region id l.toArray true) Q ρ:=by
 simp only[bZi] at hc;obtain ⟨c1,c2,c3⟩:=hc;refine aZw L fl cl hm hr fun Y _ hYm hY0=>?_;have main: ∀(m:Nat) (ls:Array Bool) (ρ:aV),ls.size=l.length→uB ls l.length=m→bDr l.length D ls→keepC L ρ=E (fun j=>ls.getD j true)→Y m ls ρ:=by
  intro m
  induction m with
  |zero=>
   intro ls ρ hs hc hI hρ;refine hY0 _ L _ (aFw hs hc) ?_;rw[hρ,aQq hs hc];exact hend
  |succ m ih=>
   intro ls ρ hs hc hI hρ;refine hYm m _ L _ c1 hs ?_ fun i o hun ho hdep=>?_
   ·refine cEt fun hn=>?_;have:uB ls l.length=0:=by
     unfold uB;rw[cEm,List.filter_eq_nil_iff];intro i hi;cases hq:ls.getD i true with
     |true=>simp
     |false=>exact absurd ⟨i,by simpa using hi,hq⟩ hn
    omega
   have hi:i<l.length:=(cBz.1 ho).1;obtain ⟨k1,k2⟩:=aZi c2 hs hI ho hdep;rw[hρ];refine hstep i o ho _ (aYj c3 hI hi hun k1) _ fun ρ' hρ'=>?_;rw[← bBc aN] at hρ';refine ih _ ρ' (by simpa using hs) ?_ k2 hρ';have:=aXa hs hi hun;omega
 exact main l.length (Array.replicate l.length false) (keepC L ρ) b7 (aYt _) (fun x hx hxt=>by
  simp[cBt,cEg,hx] at hxt) (by rw[yK,h1,xJ])
end
attribute [go_sem] cGq cHh
end Go.Sg
namespace Go.Sg
open Go.RowKit
open Go.Rv (FR)
section
variable {P:Program} {nt:Nat} {ρ O:aV}
inductive RO (P:Program) (ρ:aV):List ResultVar→List DV→Prop
 |nil:RO P ρ [] []
 |cons {v:ResultVar} {r:DV} {vs:List ResultVar} {rs:List DV} (h:aHa P ρ v r) (t:RO P ρ vs rs):RO P ρ (v::vs) (r::rs)
theorem RO.len {vs:List ResultVar} {rs:List DV} (h:RO P ρ vs rs):rs.length=vs.length:=by
 induction h with
 |nil=>rfl
 |cons h t ih=>simp[ih]
theorem RO.get {vs:List ResultVar} {rs:List DV} (h:RO P ρ vs rs): ∀(j:Nat) (v:ResultVar) (d:DV),vs[j]?=some v→rs[j]?=some d→aHa P ρ v d:=by
 induction h with
 |nil=>intro j v d h;simp at h
 |cons h t ih=>
  intro j v d hv hd;cases j with
  |zero=>simp at hv hd;subst hv;subst hd;exact h
  |succ j=>exact ih j v d (by simpa using hv) (by simpa using hd)
theorem oU {fn:Func} {a b:ResultVar} {vs:List ResultVar} {rs:List DV} (hf:fn.results.toList=a::b::vs) (h1:hi ρ=g7 O) (h:RO P ρ (a::b::vs) rs):aDl P fn O (fun O' r'=>O'=O∧r'=.tup rs) .ret ρ:=
 aAi h1 (by rw[hf];cases a<;>exact ⟨rs,rfl,h.len,h.get⟩)
theorem kD {t:Nat} {r:DV} (h:ρ t=r) (h1:lO r=true) (h2:sh r=r):aHa P ρ (.tmp t) r:=⟨by rw[h];exact h1,by rw[h,h2];exact cF.refl _⟩
theorem roL {α:Type} [Inhabited α] {t z:Nat} {e:α→List DV} {l l':List α} (h:ρ t=Sg.encL z e l') (hl:l'=l):aHa P ρ (.tmp t) (Sg.encL z e l):=by
 subst hl;exact kD h rfl rfl
theorem roN {α:Type} [Inhabited α] {t z:Nat} {e:α→List DV} {l:List α} (h:ρ t=.v (.slice none 0 0)) (hl:l=[]):aHa P ρ (.tmp t) (Sg.encL z e l):=by
 subst hl;exact ⟨by rw[h];rfl,by rw[h];exact cF.nilL e⟩
end
section
variable {P:Program} {nt:Nat} {ρ:aV} {Q:Exit→aV→Prop} {c:Code}
end
theorem bIp (l:List Int) (i:Nat) (x:Int):(l.map eI).set i [vi x]=(l.set i x).map eI:=by rw[List.map_set]
theorem d9 {α:Type} (d:α) {l:List α} {i:Nat} (h:i<l.length):l.take (i+1)=l.take i++[l.getD i d]:=by
 rw[List.take_add_one,cFk,cEn h];rfl
theorem aTg {α:Type} {l:List α} {i:Nat} (x:α) (h:i<l.length):(l.set i x).take (i+1)=l.take i++[x]:=by
 rw[d9 x (by simpa using h),List.take_set_of_le (cCq i),cFk,List.getElem?_set_self h];rfl
theorem aSd {α:Type} {l:List α} {i:Nat} (x:α):(l.set i x).drop (i+1)=l.drop (i+1):=List.drop_set_of_lt (Nat.lt_succ_self i)
theorem bSt {t z n:Nat} {xs:List (List DV)}:(∃e ys,DV.row t z xs=.row e z ys∧n≤ys.length)=(n≤xs.length):=by
 apply propext;constructor
 ·rintro ⟨_,_,h,h2⟩;cases h;exact h2
 intro h;exact ⟨_,_,rfl,h⟩
theorem bTo {k d:Nat} (h:d<100000):(k+100000 !=d)=true:=by simp;omega
theorem bTs {k d:Nat} (h:d<100000):(k+100000=d)=False:=by simp;omega
theorem cF.aggL {cs ds:List DV} (h:tF cs ds):cF (.agg cs) (.agg ds):=fun w I A x hr=>by
 cases hr with
 |agg _ _ vs hl hone hrel=>
  refine .agg A ds vs (by rw[← h.len];exact hl) hone fun j d u hd hu=>?_;obtain ⟨d',h1,h2⟩:=h.get j d hd;exact h2 _ _ _ _ (hrel j d' u h1 hu)
def eLI (l:List Int):List DV:=[bT l]
theorem cKr (l:List (List Int)) (x:List Int):l.map eLI++[[.sl 1 x.length fun i=>eI (x.getD i default)]]=(l++[x]).map eLI:=by simp[eLI,encL]
attribute [go_sem] eLI cKr
attribute [go_sem] bIp bSt bTo bTs
end Go.Sg
namespace Go.Sg
structure Wr (q:Prop):Prop where
 out:q
theorem stz {p q:Prop} (k:q) (h:Wr q→p:=by intro hk;(try simp (config := { maxSteps := 2000000 }) only[go_sem,seval]);(try simp (config := { maxSteps := 2000000 }) (disch:=omega) only[go_sem,seval]);(repeat refine bZh bM ?_);exact hk.out):p:=h ⟨k⟩
section
variable {P:Program} {nt:Nat} {ρ ρ':aV}
theorem aB {id:Nat} {l:List Oper} {y:Code} {Q:Exit→aV→Prop} (L:List Nat) (k:AW P nt y Q ρ') (hr:gL nt l=true:=by kernel_rfl) (h: ∀K:aV→Prop,K ρ'→pw P l K l ⟨⟩ (keepC L ρ):=by intro K hk;(try simp (config := { maxSteps := 2000000 }) only[go_sem,seval]);(try simp (config := { maxSteps := 2000000 }) (disch:=omega) only[go_sem,seval]);(repeat refine bZh bM ?_);exact hk):AW P nt (.seq (.region id l.toArray false) y) Q ρ:=
 aA fun K hK=>aU L hr (h K (hK ρ' k))
theorem bA {id:Nat} {l:List Oper} {Q:Exit→aV→Prop} (L:List Nat) (k:Q .normal ρ') (hr:gL nt l=true:=by kernel_rfl) (h: ∀K:aV→Prop,K ρ'→pw P l K l ⟨⟩ (keepC L ρ):=by intro K hk;(try simp (config := { maxSteps := 2000000 }) only[go_sem,seval]);(try simp (config := { maxSteps := 2000000 }) (disch:=omega) only[go_sem,seval]);(repeat refine bZh bM ?_);exact hk):AW P nt (.region id l.toArray false) Q ρ:=
 aU L hr (h (Q .normal) k)
end
section
variable {σ:Type} {P:Program} {nt:Nat} {F:σ→World→(Nat→Prop)→cY→Prop} {s:σ} {ρ ρ':aV}
theorem eU {id:Nat} {l:List Oper} {y:Code} {Q:Exit→σ→aV→Prop} (hF:StF F) (L:List Nat) (k:mL P nt F y Q s ρ') (hr:gL nt l=true:=by kernel_rfl) (h: ∀K:aV→Prop,K ρ'→pw P l K l ⟨⟩ (keepC L ρ):=by intro K hk;(try simp (config := { maxSteps := 2000000 }) only[go_sem,seval]);(try simp (config := { maxSteps := 2000000 }) (disch:=omega) only[go_sem,seval]);(repeat refine bZh bM ?_);exact hk):mL P nt F (.seq (.region id l.toArray false) y) Q s ρ:=
 bD fun K hK=>bH hF (aU L hr (h (K s) (hK s ρ' k)))
theorem pG {id:Nat} {l:List Oper} {Q:Exit→σ→aV→Prop} (hF:StF F) (L:List Nat) (k:Q .normal s ρ') (hr:gL nt l=true:=by kernel_rfl) (h: ∀K:aV→Prop,K ρ'→pw P l K l ⟨⟩ (keepC L ρ):=by intro K hk;(try simp (config := { maxSteps := 2000000 }) only[go_sem,seval]);(try simp (config := { maxSteps := 2000000 }) (disch:=omega) only[go_sem,seval]);(repeat refine bZh bM ?_);exact hk):mL P nt F (.region id l.toArray false) Q s ρ:=
 bH hF (aU L hr (h (Q .normal s) k))
end
theorem b9 {p:Prop} (h:p:=by ((try simp (config := { maxSteps := 2000000 }) only[go_sem,seval]);(try simp (config := { maxSteps := 2000000 }) (disch:=omega) only[go_sem,seval]))<;>first|rfl|omega|simp|simp_all):p:=h
theorem mkp {a b c q:Prop} (ho:a) (hb:b) (hK:c) (h:a→b→c→q:=by
 intro hoQ hbQ hKQ;obtain rfl:=bZr hoQ;simp only[mK,fL,fM,cBe,cFm,cBm,bZk,cFt] at hbQ
 first|show oJ _ _ _ false _ _|show oJ _ _ _ true _ _
 (try simp (config := { maxSteps := 2000000 }) only[go_sem,seval,hbQ]);(try simp (config := { maxSteps := 2000000 }) (disch:=omega) only[go_sem,seval,hbQ]);(repeat refine bZh bM ?_);refine hKQ _ ?_;((try simp (config := { maxSteps := 2000000 }) only[go_sem,seval,hbQ]);(try simp (config := { maxSteps := 2000000 }) (disch:=omega) only[go_sem,seval,hbQ]))<;>first|rfl|simp):q:=h ho hb hK
theorem mkc {a b c d q:Prop} (ho:a) (hb:b) (hK:c) (hc:d) (h:a→b→c→d→q:=by
 intro hoQ hbQ hKQ hcQ;obtain rfl:=bZr hoQ;simp only[mK,fL,fM,cBe,cFm,cBm,bZk,cFt] at hbQ
 first|show oJ _ _ _ false _ _|show oJ _ _ _ true _ _
 (try simp (config := { maxSteps := 2000000 }) only[go_sem,seval,hbQ]);(try simp (config := { maxSteps := 2000000 }) (disch:=omega) only[go_sem,seval,hbQ]);(repeat refine bZh bM ?_);refine dQ hcQ ?_ ?_;rfl;(try simp (config := { maxSteps := 2000000 }) only[go_sem,seval,hbQ]);(try simp (config := { maxSteps := 2000000 }) (disch:=omega) only[go_sem,seval,hbQ]);(repeat refine bZh bM ?_);refine hKQ _ ?_;((try simp (config := { maxSteps := 2000000 }) only[go_sem,seval,hbQ]);(try simp (config := { maxSteps := 2000000 }) (disch:=omega) only[go_sem,seval,hbQ]))<;>first|rfl|simp):q:=h ho hb hK hc
theorem mfp {a b c e q:Prop} (hF:e) (ho:a) (hb:b) (hK:c) (h:e→a→b→c→q:=by
 intro hF hoQ hbQ hKQ;obtain rfl:=bZr hoQ;simp only[mK,fL,fM,cBe,cFm,cBm,bZk,cFt] at hbQ;show iU _ _ _ _ _ _ _ _;refine cH hF ?_;refine cC rfl aZ aZ ?_
 (try simp (config := { maxSteps := 2000000 }) only[go_sem,seval,hbQ]);(try simp (config := { maxSteps := 2000000 }) (disch:=omega) only[go_sem,seval,hbQ]);(repeat refine bZh bM ?_);refine hKQ _ _ ?_ ?_;focus (first|rfl|(((try simp (config := { maxSteps := 2000000 }) only[go_sem,seval,hbQ]);(try simp (config := { maxSteps := 2000000 }) (disch:=omega) only[go_sem,seval,hbQ]));done)|(((try simp (config := { maxSteps := 2000000 }) only[go_sem,seval,hbQ]);(try simp (config := { maxSteps := 2000000 }) (disch:=omega) only[go_sem,seval,hbQ]))<;>rfl))
 ((try simp (config := { maxSteps := 2000000 }) only[go_sem,seval,hbQ]);(try simp (config := { maxSteps := 2000000 }) (disch:=omega) only[go_sem,seval,hbQ]))<;>first|rfl|simp):q:=h hF ho hb hK
theorem mfc {a b c d e q:Prop} (hF:e) (ho:a) (hb:b) (hK:c) (hc:d) (h:e→a→b→c→d→q:=by
 intro hF hoQ hbQ hKQ hcQ;obtain rfl:=bZr hoQ;simp only[mK,fL,fM,cBe,cFm,cBm,bZk,cFt] at hbQ;show iU _ _ _ _ _ _ _ _;refine cH hF ?_;refine cC rfl aZ aZ ?_
 (try simp (config := { maxSteps := 2000000 }) only[go_sem,seval,hbQ]);(try simp (config := { maxSteps := 2000000 }) (disch:=omega) only[go_sem,seval,hbQ]);(repeat refine bZh bM ?_);refine eF _ hcQ ?_;(try simp (config := { maxSteps := 2000000 }) only[go_sem,seval,hbQ]);(try simp (config := { maxSteps := 2000000 }) (disch:=omega) only[go_sem,seval,hbQ]);(repeat refine bZh bM ?_);refine hKQ _ _ ?_ ?_;focus (first|rfl|(((try simp (config := { maxSteps := 2000000 }) only[go_sem,seval,hbQ]);(try simp (config := { maxSteps := 2000000 }) (disch:=omega) only[go_sem,seval,hbQ]));done)|(((try simp (config := { maxSteps := 2000000 }) only[go_sem,seval,hbQ]);(try simp (config := { maxSteps := 2000000 }) (disch:=omega) only[go_sem,seval,hbQ]))<;>rfl))
 ((try simp (config := { maxSteps := 2000000 }) only[go_sem,seval,hbQ]);(try simp (config := { maxSteps := 2000000 }) (disch:=omega) only[go_sem,seval,hbQ]))<;>first|rfl|simp):q:=h hF ho hb hK hc
section
variable {P:Program} {nt:Nat} {ρ:aV}
theorem sZ {Q:Exit→aV→Prop} (n:Nat) (Lv L fl:List Nat) (cl:List (Nat×Nat)) (D U:List (List Nat)) (E:(Nat→Bool)→aV) {id:Nat} {l:List Oper}
  (hstep: ∀(i:Nat),i<n→ ∀(o:Oper),l[i]?=some o→ ∀b:Nat→Bool,mK b i D U→ ∀K:aV→Prop,(∀ρ',keepC L ρ'=E (upB b i)→K ρ')→oJ P l o (fl.contains i) K (E b))
  (hend:clG cl (Q .normal) (E fun _=>true)) (hm:P.follows .mixedOrders=true:=by exact eG) (hn:l.length=n:=by rfl) (hc:(yX l&&(aVw l D&&aTt l.length D U))=true:=by kernel_rfl)
  (hr:(gL nt l&&cl.all fun p=>decide (p.1<nt)&&decide (p.2<nt)&&p.1 !=p.2)=true:=by kernel_rfl)
  (h1:keepC L (keepC Lv ρ)=E (b0 l.length):=by ((try simp (config := { maxSteps := 2000000 }) only[go_sem,seval]);(try simp (config := { maxSteps := 2000000 }) (disch:=omega) only[go_sem,seval]))<;>first|rfl|simp):AW P nt (.region id l.toArray true) Q ρ:=
 dY (Le.keepC Lv _) (oO L fl cl D U E hm hc hr h1 (fun i o ho b hb K hK=>hstep i (by rw[← hn];exact (cBz.1 ho).1) o ho b hb K hK) hend)
theorem bDe {σ γ:Type} {F:σ→World→(Nat→Prop)→cY→Prop} {Q:Exit→σ→aV→Prop} {s:σ} (n:Nat) (Lv L:List Nat) (D U:List (List Nat)) (E:γ→(Nat→Bool)→aV) (S:γ→(Nat→Bool)→σ) (g0:γ) {id:Nat} {l:List Oper} (hF:StF F)
  (hstep: ∀(i:Nat),i<n→ ∀(o:Oper),l[i]?=some o→ ∀(g:γ) (b:Nat→Bool),mK b i D U→ ∀K:σ→aV→Prop,(∀g' s' ρ',s'=S g' (upB b i)→keepC L ρ'=E g' (upB b i)→K s' ρ')→iU P nt F l.toArray o K (S g b) (E g b))
  (hend: ∀g,Q .normal (S g fun _=>true) (E g fun _=>true)) (hm:P.follows .mixedOrders=true:=by exact eG) (hn:l.length=n:=by rfl) (hc:(yX l&&(aVw l D&&aTt l.length D U))=true:=by kernel_rfl)
  (h0:s=S g0 (b0 l.length):=by first|rfl|(((try simp (config := { maxSteps := 2000000 }) only[go_sem,seval]);(try simp (config := { maxSteps := 2000000 }) (disch:=omega) only[go_sem,seval]));done)|(((try simp (config := { maxSteps := 2000000 }) only[go_sem,seval]);(try simp (config := { maxSteps := 2000000 }) (disch:=omega) only[go_sem,seval]))<;>rfl)) (h1:keepC L (keepC Lv ρ)=E g0 (b0 l.length):=by ((try simp (config := { maxSteps := 2000000 }) only[go_sem,seval]);(try simp (config := { maxSteps := 2000000 }) (disch:=omega) only[go_sem,seval]))<;>first|rfl|simp):mL P nt F (.region id l.toArray true) Q s ρ:=
 cQ (Le.keepC Lv _) (oH L D U E S g0 hF hm hc h0 h1 (fun i o ho g b hb K hK=>hstep i (by rw[← hn];exact (cBz.1 ho).1) o ho g b hb K hK) hend)
theorem aL {x:Operand} {c d:Code} {b:Bool} {p q:Prop} {Q:Exit→aV→Prop} (ht:p→AW P nt c Q ρ) (hf:q→AW P nt d Q ρ) (ho:iE nt x=true:=by rfl) (hx:ev ρ x=.v (.bool b):=by exact rfl)
  (hp:b=true→Wr p:=by intro c;(try simp only[push_cast] at c);exact ⟨c⟩) (hq:b=false→Wr q:=by intro c;(try simp only[push_cast] at c);exact ⟨c⟩):AW P nt (.cond x c d) Q ρ:=
 aQh b ho hx (fun h=>ht (hp h).out) (fun h=>hf (hq h).out)
theorem fK {σ:Type} {F:σ→World→(Nat→Prop)→cY→Prop} {s:σ} {x:Operand} {c d:Code} {b:Bool} {p q:Prop} {Q:Exit→σ→aV→Prop} (ht:p→mL P nt F c Q s ρ) (hf:q→mL P nt F d Q s ρ) (ho:iE nt x=true:=by rfl) (hx:ev ρ x=.v (.bool b):=by exact rfl)
  (hp:b=true→Wr p:=by intro c;(try simp only[push_cast] at c);exact ⟨c⟩) (hq:b=false→Wr q:=by intro c;(try simp only[push_cast] at c);exact ⟨c⟩):mL P nt F (.cond x c d) Q s ρ:=
 aXu b ho hx (fun h=>ht (hp h).out) (fun h=>hf (hq h).out)
theorem ef {σ:Type} {F:σ→World→(Nat→Prop)→cY→Prop} {s:σ} {ops:Array Oper} {o:Oper} {K:σ→aV→Prop} {q:Prop} (hF:StF F) (k:q) (hg:o.guard=none:=by rfl) (ho:dP nt o=true:=by kernel_rfl) (hd:d3 nt o=true:=by kernel_rfl)
  (h:Wr q→aEk P ρ o.op o.dst (K s):=by intro hk;(try simp (config := { maxSteps := 2000000 }) only[go_sem,seval]);(try simp (config := { maxSteps := 2000000 }) (disch:=omega) only[go_sem,seval]);(repeat refine bZh bM ?_);exact hk.out):iU P nt F ops o K s ρ:=cH hF (cC hg ho hd (h ⟨k⟩))
theorem ez {ops:Array Oper} {o:Oper} {K:aV→Prop} {q:Prop} (k:q) (hg:o.guard=none:=by rfl) (ho:dP nt o=true:=by kernel_rfl) (hd:d3 nt o=true:=by kernel_rfl)
  (h:Wr q→aEk P ρ o.op o.dst K:=by intro hk;(try simp (config := { maxSteps := 2000000 }) only[go_sem,seval]);(try simp (config := { maxSteps := 2000000 }) (disch:=omega) only[go_sem,seval]);(repeat refine bZh bM ?_);exact hk.out):OW P nt ops o K ρ:=cC hg ho hd (h ⟨k⟩)
theorem fF {f:FuncId} {l:List DV} {k:aV→DV→Prop} {t:Tg k} {r:DV} {q:Prop} (h:bB P ρ f l r) (k':q) (hk:Wr q→k ρ r:=by intro hk;(try simp (config := { maxSteps := 2000000 }) only[go_sem,seval]);(try simp (config := { maxSteps := 2000000 }) (disch:=omega) only[go_sem,seval]);(repeat refine bZh bM ?_);exact hk.out):aRk P ρ f l k t:=eF r h (hk ⟨k'⟩)
theorem w4 {f:FuncId} {l:List DV} {k:DV→Prop} {t:Tg k} {r:DV} {q:Prop} (h:bB P ρ f l r) (k':q) (hr:bX r=false:=by rfl) (hk:Wr q→k r:=by intro hk;(try simp (config := { maxSteps := 2000000 }) only[go_sem,seval]);(try simp (config := { maxSteps := 2000000 }) (disch:=omega) only[go_sem,seval]);(repeat refine bZh bM ?_);exact hk.out):aNg P ρ f l k t:=dQ h hr (hk ⟨k'⟩)
theorem bU {fn:Func} {O:aV} {r:DV} (t:Nat) (h2:cG ρ t r) (hf:fn.results= #[.tmp t]:=by rfl) (h1:hi ρ=g7 O:=by (try simp (config := { maxSteps := 2000000 }) only[go_sem,seval]);(try simp (config := { maxSteps := 2000000 }) (disch:=omega) only[go_sem,seval])):aDl P fn O (fun O' r'=>O'=O∧r'=r) .ret ρ:=d5 t hf h1 h2
theorem yJ {fn:Func} {O:aV} {a b:ResultVar} {vs:List ResultVar} {rs:List DV} (h:RO P ρ (a::b::vs) rs) (hf:fn.results.toList=a::b::vs:=by rfl) (h1:hi ρ=g7 O:=by (try simp (config := { maxSteps := 2000000 }) only[go_sem,seval]);(try simp (config := { maxSteps := 2000000 }) (disch:=omega) only[go_sem,seval])):aDl P fn O (fun O' r'=>O'=O∧r'=.tup rs) .ret ρ:=oU hf h1 h
theorem xb {t:Nat} {a b:Bool} (k:a=b) (h:a=b→ρ t=vb b:=by intro hk;(try simp (config := { maxSteps := 2000000 }) only[go_sem,seval]);(try simp (config := { maxSteps := 2000000 }) (disch:=omega) only[go_sem,seval]);exact congrArg vb hk):cG ρ t (vb b):=cG.is (h k) rfl rfl
theorem xd {t:Nat} {b:Bool} (h:ρ t=vb b:=by ((try simp (config := { maxSteps := 2000000 }) only[go_sem,seval]);(try simp (config := { maxSteps := 2000000 }) (disch:=omega) only[go_sem,seval]))<;>refine congrArg vb ?_<;>first|rfl|exact bE|simp):cG ρ t (vb b):=cG.is h rfl rfl
theorem bL {id:Nat} {l:List Oper} {Q:Exit→aV→Prop} {q:Prop} (L:List Nat) (k:q) (hr:gL nt l=true:=by kernel_rfl) (h:Wr q→pw P l (Q .normal) l ⟨⟩ (keepC L ρ):=by intro hk;(try simp (config := { maxSteps := 2000000 }) only[go_sem,seval]);(try simp (config := { maxSteps := 2000000 }) (disch:=omega) only[go_sem,seval]);(repeat refine bZh bM ?_);exact hk.out):AW P nt (.region id l.toArray false) Q ρ:=aU L hr (h ⟨k⟩)
theorem aPy {σ:Type} {F:σ→World→(Nat→Prop)→cY→Prop} {s:σ} {id:Nat} {l:List Oper} {Q:Exit→σ→aV→Prop} {q:Prop} (hF:StF F) (L:List Nat) (k:q) (hr:gL nt l=true:=by kernel_rfl) (h:Wr q→pw P l (Q .normal s) l ⟨⟩ (keepC L ρ):=by intro hk;(try simp (config := { maxSteps := 2000000 }) only[go_sem,seval]);(try simp (config := { maxSteps := 2000000 }) (disch:=omega) only[go_sem,seval]);(repeat refine bZh bM ?_);exact hk.out):mL P nt F (.region id l.toArray false) Q s ρ:=bH hF (aU L hr (h ⟨k⟩))
theorem dE {id:Nat} {l:List Oper} {Q:Exit→aV→Prop} {q:Prop} (L:List Nat) (cl:List (Nat×Nat)) (k:q) (hm:P.follows .mixedOrders=true:=by exact eG)
  (hr:(gL nt l&&aLe l l.length 0 (Array.replicate l.length false)&&cl.all fun p=>decide (p.1<nt)&&decide (p.2<nt)&&p.1 !=p.2)=true:=by kernel_rfl) (h:Wr q→pwD P l (clG cl (Q .normal)) l ⟨⟩ (keepC L ρ):=by intro hk;(try simp (config := { maxSteps := 2000000 }) only[go_sem,seval]);(try simp (config := { maxSteps := 2000000 }) (disch:=omega) only[go_sem,seval]);(repeat refine bZh bM ?_);exact hk.out):AW P nt (.region id l.toArray true) Q ρ:=eC L cl hm hr (h ⟨k⟩)
theorem i0 {g:Bool} {pre:Prop} {f:FuncId} {l:List DV} {k:DV→Prop} {t:Tg k} {r:DV} {q:Prop} (h:g=true→bB P ρ f l r) (k':q) (hp:g=true→pre:=by first|exact fun _=>trivial|simp) (hr:lO r=true:=by rfl) (hk:Wr q→k r:=by intro hk;(try simp (config := { maxSteps := 2000000 }) only[go_sem,seval]);(try simp (config := { maxSteps := 2000000 }) (disch:=omega) only[go_sem,seval]);(repeat refine bZh bM ?_);exact hk.out):aKd P ρ g pre f l k t:=jC h hp hr (hk ⟨k'⟩)
theorem dD {f:FuncId} {c:Code} {O:aV} {args:List DV} {fn:Func} {r:DV} (hf:P.funcs[f]?=some fn) (h:AW P fn.ntmps c (aDl P fn O fun O' r'=>O'=O∧r'=r) (vH O args)) (hb:fn.body=some c:=by exact rfl)
  (hn:(decide (args.length≤fn.ntmps)&&decide (fn.ntmps≤100000)&&fn.results.toList.all (fun v=>match v with| .tmp t=>decide (t<fn.ntmps)| .cell t _=>decide (t<fn.ntmps)))=true:=by kernel_rfl):bB P O f args r:=aJt hf hb hn h
end
end Go.Sg
