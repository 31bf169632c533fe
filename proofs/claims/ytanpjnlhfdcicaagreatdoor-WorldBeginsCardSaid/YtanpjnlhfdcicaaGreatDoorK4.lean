/- Several texts as one. -/
import Derived.Test.YtanpjnlhfdcicaaGreatDoorK3
import Derived.Test.YtanpjnlhfdcicaaGreatDoorProg
set_option linter.unusedSectionVars false
set_option linter.unusedVariables false
set_option linter.unusedSimpArgs false
namespace Go.Sg
open Go.RowKit
open Go.Rv (FR)
structure Hd where
 B:Option Nat
 b:Option Addr
 c:Nat
abbrev mJ:Hd:=⟨none,none,0⟩
abbrev Hd.sl (h:Hd) (n:Nat):DV:=.v (.slice h.b n h.c)
inductive Rg where
 |row (h:Hd) (e:TypeId) (z:Nat) (l:List (List DV))
 |map (g c:Nat) (es:List (Value×Value))
def Rg.B:Rg->Option Nat
 | .row h _ _ _=>h.B
 | .map g _ _=>some g
def Rg.holds (w:World) (I:Nat->Prop):Rg->Prop
 | .row h e z l=>mU h.B h.b/\jX w I e z l h.B h.c
 | .map g _ es=> ∃vs cl,w.heap[g]?=some (.map (List.toArray vs) cl)/\vs.map (fun (m:MapEntry)=>(m.key,m.val))=es
structure zD (w:World) (I:Nat->Prop) (A:dD) (r:Rg):Prop where
 holds:r.holds w I
 free: ∀g,r.B=some g->g<w.heap.size/\ ¬I g/\ ∀s c,A s≠some (some g,c)
structure XG (w0:World) (I0:Nat->Prop) (A0:dD) (G0:Nat->Prop) (w:World) (I:Nat->Prop) (A:dD):Prop where
 os:w.os=w0.os
 tape:w.tape=w0.tape/\w0.drawn<=w.drawn
 output:w.output=w0.output
 size:w0.heap.size<=w.heap.size
 imm: ∀g,I0 g->I g
 old: ∀g,g<w0.heap.size->(∀s c,A0 s≠some (some g,c))-> ¬G0 g->w.heap[g]?=w0.heap[g]?/\(I g->I0 g)/\ ∀s c,A s≠some (some g,c)
 outA: ∀s,100000<=s->A s=A0 s
 loc: ∀s g c,A s=some (some g,c)->g<w0.heap.size->s<100000->G0 g\/ ∃t c',t<100000/\A0 t=some (some g,c')
def sB (rs:List Rg):Prop:=rs.Pairwise fun x y=> ∀g,x.B=some g->y.B≠some g
def pB (w0:World) (I0:Nat->Prop) (A0:dD) (G0:Nat->Prop) (rs:List Rg) (w:World) (I:Nat->Prop) (A:dD):Prop:=
 (∀r∈rs,zD w I A r)/\sB rs/\(∀r∈rs,∀g,r.B=some g->G0 g\/w0.heap.size<=g)/\XG w0 I0 A0 G0 w I A
section
variable {w0:World} {I0:Nat->Prop} {A0:dD} {G0:Nat->Prop}
theorem XG.refl (w:World) (I:Nat->Prop) (A:dD) (G:Nat->Prop):XG w I A G w I A:=⟨rfl,⟨rfl,bW _⟩,rfl,bW _,fun _ h=>h,fun g _ hA _=>⟨rfl,fun h=>h,hA⟩,fun _ _=>rfl,fun s g c h _ hs=>.inr ⟨s,c,hs,h⟩⟩
theorem XG.ext {w w':World} {I I':Nat->Prop} {A A':dD} (h:XG w0 I0 A0 G0 w I A) (k:f8 w I A w' I' A'):XG w0 I0 A0 G0 w' I' A' where
 os:=k.os.trans h.os
 tape:=⟨k.tape.1.trans h.tape.1,eL h.tape.2 k.tape.2⟩
 output:=k.output.trans h.output
 size:=eL h.size k.size
 imm:=fun g hg=>k.imm g (h.imm g hg)
 old:=fun g hg hA hG=>by
  obtain⟨h1,h2,h3⟩:=h.old g hg hA hG;obtain⟨k1,k2,k3⟩:=k.old g (eE hg h.size) h3;exact⟨k1.trans h1,fun x=>h2 (k2 x),k3⟩
 outA:=fun s hs=>(k.outA s hs).trans (h.outA s hs)
 loc:=fun s g c hA hg hs=>by
  obtain⟨t,c',ht,hAt⟩:=k.loc s g c hA (eE hg h.size) hs;exact h.loc t g c' hAt hg ht
theorem jX.ofG {w w':World} {I I':Nat->Prop} {e:TypeId} {z:Nat} {xs:List (List DV)} {B:Option Nat} {c:Nat} (h:jX w I e z xs B c) (hb: ∀g,B=some g->w'.heap[g]?=w.heap[g]?) (hr: ∀d x,bP w I fO d x->bP w' I' fO d x):jX w' I' e z xs B c:=by
 cases B with
 |none=>exact h
 |some g=>
  obtain⟨us,q1,q2,q3,q4,q5⟩:=h;exact⟨us,(hb g rfl).trans q1,q2,q3,q4,fun i x hx=>⟨(q5 i x hx).1,fun j d u hd hu=>⟨((q5 i x hx).2 j d u hd hu).1,hr _ _ ((q5 i x hx).2 j d u hd hu).2⟩⟩⟩
theorem Rg.holds.ofG {w w':World} {I I':Nat->Prop} {r:Rg} (h:r.holds w I) (hb: ∀g,r.B=some g->w'.heap[g]?=w.heap[g]?) (hr: ∀d x,bP w I fO d x->bP w' I' fO d x):r.holds w' I':=by
 cases r with
 |row h' e z l=>exact⟨h.1,h.2.ofG hb hr⟩
 |map g c es=>obtain⟨vs,cl,h1,h2⟩:=h;exact⟨vs,cl,(hb g rfl).trans h1,h2⟩
theorem zD.ext {w w':World} {I I':Nat->Prop} {A A':dD} {ρ:aN} {r:Rg} (hs:jI w I A ρ) (h:zD w I A r) (k:f8 w I A w' I' A'):zD w' I' A' r where
 holds:=h.holds.ofG (fun g hg=>(k.old g (h.free g hg).1 (h.free g hg).2.2).1) fun d x hr=>k.rel hs hr
 free:=fun g hg=>by
  obtain⟨h1,h2,h3⟩:=h.free g hg;obtain⟨k1,k2,k3⟩:=k.old g h1 h3;exact⟨eE h1 k.size,fun x=>h2 (k2 x),k3⟩
theorem pB.ext {w w':World} {I I':Nat->Prop} {A A':dD} {ρ:aN} {rs:List Rg} (hs:jI w I A ρ) (h:pB w0 I0 A0 G0 rs w I A) (k:f8 w I A w' I' A'):pB w0 I0 A0 G0 rs w' I' A':=
 ⟨fun r hr=>(h.1 r hr).ext hs k,h.2.1,h.2.2.1,h.2.2.2.ext k⟩
theorem pB.nil {w:World} {I:Nat->Prop} {A:dD} {s1 s2:List Rg} (h:pB w0 I0 A0 G0 (s1++s2) w I A) (e:TypeId) (z:Nat):pB w0 I0 A0 G0 (s1++(.row mJ e z [])::s2) w I A:=by
 obtain⟨f1,f2,f3,f4⟩:=h;have hm: ∀x∈s1++(.row mJ e z [])::s2,x=(.row mJ e z [])\/x∈s1++s2:=fun x hx=>by
  simp at hx ⊢;rcases hx with h|h|h
  ·exact .inr (.inl h)
  ·exact .inl h
  exact .inr (.inr h)
 refine⟨fun r hr=>?_,?_,fun r hr g hg=>?_,f4⟩
 ·rcases hm r hr with rfl|h
  ·exact {holds:=⟨lY _,(show ([]:List (List DV))=[]/\(0:Nat)=0 from ⟨rfl,rfl⟩)⟩,free:=fun g hg=>(by cases hg)}
  exact f1 r h
 ·unfold sB at f2 ⊢;rw[oI] at f2 ⊢;refine⟨f2.1,lZ.2 ⟨fun y hy g hg=>(by cases hg),f2.2.1⟩,fun x hx y hy g hg hy'=>?_⟩;rcases gN.1 hy with rfl|hy
  ·cases hy'
  exact f2.2.2 x hx y hy g hg hy'
 rcases hm r hr with rfl|h
 ·cases hg
 exact f3 r h g hg
theorem pB.swap {w:World} {I:Nat->Prop} {A:dD} {rs rs':List Rg} (h:pB w0 I0 A0 G0 rs w I A) (hp:rs.Perm rs'):pB w0 I0 A0 G0 rs' w I A:=
 ⟨fun r hr=>h.1 r (hp.mem_iff.2 hr),h.2.1.perm hp fun {x y} hxy g hg hg'=>hxy g hg' hg,fun r hr=>h.2.2.1 r (hp.mem_iff.2 hr),h.2.2.2⟩
end
def pL {σ:Type} (P:Program) (nt:Nat) (F:σ->World->(Nat->Prop)->dD->Prop) (c:Code) (Q:Exit->σ->aN->Prop) (s:σ) (ρ:aN):Prop:=
 ∀(ro:Option Nat) (ds:List Deferred) I A a w,dB nt w I A ρ a->a.defers=ds->F s w I A->
  c.wpIn (FR ro) 0 P (fun e a' w'=> ∃I' A' ρ' s',dB nt w' I' A' ρ' a'/\a'.defers=ds/\F s' w' I' A'/\Q e s' ρ') a w
def StF {σ:Type} (F:σ->World->(Nat->Prop)->dD->Prop):Prop:= ∀s w I A w' I' A' ρ,jI w I A ρ->F s w I A->f8 w I A w' I' A'->F s w' I' A'
theorem pS (w0:World) (I0:Nat->Prop) (A0:dD) (G0:Nat->Prop):StF (pB w0 I0 A0 G0):=fun _ _ _ _ _ _ _ _ hs h k=>pB.ext hs h k
def fQ {σ:Type} (K:σ->aN->Prop) (Q:Exit->σ->aN->Prop):Exit->σ->aN->Prop
 | .normal,s,ρ=>K s ρ
 |e,s,ρ=>Q e s ρ
def d8 {σ:Type} (id:Nat) (Q:Exit->σ->aN->Prop):Exit->σ->aN->Prop
 | .exit id',s,ρ=>if id'=id then Q .normal s ρ else Q (.exit id') s ρ
 |e,s,ρ=>Q e s ρ
section
variable {σ:Type} {P:Program} {nt:Nat} {F:σ->World->(Nat->Prop)->dD->Prop} {Q:Exit->σ->aN->Prop} {s:σ} {ρ:aN}
theorem iU (hF:StF F) {c:Code} (h:AW P nt c (fun e ρ'=>Q e s ρ') ρ):pL P nt F c Q s ρ:=fun ro ds I A a w hs hd hf=>
 wpIn_mono (h ro ds I A a w hs hd) fun _ _ _ ⟨I',A',ρ',h1,h2,h3,h4⟩=>⟨I',A',ρ',s,h1,h2,hF _ _ _ _ _ _ _ ρ hs.osim hf h3,h4⟩
theorem bU (h:Q .normal s ρ):pL P nt F .skip Q s ρ:=fun ro ds I A a w hs hd hf=>wpIn_skip ⟨I,A,ρ,s,hs,hd,hf,h⟩
theorem fV {i:Nat} (h:Q (.exit i) s ρ):pL P nt F (.exit i) Q s ρ:=fun ro ds I A a w hs hd hf=>wpIn_exit ⟨I,A,ρ,s,hs,hd,hf,h⟩
theorem dV (h:Q .ret s ρ):pL P nt F .ret Q s ρ:=fun ro ds I A a w hs hd hf=>wpIn_ret ⟨I,A,ρ,s,hs,hd,hf,h⟩
theorem aW {x y:Code} (h: ∀K:σ->aN->Prop,(∀s ρ,pL P nt F y Q s ρ->K s ρ)->pL P nt F x (fQ K Q) s ρ):pL P nt F (.seq x y) Q s ρ:=by
 intro ro ds I A a w hs hd hf;refine wpIn_seq (wpIn_mono (h (fun s ρ=>pL P nt F y Q s ρ) (fun _ _ h=>h) ro ds I A a w hs hd hf) ?_);intro e a1 w1 ⟨I1,A1,ρ1,s1,h1,h2,h3,h4⟩;cases e with
 |normal=>exact h4 ro ds I1 A1 a1 w1 h1 h2 h3
 |exit i=>exact⟨I1,A1,ρ1,s1,h1,h2,h3,h4⟩
 |goto l=>exact⟨I1,A1,ρ1,s1,h1,h2,h3,h4⟩
 |ret=>exact⟨I1,A1,ρ1,s1,h1,h2,h3,h4⟩
 |panic ch=>exact⟨I1,A1,ρ1,s1,h1,h2,h3,h4⟩
 |outgrown=>exact⟨I1,A1,ρ1,s1,h1,h2,h3,h4⟩
theorem bZ {id:Nat} {c:Code} (h:pL P nt F c (d8 id Q) s ρ):pL P nt F (.block id c) Q s ρ:=by
 intro ro ds I A a w hs hd hf;refine wpIn_block (wpIn_mono (h ro ds I A a w hs hd hf) ?_);intro e a1 w1 ⟨I1,A1,ρ1,s1,h1,h2,h3,h4⟩;cases e with
 |exit i=>
  simp only[Exit.inBlock,d8] at*;split<;>rename_i hi
  ·rw[if_pos hi] at h4;exact⟨I1,A1,ρ1,s1,h1,h2,h3,h4⟩
  rw[if_neg hi] at h4;exact⟨I1,A1,ρ1,s1,h1,h2,h3,h4⟩
 |normal=>exact⟨I1,A1,ρ1,s1,h1,h2,h3,h4⟩
 |goto l=>exact⟨I1,A1,ρ1,s1,h1,h2,h3,h4⟩
 |ret=>exact⟨I1,A1,ρ1,s1,h1,h2,h3,h4⟩
 |panic ch=>exact⟨I1,A1,ρ1,s1,h1,h2,h3,h4⟩
 |outgrown=>exact⟨I1,A1,ρ1,s1,h1,h2,h3,h4⟩
theorem cC {c:Code} {ρ ρ':aN} (hl:Le ρ ρ') (h:pL P nt F c Q s ρ'):pL P nt F c Q s ρ:=fun ro ds I A a w hs hd hf=>h ro ds I A a w (hs.weaken hl) hd hf
theorem aMx {x:Operand} {c d:Code} (b:Bool) (ho:s9 nt x=true) (hx:ev ρ x=.v (.bool b)) (ht:b=true->pL P nt F c Q s ρ) (hf:b=false->pL P nt F d Q s ρ):pL P nt F (.cond x c d) Q s ρ:=by
 intro ro ds I A a w hs hd hF;have he:=hs.evRel x ho;rw[hx] at he;have hv:a.eval x=.bool b:=by
  generalize a.eval x=y at he ⊢;cases he;rfl
 exact wpIn_cond_split hv (fun h=>ht h ro ds I A a w hs hd hF) (fun h=>hf h ro ds I A a w hs hd hF)
theorem bRm {c:Code} (J:Nat->σ->aN->Prop) (n₀:Nat) (h₀:J n₀ s ρ)
  (round: ∀n s ρ,J n s ρ-> ∀K:σ->aN->Prop,(∀m s' ρ',m<n->J m s' ρ'->K s' ρ')->pL P nt F c (fQ K Q) s ρ):pL P nt F (.loop c) Q s ρ:=by
 intro ro ds I A a w hs hd hf;refine wpIn_loop_ghost (fun n a' w'=> ∃I' A' ρ' s',dB nt w' I' A' ρ' a'/\a'.defers=ds/\F s' w' I' A'/\J n s' ρ') n₀ ⟨I,A,ρ,s,hs,hd,hf,h₀⟩ ?_;intro n a1 w1 ⟨I1,A1,ρ1,s1,h1,h2,h3,h4⟩;refine wpIn_mono (round n s1 ρ1 h4 (fun s ρ=> ∃m,m<n/\J m s ρ) (fun m s' ρ' hm hj=>⟨m,hm,hj⟩) ro ds I1 A1 a1 w1 h1 h2 h3) ?_;intro e a2 w2 ⟨I2,A2,ρ2,s2,k1,k2,k3,k4⟩;cases e with
 |normal=>obtain⟨m,hm,hj⟩:=k4;exact⟨m,hm,I2,A2,ρ2,s2,k1,k2,k3,hj⟩
 |exit i=>exact⟨I2,A2,ρ2,s2,k1,k2,k3,k4⟩
 |goto l=>exact⟨I2,A2,ρ2,s2,k1,k2,k3,k4⟩
 |ret=>exact⟨I2,A2,ρ2,s2,k1,k2,k3,k4⟩
 |panic ch=>exact⟨I2,A2,ρ2,s2,k1,k2,k3,k4⟩
 |outgrown=>exact⟨I2,A2,ρ2,s2,k1,k2,k3,k4⟩
theorem eY (L:List Nat) {c:Code} (J:Nat->σ->aN->Prop) (n₀:Nat) (h₀:J n₀ s (keepC L ρ))
  (round: ∀n s ρ,J n s ρ-> ∀K:σ->aN->Prop,(∀m s' ρ',m<n->J m s' (keepC L ρ')->K s' ρ')->pL P nt F c (fQ K Q) s ρ):pL P nt F (.loop c) Q s ρ:=by
 refine cC (Le.keepC L ρ) (bRm (fun n s ρ=> ∃ρ',J n s ρ'/\Le ρ ρ') n₀ ⟨_,h₀,Le.refl _⟩ ?_);rintro n s1 ρ1 ⟨ρ2,hJ,hle⟩ K hK;exact cC hle (round n s1 ρ2 hJ K fun m s' ρ' hm hj=>hK m s' ρ' hm ⟨_,hj,Le.keepC L ρ'⟩)
theorem aTa (K:σ->aN->Prop) (Q:Exit->σ->aN->Prop) (s:σ) (ρ:aN):fQ K Q .normal s ρ=K s ρ:=rfl
theorem bIe (K:σ->aN->Prop) (Q:Exit->σ->aN->Prop) (s:σ) (ρ:aN):fQ K Q .ret s ρ=Q .ret s ρ:=rfl
theorem bDo (K:σ->aN->Prop) (Q:Exit->σ->aN->Prop) (i:Nat) (s:σ) (ρ:aN):fQ K Q (.exit i) s ρ=Q (.exit i) s ρ:=rfl
theorem aPb (i:Nat) (Q:Exit->σ->aN->Prop) (s:σ) (ρ:aN):d8 i Q .normal s ρ=Q .normal s ρ:=rfl
theorem aZu (i:Nat) (Q:Exit->σ->aN->Prop) (s:σ) (ρ:aN):d8 i Q .ret s ρ=Q .ret s ρ:=rfl
theorem aXu (i j:Nat) (Q:Exit->σ->aN->Prop) (s:σ) (ρ:aN):d8 i Q (.exit j) s ρ=if j=i then Q .normal s ρ else Q (.exit j) s ρ:=rfl
def lW (P:Program) (nt:Nat) (F:σ->World->(Nat->Prop)->dD->Prop) (ops:Array Oper) (o:Oper) (K:σ->aN->Prop) (s:σ) (ρ:aN):Prop:=
 ∀(ro:Option Nat) (ds:List Deferred) I A a w,dB nt w I A ρ a->a.defers=ds->F s w I A-> ∀(next:Act->World->Prop) (Q':Exit->Act->World->Prop),
  (∀I' A' a' w' ρ' s',dB nt w' I' A' ρ' a'->a'.defers=ds->F s' w' I' A'->K s' ρ'->next a' w')->
  if Region.wanted o (yielded ops a.tmps)=true then o.wpIn (FR ro) 0 P a w next Q' else (∀f,o.about P w a.eval=some f->(FR ro).fn f)/\next (a.put o.dst undef) w
theorem fK (hF:StF F) {ops:Array Oper} {o:Oper} {K:σ->aN->Prop} (h:OW P nt ops o (K s) ρ):lW P nt F ops o K s ρ:=fun ro ds I A a w hs hd hf next Q' hn=>
 h ro ds I A a w hs hd next Q' fun I' A' a' w' ρ' q1 q2 q3 q4=>hn I' A' a' w' ρ' s q1 q2 (hF _ _ _ _ _ _ _ ρ hs.osim hf q3) q4
def RWF (P:Program) (nt:Nat) (F:σ->World->(Nat->Prop)->dD->Prop) (ops:Array Oper) (k:σ->aN->Prop):List Oper->σ->aN->Prop
 | [],s,ρ=>k s ρ
 |o::os,s,ρ=>lW P nt F ops o (RWF P nt F ops k os) s ρ
theorem aQn {ro:Option Nat} {ds:List Deferred} {ops:Array Oper} {k:σ->aN->Prop} {Q':Exit->Act->World->Prop}: ∀(l:List Oper) (s:σ) (ρ:aN) (I:Nat->Prop) (A:dD) (a:Act) (w:World),RWF P nt F ops k l s ρ->dB nt w I A ρ a->a.defers=ds->F s w I A->
  (∀I' A' a' w' ρ' s',dB nt w' I' A' ρ' a'->a'.defers=ds->F s' w' I' A'->k s' ρ'->Q' .normal a' w')->wpListIn (FR ro) 0 P ops Q' l a w
 | [],s,ρ,I,A,a,w,h,hs,hd,hf,hk=>hk I A a w ρ s hs hd hf h
 |o::l,s,ρ,I,A,a,w,h,hs,hd,hf,hk=>by
  refine wpListIn_step fun K hK=>h ro ds I A a w hs hd hf K Q' fun I' A' a' w' ρ' s' h1 h2 h3 h4=>hK _ _ ?_;exact aQn l s' ρ' I' A' a' w' h4 h1 h2 h3 hk
theorem cU {id:Nat} {l:List Oper} (h:RWF P nt F l.toArray (Q .normal) l s ρ):pL P nt F (.region id l.toArray false) Q s ρ:=by
 intro ro ds I A a w hs hd hf;exact wpIn_region_lit (aQn l s ρ I A a w h hs hd hf fun I' A' a' w' ρ' s' h1 h2 h3 h4=>⟨I',A',ρ',s',h1,h2,h3,h4⟩)
def bUp (P:Program) (nt:Nat) (F:σ->World->(Nat->Prop)->dD->Prop) (l:List Oper) (k:σ->aN->Prop):Nat->Array Bool->σ->aN->Prop
 |0,listed,s,ρ=>Region.ready .any l.toArray listed=[]/\ ∃ρ',Le ρ ρ'/\k s ρ'
 |fuel+1,listed,s,ρ=> ∃ρ',Le ρ ρ'/\(Region.ready .any l.toArray listed=[]->k s ρ')/\ ∀i∈Region.ready .any l.toArray listed,∃o,l[i]?=some o/\lW P nt F l.toArray o (bUp P nt F l k fuel (listed.setIfInBounds i true)) s ρ'
theorem aIl {ro:Option Nat} {ds:List Deferred} {l:List Oper} {k:σ->aN->Prop} {Q':Exit->Act->World->Prop}: ∀(fuel:Nat) (listed:Array Bool) (s:σ) (ρ:aN) (I:Nat->Prop) (A:dD) (a:Act) (w:World),
  bUp P nt F l k fuel listed s ρ->dB nt w I A ρ a->a.defers=ds->F s w I A->
  (∀I' A' a' w' ρ' s',dB nt w' I' A' ρ' a'->a'.defers=ds->F s' w' I' A'->k s' ρ'->Q' .normal a' w')->wpAnyIn (FR ro) 0 P .any l.toArray Q' fuel listed a w
 |0,listed,s,ρ,I,A,a,w,h,hs,hd,hf,hk=>by
  obtain⟨h1,ρ',hl,h2⟩:=h;exact⟨h1,hk I A a w ρ' s (hs.weaken hl) hd hf h2⟩
 |fuel+1,listed,s,ρ,I,A,a,w,h,hs,hd,hf,hk=>by
  obtain⟨ρ',hl,h1,h2⟩:=h;have hs:=hs.weaken hl;refine⟨fun h0=>hk I A a w ρ' s hs hd hf (h1 h0),fun i hi=>?_⟩;obtain⟨o,ho,h3⟩:=h2 i hi;unfold wpOpIn;simp only[xR,ho];exact h3 ro ds I A a w hs hd hf _ Q' fun I' A' a' w' ρ'' s'' q1 q2 q3 q4=>aIl fuel _ s'' ρ'' I' A' a' w' q4 q1 q2 q3 hk
theorem bHx (L:List Nat) {id:Nat} {l:List Oper} (hF:StF F) (hm:P.follows .mixedOrders=true)
  (h: ∀Y:Nat->Array Bool->σ->aN->Prop,
   (∀(n:Nat) (listed:Array Bool) (L:List Nat) (s:σ) (ρ:aN),zR l=true->listed.size=l.length->(∃i,i<l.length/\listed.getD i true=false)->(∀(i:Nat) (o:Oper),listed.getD i true=false->l[i]?=some o->(∀e∈o.after,Region.binds .any e=true->listed.getD e.on false=true)->lW P nt F l.toArray o (Y n (listed.setIfInBounds i true)) s (keepC L ρ))->Y (n+1) listed s ρ)->
   (∀(listed:Array Bool) (L:List Nat) (s:σ) (ρ:aN),(Region.ready .any l.toArray listed).isEmpty=true->Q .normal s (keepC L ρ)->Y 0 listed s ρ)->Y l.length (Array.replicate l.length false) s (keepC L ρ)):pL P nt F (.region id l.toArray true) Q s ρ:=by
 have hY:=h (bUp P nt F l (Q .normal)) (fun n listed L s ρ p1 p2 p3 q2=>⟨_,Le.keepC L ρ,fun h0=>absurd h0 (aKz p1 p2 p3),fun i hi=>by
   obtain⟨hun,o,ho,hdep⟩:=mem_ready.1 hi;have ho':l[i]?=some o:=by simpa using ho
   exact⟨o,ho',q2 i o hun ho' fun e he hb=>hdep e he hb⟩⟩) (fun listed L s ρ q1 q2=>⟨by simpa using q1,_,Le.keepC L ρ,q2⟩)
 refine cC (Le.keepC L ρ) ?_;intro ro ds I A a w hs hd hf;refine wpIn_region_any hm ?_;have hgr:oT w I w.drew I:=⟨rfl,⟨rfl,xJ _⟩,rfl,bW _,fun _ _=>rfl,fun _ h=>h,fun _ h=>.inl h⟩
 have:=aIl (ro:=ro) (Q':=fun e a' w'=> ∃I' A' ρ' s',dB nt w' I' A' ρ' a'/\a'.defers=ds/\F s' w' I' A'/\Q e s' ρ') _ _ s (keepC L ρ) I A a w.drew hY (hs.grow hgr) hd (hF _ _ _ _ _ _ _ _ hs.osim hf (hgr.ext hs.osim))
  fun I' A' a' w' ρ' s' q1 q2 q3 q4=>⟨I',A',ρ',s',q1,q2,q3,q4⟩
 simpa using this
end
attribute [go_sem] aTa bIe bDo aPb aZu aXu
section
variable {P:Program} {nt:Nat} {ρ:aN}
theorem dB.calledG {w w':World} {I I':Nat->Prop} {A:dD} {a:Act} {O':aN} (hs:dB nt w I A ρ a) (h1:jI w' I' A O') (h2: ∀s,fR (ρ s) (O' s)) (h3: ∀s,cX (ρ s)->cX (O' s)) (hrel: ∀d x,bP w I A d x->bP w' I' A d x):
  dB nt w' I' A O' a where
 osim:=h1
 size:=hs.size
 bound:=hs.bound
 slot:=fun i hi=>by
  have hsl:=hs.slot i hi;have hf:=h2 i;generalize a.tmps.getD i undef=x at*;generalize ρ i=d at*;generalize O' i=d' at*;cases d with
  |bx cs=>
   cases d'<;>simp only[fR] at hf<;>first|cases hf|skip
   exact hsl
  |row e z xs=>
   cases d' with
   |row e' z' xs'=>
    obtain⟨rfl,rfl,hl⟩:=hf;obtain⟨B,c,k1,k2⟩:=hsl;exact⟨B,c,k1,by rw[<- hl];exact k2⟩
   |_=>cases hf
  |cond g y=>simp only[fR] at hf;subst hf;exact⟨fun hg=>hrel _ _ (hsl.1 hg),hsl.2⟩
  |mo es=>simp only[fR] at hf;subst hf;exact hsl
  |_=>simp only[fR] at hf;subst hf;exact hrel _ _ hsl
 out:=fun s hs'=>h3 s (hs.out s hs')
theorem aEo {f:FuncId} {fn:Func} {c:Code} {O:aN} {args:List DV} {R:aN->DV->Prop} (hf:P.funcs[f]?=some fn) (hb:fn.body=some c)
  (hn:(decide (args.length<=fn.ntmps)&&decide (fn.ntmps<=100000)&&fn.results.toList.all (fun v=>match v with| .tmp t=>decide (t<fn.ntmps)| .cell t _=>decide (t<fn.ntmps)))=true)
  (h: ∀w I A a,dB fn.ntmps w I (cG A) (nF O args) a->a.defers=[]->c.wpIn (FR none) 0 P (fun e a' w'=> ∃I' A' ρ',dB fn.ntmps w' I' A' ρ' a'/\a'.defers=[]/\f8 w I (cG A) w' I' A'/\rZ P fn O R e ρ') a w):iC P O f args R:=by
 intro w I A vals hO hl hv;simp only[cD,dR] at hn;obtain⟨⟨hn1,hn2⟩,hn3⟩:=hn;refine calls_of_wp hf hb (wp_mono (wpIn_wide.1 (Go.Rv.w8▸h w I A _ (dB.enter hO hl hn1 hn2 hv) rfl)) ?_);intro e a' w' ⟨I',A',ρ',k1,k2,k3,k4⟩
 have fin:(∃O' r,(∀s,ρ' (s+100000)=sh (O' s))/\(∀s,fR (O s) (O' s))/\(∀s,cX (O s)->cX (O' s))/\qI P ρ' fn.results.toList r/\R O' r)->
   ∃v,(results fn a'.tmps).run P w'=.ok v w'/\ ∃v' I' O' r,Ending.returned v=.returned v'/\jI w' I' A O'/\(∀s,fR (O s) (O' s))/\(∀s,cX (O s)->cX (O' s))/\f8 w I A w' I' A/\qA w w' I' A r v'/\R O' r:=by
  rintro⟨O',r,q1,q2,q3,q4,q5⟩;obtain⟨v,r1,r2⟩:=aOh k1 k3 hn3 q4;have hA': ∀s,A' (s+100000)=A s:=fun s=>by rw[k3.outA _ aV,d7]
  have hfun:(fun s=>A' (s+100000))=A:=funext hA';refine⟨v,r1,v,I',O',r,rfl,⟨fun s=>?_,hO.inj,fun s g c hA=>?_,k1.osim.imm⟩,q2,q3,⟨k3.os,k3.tape,k3.output,k3.size,k3.imm,fun g hg hA=>?_,fun s g c hA _ hs=>⟨s,c,hs,hA⟩,fun _ _=>rfl⟩,r2,q5⟩
  ·have:=k1.osim.own (s+100000);rw[q1] at this;have:=this.outof (s:=s) rfl
   rwa [hfun] at this
  ·exact k1.osim.sep (s+100000) g c ((hA' s).trans hA)
  obtain⟨e1,e2,e3⟩:=k3.old g hg fun s c hs=>by
   unfold cG at hs;split at hs
   ·cases hs
   exact hA _ _ hs
  exact⟨e1,e2,hA⟩
 cases e with
 |normal=>exact⟨k2,fin k4⟩
 |ret=>exact⟨k2,fin k4⟩
 |_=>exact k4.elim
end
section
variable {w0:World} {I0:Nat->Prop} {A0:dD} {G0:Nat->Prop} {P:Program} {nt:Nat} {ρ:aN}
theorem dB.takeG {w:World} {I:Nat->Prop} {A:dD} {a:Act} {s1 s2:List Rg} {h0:Hd} {e:TypeId} {z:Nat} {l:List (List DV)} {d:Nat} (hs:dB nt w I A ρ a) (hf:pB w0 I0 A0 G0 (s1++ .row h0 e z l::s2) w I A) (hd:d<nt) (hρ:ρ d=h0.sl l.length):
  dB nt w I (kC A d (some (h0.B,h0.c))) (set (d4 d ρ) d (.row e z l)) a/\pB w0 I0 A0 G0 (s1++s2) w I (kC A d (some (h0.B,h0.c))):=by
 obtain⟨f1,f2,f3,f4⟩:=hf;have hrow:=f1 (.row h0 e z l) dH;have hd2:d<100000:=eE hd hs.bound;have hup: ∀t,t≠d->kC A d (some (h0.B,h0.c)) t=A t:=fun t h=>fF A _ h;have hap: ∀x∈s1++s2,∀g,h0.B=some g->x.B≠some g:=fun x hx g hg=>by
  unfold sB at f2;rw[oI] at f2;rcases iV.1 hx with h|h
  ·intro hxg;exact f2.2.2 x h (.row h0 e z l) dH g hxg hg
  exact (lZ.1 f2.2.1).1 x h g hg
 have hval:a.tmps.getD d undef=.slice h0.b l.length h0.c:=by
  have:=hs.slot d hd;rw[hρ] at this;generalize a.tmps.getD d undef=x at this ⊢;have this:bP w I A (.v (.slice h0.b l.length h0.c)) x:=this;cases this;rfl
 have hsome: ∀s g c,kC A d (some (h0.B,h0.c)) s=some (some g,c)->(s=d/\h0.B=some g)\/(s≠d/\A s=some (some g,c)):=fun s g c h=>by
  rcases cZ h with ⟨h1,h2⟩|⟨h1,h2⟩
  ·simp only[bX,cF] at h2;exact .inl ⟨h1,by first|exact h2.1|exact h2.1.symm|exact congrArg some h2.1|exact congrArg some h2.1.symm⟩
  exact .inr ⟨h1,h2⟩
 refine⟨⟨⟨fun s=>?_,fun s t g c1 c2 h1 h2=>?_,fun s g c1 h1=>?_,hs.osim.imm⟩,hs.size,hs.bound,fun i hi=>?_,fun s h=>?_⟩,fun x hx=>?_,f2.sublist (List.Sublist.append (List.Sublist.refl _) (List.sublist_cons_self _ _)),fun x hx=>f3 x (by simp at hx ⊢;rcases hx with h|h;exact .inl h;exact .inr (.inr h)),
  ⟨f4.os,f4.tape,f4.output,f4.size,f4.imm,fun g hg hA hG=>?_,fun s hs'=>?_,fun s g c h1 hg hs'=>?_⟩⟩
 ·unfold set;split
  ·rename_i h;subst h;exact⟨_,_,dJ _ _ _,hrow.holds.2⟩
  rename_i h;rw[fT hd2 (hs.out s)];exact (hs.osim.own s).reown h hup
 ·rcases hsome s g c1 h1 with ⟨rfl,h3⟩|⟨h3,h4⟩<;>rcases hsome t g c2 h2 with ⟨rfl,h5⟩|⟨h5,h6⟩
  ·rfl
  ·exact absurd h6 ((hrow.free g h3).2.2 t c2)
  ·exact absurd h4 ((hrow.free g h5).2.2 s c1)
  exact hs.osim.inj s t g c1 c2 h4 h6
 ·rcases hsome s g c1 h1 with ⟨rfl,h3⟩|⟨h3,h4⟩
  ·exact⟨(hrow.free g h3).1,(hrow.free g h3).2.1⟩
  exact hs.osim.sep s g c1 h4
 ·unfold set;split
  ·rename_i h;subst h;exact⟨_,_,dJ _ _ _,h0.b,hrow.holds.1,hval⟩
  rename_i h;rw[fT hd2 (hs.out i)];exact (hs.slot i hi).reown h hup
 ·unfold set;rw[if_neg aV,fT hd2 (hs.out s)];exact l3 (hs.out s h)
 ·have hx1:=f1 x (by simp at hx ⊢;rcases hx with h|h;exact .inl h;exact .inr (.inr h));refine⟨hx1.holds,fun g hg=>⟨(hx1.free g hg).1,(hx1.free g hg).2.1,fun s c h=>?_⟩⟩;rcases hsome s g c h with ⟨rfl,h3⟩|⟨h3,h4⟩
  ·exact hap x hx g h3 hg
  exact (hx1.free g hg).2.2 s c h4
 ·obtain⟨k1,k2,k3⟩:=f4.old g hg hA hG;refine⟨k1,k2,fun s c h=>?_⟩;rcases hsome s g c h with ⟨rfl,h3⟩|⟨h3,h4⟩
  ·rcases f3 (.row h0 e z l) dH g h3 with h|h
   ·exact hG h
   omega
  exact k3 s c h4
 ·rw[hup s aV];exact f4.outA s hs'
 rcases hsome s g c h1 with ⟨rfl,h3⟩|⟨h3,h4⟩
 ·rcases f3 (.row h0 e z l) dH g h3 with h|h
  ·exact .inl h
  omega
 exact f4.loc s g c h4 hg hs'
theorem dB.takeM {w:World} {I:Nat->Prop} {A:dD} {a:Act} {s1 s2:List Rg} {g0 c0:Nat} {es:List (Value×Value)} {d:Nat} (hs:dB nt w I A ρ a) (hf:pB w0 I0 A0 G0 (s1++ .map g0 c0 es::s2) w I A) (hd:d<nt) (hρ:ρ d=.v (.map (some g0))):
  dB nt w I (kC A d (some ((some g0),c0))) (set (d4 d ρ) d (.mo es)) a/\pB w0 I0 A0 G0 (s1++s2) w I (kC A d (some ((some g0),c0))):=by
 obtain⟨f1,f2,f3,f4⟩:=hf;have hrow:=f1 (.map g0 c0 es) dH;have hd2:d<100000:=eE hd hs.bound;have hup: ∀t,t≠d->kC A d (some ((some g0),c0)) t=A t:=fun t h=>fF A _ h;have hap: ∀x∈s1++s2,∀g,(some g0)=some g->x.B≠some g:=fun x hx g hg=>by
  unfold sB at f2;rw[oI] at f2;rcases iV.1 hx with h|h
  ·intro hxg;exact f2.2.2 x h (.map g0 c0 es) dH g hxg hg
  exact (lZ.1 f2.2.1).1 x h g hg
 have hval:a.tmps.getD d undef=.map (some g0):=by
  have:=hs.slot d hd;rw[hρ] at this;generalize a.tmps.getD d undef=x at this ⊢;have this:bP w I A (.v (.map (some g0))) x:=this;cases this;rfl
 have hsome: ∀s g c,kC A d (some ((some g0),c0)) s=some (some g,c)->(s=d/\(some g0)=some g)\/(s≠d/\A s=some (some g,c)):=fun s g c h=>by
  rcases cZ h with ⟨h1,h2⟩|⟨h1,h2⟩
  ·simp only[bX,cF] at h2;exact .inl ⟨h1,by first|exact h2.1|exact h2.1.symm|exact congrArg some h2.1|exact congrArg some h2.1.symm⟩
  exact .inr ⟨h1,h2⟩
 refine⟨⟨⟨fun s=>?_,fun s t g c1 c2 h1 h2=>?_,fun s g c1 h1=>?_,hs.osim.imm⟩,hs.size,hs.bound,fun i hi=>?_,fun s h=>?_⟩,fun x hx=>?_,f2.sublist (List.Sublist.append (List.Sublist.refl _) (List.sublist_cons_self _ _)),fun x hx=>f3 x (by simp at hx ⊢;rcases hx with h|h;exact .inl h;exact .inr (.inr h)),
  ⟨f4.os,f4.tape,f4.output,f4.size,f4.imm,fun g hg hA hG=>?_,fun s hs'=>?_,fun s g c h1 hg hs'=>?_⟩⟩
 ·unfold set;split
  ·rename_i h;subst h;obtain⟨vs,cl,hv1,hv2⟩:=hrow.holds;exact⟨g0,c0,vs,cl,dJ _ _ _,hv1,hv2⟩
  rename_i h;rw[fT hd2 (hs.out s)];exact (hs.osim.own s).reown h hup
 ·rcases hsome s g c1 h1 with ⟨rfl,h3⟩|⟨h3,h4⟩<;>rcases hsome t g c2 h2 with ⟨rfl,h5⟩|⟨h5,h6⟩
  ·rfl
  ·exact absurd h6 ((hrow.free g h3).2.2 t c2)
  ·exact absurd h4 ((hrow.free g h5).2.2 s c1)
  exact hs.osim.inj s t g c1 c2 h4 h6
 ·rcases hsome s g c1 h1 with ⟨rfl,h3⟩|⟨h3,h4⟩
  ·exact⟨(hrow.free g h3).1,(hrow.free g h3).2.1⟩
  exact hs.osim.sep s g c1 h4
 ·unfold set;split
  ·rename_i h;subst h;exact⟨g0,c0,dJ _ _ _,hval⟩
  rename_i h;rw[fT hd2 (hs.out i)];exact (hs.slot i hi).reown h hup
 ·unfold set;rw[if_neg aV,fT hd2 (hs.out s)];exact l3 (hs.out s h)
 ·have hx1:=f1 x (by simp at hx ⊢;rcases hx with h|h;exact .inl h;exact .inr (.inr h));refine⟨hx1.holds,fun g hg=>⟨(hx1.free g hg).1,(hx1.free g hg).2.1,fun s c h=>?_⟩⟩;rcases hsome s g c h with ⟨rfl,h3⟩|⟨h3,h4⟩
  ·exact hap x hx g h3 hg
  exact (hx1.free g hg).2.2 s c h4
 ·obtain⟨k1,k2,k3⟩:=f4.old g hg hA hG;refine⟨k1,k2,fun s c h=>?_⟩;rcases hsome s g c h with ⟨rfl,h3⟩|⟨h3,h4⟩
  ·rcases f3 (.map g0 c0 es) dH g h3 with h|h
   ·exact hG h
   omega
  exact k3 s c h4
 ·rw[hup s aV];exact f4.outA s hs'
 rcases hsome s g c h1 with ⟨rfl,h3⟩|⟨h3,h4⟩
 ·rcases f3 (.map g0 c0 es) dH g h3 with h|h
  ·exact .inl h
  omega
 exact f4.loc s g c h4 hg hs'
theorem dB.giveG {w:World} {I:Nat->Prop} {A:dD} {a:Act} {s1 s2:List Rg} {d:Nat} {e:TypeId} {z:Nat} {l:List (List DV)} (hs:dB nt w I A ρ a) (hf:pB w0 I0 A0 G0 (s1++s2) w I A) (hd:d<nt)
  (hρ:ρ d=.row e z l) (hnew: ∀g c,A d=some (some g,c)->G0 g\/w0.heap.size<=g): ∃h:Hd,dB nt w I (kC A d none) (set (d4 d ρ) d (h.sl l.length)) a/\pB w0 I0 A0 G0 (s1++ .row h e z l::s2) w I (kC A d none):=by
 have hsl:=hs.slot d hd;have ho:=hs.osim.own d;have hd2:d<100000:=eE hd hs.bound;rw[hρ] at hsl ho;obtain⟨B,c,hA,b,hb,hx⟩:=hsl;obtain⟨B',c',hA',hrow⟩:=ho;rw[hA] at hA';simp only[bX,cF] at hA';obtain⟨rfl,rfl⟩:=hA';have hup: ∀t,t≠d->kC A d none t=A t:=fun t h=>fF A _ h;have hno: ∀t g c',kC A d none t=some (some g,c')->t≠d/\A t=some (some g,c'):=fun t g c' h=>by
  unfold kC at h;split at h
  ·cases h
  rename_i h';exact⟨h',h⟩
 have hsep: ∀g,B=some g->g<w.heap.size/\ ¬I g/\ ∀s c',kC A d none s≠some (some g,c'):=fun g hg=>by
  have h1:=hs.osim.sep d g c (by rw[hA,hg]);refine⟨h1.1,h1.2,fun s c' h=>?_⟩;obtain⟨h2,h3⟩:=hno s g c' h;exact h2 (hs.osim.inj s d g c' c h3 (by rw[hA,hg]))
 obtain⟨f1,f2,f3,f4⟩:=hf;have hm: ∀x∈s1++(.row ⟨B,b,c⟩ e z l)::s2,x=(.row ⟨B,b,c⟩ e z l)\/x∈s1++s2:=fun x hx=>by
  simp at hx ⊢;rcases hx with h|h|h
  ·exact .inr (.inl h)
  ·exact .inl h
  exact .inr (.inr h)
 have hne: ∀x∈s1++s2,∀g,B=some g->x.B≠some g:=fun x hx g hg hxg=>((f1 x hx).free g hxg).2.2 d c (by rw[hA];exact congrArg (fun q=>some (q,c)) hg);refine⟨⟨B,b,c⟩,⟨⟨fun s=>?_,fun s t g c1 c2 h1 h2=>?_,fun s g c1 h=>?_,hs.osim.imm⟩,hs.size,hs.bound,fun i hi=>?_,fun s h=>?_⟩,fun r hr=>?_,?_,fun r hr g hg=>?_,⟨f4.os,f4.tape,f4.output,f4.size,f4.imm,fun g hg hAg hG=>?_,fun s hs'=>?_,fun s g c' h hg hs'=>f4.loc s g c' (hno s g c' h).2 hg hs'⟩⟩
 ·unfold set;split
  ·trivial
  rename_i h;rw[fT hd2 (hs.out s)];exact (hs.osim.own s).reown h hup
 ·exact hs.osim.inj s t g c1 c2 (hno s g c1 h1).2 (hno t g c2 h2).2
 ·exact hs.osim.sep s g c1 (hno s g c1 h).2
 ·unfold set;split
  ·rename_i h;subst h;rw[hx];exact .ofRel (.v _ _)
  rename_i h;rw[fT hd2 (hs.out i)];exact (hs.slot i hi).reown h hup
 ·unfold set;rw[if_neg aV,fT hd2 (hs.out s)];exact l3 (hs.out s h)
 ·rcases hm r hr with rfl|h
  ·exact⟨⟨hb,hrow⟩,hsep⟩
  obtain⟨q1,q3⟩:=f1 r h;exact⟨q1,fun g hg=>⟨(q3 g hg).1,(q3 g hg).2.1,fun s c' h=>(q3 g hg).2.2 s c' (hno s g c' h).2⟩⟩
 ·unfold sB at f2 ⊢;rw[oI] at f2 ⊢;refine⟨f2.1,lZ.2 ⟨fun y hy g hg=>hne y (by simp[hy]) g hg,f2.2.1⟩,fun x hx y hy g hg hy'=>?_⟩;rcases gN.1 hy with rfl|hy
  ·exact hne x (by simp[hx]) g hy' hg
  exact f2.2.2 x hx y hy g hg hy'
 ·rcases hm r hr with rfl|h
  ·exact hnew g c (by rw[hA];exact congrArg (fun q=>some (q,c)) hg)
  exact f3 r h g hg
 ·obtain⟨k1,k2,k3⟩:=f4.old g hg hAg hG;exact⟨k1,k2,fun s c' h=>k3 s c' (hno s g c' h).2⟩
 rw[hup s aV];exact f4.outA s hs'
theorem dB.giveM {w:World} {I:Nat->Prop} {A:dD} {a:Act} {s1 s2:List Rg} {d:Nat} {es:List (Value×Value)} (hs:dB nt w I A ρ a) (hf:pB w0 I0 A0 G0 (s1++s2) w I A) (hd:d<nt)
  (hρ:ρ d=.mo es) (hnew: ∀g c,A d=some (some g,c)->G0 g\/w0.heap.size<=g): ∃g0 c0,dB nt w I (kC A d none) (set (d4 d ρ) d (.v (.map (some g0)))) a/\pB w0 I0 A0 G0 (s1++ .map g0 c0 es::s2) w I (kC A d none):=by
 have hsl:=hs.slot d hd;have ho:=hs.osim.own d;have hd2:d<100000:=eE hd hs.bound;rw[hρ] at hsl ho;obtain⟨g0,c,hA,hx⟩:=hsl;obtain⟨g1,c',vs,cl,hA',hv1,hv2⟩:=ho;rw[hA] at hA';simp only[bX,cF] at hA';obtain⟨rfl,rfl⟩:=hA';have hup: ∀t,t≠d->kC A d none t=A t:=fun t h=>fF A _ h;have hno: ∀t g c',kC A d none t=some (some g,c')->t≠d/\A t=some (some g,c'):=fun t g c' h=>by
  unfold kC at h;split at h
  ·cases h
  rename_i h';exact⟨h',h⟩
 have hsep: ∀g,(some g0:Option Nat)=some g->g<w.heap.size/\ ¬I g/\ ∀s c',kC A d none s≠some (some g,c'):=fun g hg=>by
  have h1:=hs.osim.sep d g c (by rw[hA,hg]);refine⟨h1.1,h1.2,fun s c' h=>?_⟩;obtain⟨h2,h3⟩:=hno s g c' h;exact h2 (hs.osim.inj s d g c' c h3 (by rw[hA,hg]))
 obtain⟨f1,f2,f3,f4⟩:=hf;have hm: ∀x∈s1++(.map g0 c es)::s2,x=(.map g0 c es)\/x∈s1++s2:=fun x hx=>by
  simp at hx ⊢;rcases hx with h|h|h
  ·exact .inr (.inl h)
  ·exact .inl h
  exact .inr (.inr h)
 have hne: ∀x∈s1++s2,∀g,(some g0:Option Nat)=some g->x.B≠some g:=fun x hx g hg hxg=>((f1 x hx).free g hxg).2.2 d c (by rw[hA];exact congrArg (fun q=>some (q,c)) hg);refine⟨g0,c,⟨⟨fun s=>?_,fun s t g c1 c2 h1 h2=>?_,fun s g c1 h=>?_,hs.osim.imm⟩,hs.size,hs.bound,fun i hi=>?_,fun s h=>?_⟩,fun r hr=>?_,?_,fun r hr g hg=>?_,⟨f4.os,f4.tape,f4.output,f4.size,f4.imm,fun g hg hAg hG=>?_,fun s hs'=>?_,fun s g c' h hg hs'=>f4.loc s g c' (hno s g c' h).2 hg hs'⟩⟩
 ·unfold set;split
  ·trivial
  rename_i h;rw[fT hd2 (hs.out s)];exact (hs.osim.own s).reown h hup
 ·exact hs.osim.inj s t g c1 c2 (hno s g c1 h1).2 (hno t g c2 h2).2
 ·exact hs.osim.sep s g c1 (hno s g c1 h).2
 ·unfold set;split
  ·rename_i h;subst h;rw[hx];exact .ofRel (.v _ _)
  rename_i h;rw[fT hd2 (hs.out i)];exact (hs.slot i hi).reown h hup
 ·unfold set;rw[if_neg aV,fT hd2 (hs.out s)];exact l3 (hs.out s h)
 ·rcases hm r hr with rfl|h
  ·exact⟨⟨vs,cl,hv1,hv2⟩,hsep⟩
  obtain⟨q1,q3⟩:=f1 r h;exact⟨q1,fun g hg=>⟨(q3 g hg).1,(q3 g hg).2.1,fun s c' h=>(q3 g hg).2.2 s c' (hno s g c' h).2⟩⟩
 ·unfold sB at f2 ⊢;rw[oI] at f2 ⊢;refine⟨f2.1,lZ.2 ⟨fun y hy g hg=>hne y (by simp[hy]) g hg,f2.2.1⟩,fun x hx y hy g hg hy'=>?_⟩;rcases gN.1 hy with rfl|hy
  ·exact hne x (by simp[hx]) g hy' hg
  exact f2.2.2 x hx y hy g hg hy'
 ·rcases hm r hr with rfl|h
  ·exact hnew g c (by rw[hA];exact congrArg (fun q=>some (q,c)) hg)
  exact f3 r h g hg
 ·obtain⟨k1,k2,k3⟩:=f4.old g hg hAg hG;exact⟨k1,k2,fun s c' h=>k3 s c' (hno s g c' h).2⟩
 rw[hup s aV];exact f4.outA s hs'
theorem pB.mine {w:World} {I:Nat->Prop} {A:dD} {rs:List Rg} (hf:pB w0 I0 (cG A0) G0 rs w I A) (hs:jI w I A ρ) {d:Nat} (hd:d<100000) (g c:Nat) (hA:A d=some (some g,c)):G0 g\/w0.heap.size<=g:=by
 rcases b9 g w0.heap.size with hlt|hge
 ·rcases hf.2.2.2.loc d g c hA hlt hd with h|⟨t,c',ht,hAt⟩
  ·exact .inl h
  unfold cG at hAt;rw[if_pos ht] at hAt;cases hAt
 exact .inr hge
theorem bJn {c:Code} {Q:Exit->List Rg->aN->Prop} {rs s1 s2:List Rg} {h0:Hd} {e:TypeId} {z:Nat} {l:List (List DV)} (d:Nat) (hd:d<nt) (hρ:ρ d=h0.sl l.length) (hr:rs=s1++ .row h0 e z l::s2)
  (h:pL P nt (pB w0 I0 A0 G0) c Q (s1++s2) (set (d4 d ρ) d (.row e z l))):pL P nt (pB w0 I0 A0 G0) c Q rs ρ:=fun ro ds I A a w hs hdf hf=>by
 subst hr;obtain⟨h1,h2⟩:=hs.takeG hf hd hρ;exact h ro ds I _ a w h1 hdf h2
theorem iI {ops:Array Oper} {o:Oper} {K:List Rg->aN->Prop} {rs s1 s2:List Rg} {h0:Hd} {e:TypeId} {z:Nat} {l:List (List DV)} (d:Nat) (hd:d<nt) (hρ:ρ d=h0.sl l.length) (hr:rs=s1++ .row h0 e z l::s2)
  (h:lW P nt (pB w0 I0 A0 G0) ops o K (s1++s2) (set (d4 d ρ) d (.row e z l))):lW P nt (pB w0 I0 A0 G0) ops o K rs ρ:=fun ro ds I A a w hs hdf hf=>by
 subst hr;obtain⟨h1,h2⟩:=hs.takeG hf hd hρ;exact h ro ds I _ a w h1 hdf h2
theorem bJl {c:Code} {Q:Exit->List Rg->aN->Prop} {rs s1 s2:List Rg} {e:TypeId} {z:Nat} {l:List (List DV)} (d:Nat) (hd:d<nt) (hρ:ρ d=.row e z l) (hr:rs=s1++s2)
  (h: ∀hd:Hd,pL P nt (pB w0 I0 (cG A0) G0) c Q (s1++ .row hd e z l::s2) (set (d4 d ρ) d (hd.sl l.length))):pL P nt (pB w0 I0 (cG A0) G0) c Q rs ρ:=fun ro ds I A a w hs hdf hf=>by
 subst hr;obtain⟨hh,h1,h2⟩:=hs.giveG hf hd hρ fun g c hA=>hf.mine hs.osim (eE hd hs.bound) g c hA;exact h hh ro ds I _ a w h1 hdf h2
theorem nV {ops:Array Oper} {o:Oper} {K:List Rg->aN->Prop} {rs s1 s2:List Rg} {e:TypeId} {z:Nat} {l:List (List DV)} (d:Nat) (hd:d<nt) (hρ:ρ d=.row e z l) (hr:rs=s1++s2)
  (h: ∀hd:Hd,lW P nt (pB w0 I0 (cG A0) G0) ops o K (s1++ .row hd e z l::s2) (set (d4 d ρ) d (hd.sl l.length))):lW P nt (pB w0 I0 (cG A0) G0) ops o K rs ρ:=fun ro ds I A a w hs hdf hf=>by
 subst hr;obtain⟨hh,h1,h2⟩:=hs.giveG hf hd hρ fun g c hA=>hf.mine hs.osim (eE hd hs.bound) g c hA;exact h hh ro ds I _ a w h1 hdf h2
theorem bJe {c:Code} {Q:Exit->List Rg->aN->Prop} {rs s1 s2:List Rg} {g0 c0:Nat} {es:List (Value×Value)} (d:Nat) (hd:d<nt) (hρ:ρ d=.v (.map (some g0))) (hr:rs=s1++ .map g0 c0 es::s2)
  (h:pL P nt (pB w0 I0 A0 G0) c Q (s1++s2) (set (d4 d ρ) d (.mo es))):pL P nt (pB w0 I0 A0 G0) c Q rs ρ:=fun ro ds I A a w hs hdf hf=>by
 subst hr;obtain⟨h1,h2⟩:=hs.takeM hf hd hρ;exact h ro ds I _ a w h1 hdf h2
theorem bJa {c:Code} {Q:Exit->List Rg->aN->Prop} {rs s1 s2:List Rg} {es:List (Value×Value)} (d:Nat) (hd:d<nt) (hρ:ρ d=.mo es) (hr:rs=s1++s2)
  (h: ∀g0 c0,pL P nt (pB w0 I0 (cG A0) G0) c Q (s1++ .map g0 c0 es::s2) (set (d4 d ρ) d (.v (.map (some g0))))):pL P nt (pB w0 I0 (cG A0) G0) c Q rs ρ:=fun ro ds I A a w hs hdf hf=>by
 subst hr;obtain⟨gg,cc,h1,h2⟩:=hs.giveM hf hd hρ fun g c hA=>hf.mine hs.osim (eE hd hs.bound) g c hA;exact h gg cc ro ds I _ a w h1 hdf h2
theorem kF {c:Code} {Q:Exit->List Rg->aN->Prop} {rs:List Rg} (s1 s2:List Rg) (e:TypeId) (z:Nat) (hr:rs=s1++s2) (h:pL P nt (pB w0 I0 A0 G0) c Q (s1++ .row mJ e z []::s2) ρ):pL P nt (pB w0 I0 A0 G0) c Q rs ρ:=fun ro ds I A a w hs hdf hf=>by
 subst hr;exact h ro ds I A a w hs hdf (hf.nil e z)
theorem dB.settleG {w:World} {I:Nat->Prop} {A:dD} {a:Act} {s1 s2:List Rg} {h0:Hd} {e:TypeId} {z:Nat} {l:List (List DV)} (hs:dB nt w I A ρ a) (hf:pB w0 I0 A0 G0 (s1++ .row h0 e z l::s2) w I A):
  ∃I':Nat->Prop,dB nt w I' A ρ a/\pB w0 I0 A0 G0 (s1++s2) w I' A/\(∀B d x,bP w I B d x->bP w I' B d x)/\ ∀(B:dD) (n:Nat),n=l.length->bP w I' B (Sg.frz z l) (.slice h0.b n h0.c):=by
 obtain⟨f1,f2,f3,f4⟩:=hf;have hrow:=f1 (.row h0 e z l) dH;have hap: ∀x∈s1++s2,∀g,h0.B=some g->x.B≠some g:=fun x hx g hg=>by
  unfold sB at f2;rw[oI] at f2;rcases iV.1 hx with h|h
  ·intro hxg;exact f2.2.2 x h (.row h0 e z l) dH g hxg hg
  exact (lZ.1 f2.2.1).1 x h g hg
 have hmono: ∀(B':dD) d x,bP w I B' d x->bP w (fun g=>I g\/h0.B=some g) B' d x:=fun B' d x hr=>hr.mono fun g hg=>⟨.inl hg,fun _=>rfl⟩;refine⟨fun g=>I g\/h0.B=some g,⟨⟨fun t=>(hs.osim.own t).keep (fun _ _ _=>rfl) hmono,hs.osim.inj,fun t g c' hA=>⟨(hs.osim.sep t g c' hA).1,fun hi=>hi.elim (hs.osim.sep t g c' hA).2 fun hb=>(hrow.free g hb).2.2 t c' hA⟩,hs.osim.imm.step (fun g hg=>hg.elim (hs.osim.imm g) fun hb=>(hrow.free g hb).1) fun g hg=>⟨.inl hg,rfl⟩⟩,hs.size,hs.bound,fun i hi=>(hs.slot i hi).keep hmono,hs.out⟩,⟨fun x hx=>?_,f2.sublist (List.Sublist.append (List.Sublist.refl _) (List.sublist_cons_self _ _)),fun x hx=>f3 x (by simp at hx ⊢;rcases hx with h|h;exact .inl h;exact .inr (.inr h)),⟨f4.os,f4.tape,f4.output,f4.size,fun g hg=>.inl (f4.imm g hg),fun g hg hA hG=>?_,f4.outA,f4.loc⟩⟩,hmono,fun B n hn=>?_⟩
 ·have hx1:=f1 x (by simp at hx ⊢;rcases hx with h|h;exact .inl h;exact .inr (.inr h));exact⟨hx1.holds.ofG (fun _ _=>rfl) fun d u hr=>hmono _ _ _ hr,fun g hg=>⟨(hx1.free g hg).1,fun hi=>hi.elim (hx1.free g hg).2.1 fun hb=>hap x hx g hb hg,(hx1.free g hg).2.2⟩⟩
 ·obtain⟨k1,k2,k3⟩:=f4.old g hg hA hG;refine⟨k1,fun h=>h.elim k2 fun hb=>?_,k3⟩;rcases f3 (.row h0 e z l) dH g hb with h|h
  ·exact absurd h hG
  omega
 subst hn;exact hrow.holds.2.frz (I':=fun g=>I g\/h0.B=some g) (fun g hg=>.inr hg) (fun g hg=>.inl hg) (A:=B) hrow.holds.1
theorem dB.settleS {w:World} {I:Nat->Prop} {A:dD} {a:Act} {s1 s2:List Rg} {h0:Hd} {e:TypeId} {z:Nat} {l:List (List DV)} (hs:dB nt w I A ρ a) (hf:pB w0 I0 A0 G0 (s1++ .row h0 e z l::s2) w I A) {d:Nat} (hd:d<nt) (hρ:ρ d=h0.sl l.length) {d':DV} (hw:eK (Sg.frz z l) d') (hpl:lG d'=true):
  ∃I':Nat->Prop,dB nt w I' A (set ρ d d') a/\pB w0 I0 A0 G0 (s1++s2) w I' A:=by
 have hval:a.tmps.getD d undef=.slice h0.b l.length h0.c:=by
  have:=hs.slot d hd;rw[hρ] at this;generalize a.tmps.getD d undef=x at this ⊢;have this:bP w I A (.v (.slice h0.b l.length h0.c)) x:=this;cases this;rfl
 obtain⟨I',h1,h2,h3,h4⟩:=hs.settleG hf;refine⟨I',⟨⟨fun t=>?_,h1.osim.inj,h1.osim.sep,h1.osim.imm⟩,h1.size,h1.bound,fun i hi=>?_,fun t ht=>?_⟩,h2⟩
 ·rw[aK];split
  ·exact .ofPure (by cases d'<;>first|rfl|cases hpl)
  exact h1.osim.own t
 ·rw[aK];split
  ·rename_i e1;subst e1;rw[hval];exact .ofRel (hw _ _ _ _ (h4 A _ rfl))
  exact h1.slot i hi
 rw[aK,if_neg (by have:=hs.bound;omega)];exact h1.out t ht
theorem dB.settleB {w:World} {I:Nat->Prop} {A:dD} {a:Act} {s1 s2:List Rg} {h0:Hd} {e:TypeId} {z:Nat} {l:List (List DV)} (hs:dB nt w I A ρ a) (hf:pB w0 I0 A0 G0 (s1++ .row h0 e z l::s2) w I A) {t j:Nat} {cs:List DV} (hρ:ρ t=.bx cs) (hj:cs[j]?=some (h0.sl l.length)) {d':DV} (hw:eK (Sg.frz z l) d') (hpl:fL (fun _=>false) d'=true):
  ∃I':Nat->Prop,dB nt w I' A (set ρ t (.bx (cs.set j d'))) a/\pB w0 I0 A0 G0 (s1++s2) w I' A:=by
 obtain⟨I',h1,h2,h3,h4⟩:=hs.settleG hf;refine⟨I',⟨⟨fun s=>?_,h1.osim.inj,h1.osim.sep,h1.osim.imm⟩,h1.size,h1.bound,fun i hi=>?_,fun s hs'=>?_⟩,h2⟩
 ·rw[aK];split
  ·rename_i e1;subst e1;have:=h1.osim.own s;rw[hρ] at this;obtain⟨g,c,us,et,q1,q2,q3,q4,q5⟩:=this;refine⟨g,c,us,et,q1,q2,by rw[aDh];exact q3,q4,fun i d u hd hu=>?_⟩;rw[List.getElem?_set] at hd;split at hd
   ·rename_i hij;subst hij;split at hd
    ·cases hd;have:=q5 j _ u hj hu;have hu2:u=.slice h0.b l.length h0.c:=by cases this;rfl
     rw[hu2];exact hw _ _ _ _ (h4 A _ rfl)
    cases hd
   exact q5 i d u hd hu
  exact h1.osim.own s
 ·rw[aK];split
  ·rename_i e1;subst e1;have:=h1.slot i hi;rw[hρ] at this;exact this
  exact h1.slot i hi
 rw[aK];split
 ·rename_i e1;subst e1;have:=h1.out s hs';rw[hρ] at this;have this:d6 (fun t=>decide (100000<=t)) cs=true:=this;show d6 (fun t=>decide (100000<=t)) (cs.set j d')=true;rw[pD] at this ⊢;intro x hx;rcases List.mem_or_eq_of_mem_set hx with h|h
  ·exact this x h
  subst h;exact aPt (fun _ h=>by cases h) _ hpl
 exact h1.out s hs'
theorem aYt {c:Code} {Q:Exit->List Rg->aN->Prop} {rs s1 s2:List Rg} {h0:Hd} {e:TypeId} {z:Nat} {l:List (List DV)} (d:Nat) (hd:d<nt) (hρ:ρ d=h0.sl l.length) (hr:rs=s1++ .row h0 e z l::s2) {d':DV} (hw:eK (Sg.frz z l) d') (hpl:lG d'=true)
  (h:pL P nt (pB w0 I0 A0 G0) c Q (s1++s2) (set ρ d d')):pL P nt (pB w0 I0 A0 G0) c Q rs ρ:=fun ro ds I A a w hs hdf hf=>by
 subst hr;obtain⟨I',h1,h2⟩:=hs.settleS hf hd hρ hw hpl;exact h ro ds I' A a w h1 hdf h2
theorem gL {c:Code} {Q:Exit->List Rg->aN->Prop} {rs s1 s2:List Rg} {h0:Hd} {e:TypeId} {z:Nat} {l:List (List DV)} (t j:Nat) {cs:List DV} (hρ:ρ t=.bx cs) (hj:cs[j]?=some (h0.sl l.length)) (hr:rs=s1++ .row h0 e z l::s2) {d':DV} (hw:eK (Sg.frz z l) d') (hpl:fL (fun _=>false) d'=true)
  (h:pL P nt (pB w0 I0 A0 G0) c Q (s1++s2) (set ρ t (.bx (cs.set j d')))):pL P nt (pB w0 I0 A0 G0) c Q rs ρ:=fun ro ds I A a w hs hdf hf=>by
 subst hr;obtain⟨I',h1,h2⟩:=hs.settleB hf hρ hj hw hpl;exact h ro ds I' A a w h1 hdf h2
def GOf (rs:List Rg) (g:Nat):Prop:= ∃r∈rs,r.B=some g
def aNj (P:Program) (O:aN) (f:FuncId) (args:List DV) (rs:List Rg) (R:List Rg->aN->DV->Prop):Prop:=
 ∀(w:World) (I:Nat->Prop) (A:dD) (vals:Array Value),jI w I A O->(∀r∈rs,zD w I A r)->sB rs->vals.size=args.length->(∀(j:Nat) (d:DV) (u:Value),args[j]?=some d->vals[j]?=some u->bP w I A d u)->
  Calls P f vals w fun e w'=> ∃v I' O' rs' r,e=.returned v/\jI w' I' A O'/\(∀s,fR (O s) (O' s))/\(∀s,cX (O s)->cX (O' s))/\pB w I A (GOf rs) rs' w' I' A/\cK r=false/\bP w' I' A r v/\R rs' O' r
def aQm (P:Program) (fn:Func) (O:aN) (R:List Rg->aN->DV->Prop):Exit->List Rg->aN->Prop
 | .ret,rs,ρ| .normal,rs,ρ=> ∃O' r,(∀s,ρ (s+100000)=sh (O' s))/\(∀s,fR (O s) (O' s))/\(∀s,cX (O s)->cX (O' s))/\qI P ρ fn.results.toList r/\cK r=false/\R rs O' r
 |_,_,_=>False
theorem bXr {nt:Nat} {w:World} {I:Nat->Prop} {A A':dD} {ρ:aN} {a:Act} {fn:Func} {r:DV} (hs:dB nt w I A' ρ a) (hA: ∀s,100000<=s->A' s=cG A s)
  (hn:fn.results.toList.all (fun v=>match v with| .tmp t=>decide (t<nt)| .cell t _=>decide (t<nt))=true) (h:qI P ρ fn.results.toList r) (ho:cK r=false):
  ∃v,(results fn a.tmps).run P w=.ok v w/\bP w I A r v:=by
 have hback: ∀{d:DV} {x:Value},bP w I A' (sh d) x->bP w I A d x:=fun h=>h.back hA;have hlt: ∀v∈fn.results.toList,(match v with| .tmp t=>t<nt| .cell t _=>t<nt):=fun v hv=>by
  have:=dI.1 hn v hv;cases v<;>simpa using this
 generalize hl:fn.results.toList=rs at*;have hres:fn.results=rs.toArray:=by apply aJm;rw[hl]
 unfold qI at h;split at h
 ·rename_i t;have ht:t<nt:=hlt (.tmp t) dH;have hsl:=hs.slot t ht;refine⟨_,results_tmp hres _ P w,?_⟩;cases h with
  |pure r hp hw hr=>exact hback (hw w I A' _ (hsl.rel hp))
  |_=>cases ho
 ·rename_i b t;obtain⟨h1,h2⟩:=h;obtain⟨x,k1,k2⟩:=aKm hs hA (v:=.cell b t) (hlt (.cell b t) dH) h2;refine⟨x,?_,k2⟩
  have:=z6 (P:=P) (w:=w) (aSk a.tmps) [.cell b t] [x] rfl
   (fun j y u hy hu=>by
    cases j with
    |zero=>simp at hy hu;subst hy;subst hu;exact k1
    |succ j=>simp at hy)
  rw[xM,hres,aWg,Sem.run_bind,Sem.run_map,this];rfl
 rename_i h1 h2;obtain⟨rl,rfl,hlen,hall⟩:=h
 have: ∃vs:List Value,vs.length=rs.length/\(∀(j:Nat) (y:ResultVar) (u:Value),rs[j]?=some y->vs[j]?=some u->
   (aSk a.tmps y).run P w=.ok u w)/\ ∀(j:Nat) (d:DV) (u:Value),rl[j]?=some d->vs[j]?=some u->bP w I A d u:=by
  clear hres hl hn h1 h2 ho
  induction rs generalizing rl with
  |nil=>
   obtain rfl:rl=[]:=nN hlen;exact⟨[],rfl,by simp,by simp⟩
  |cons y rs ih=>
   cases rl with
   |nil=>simp at hlen
   |cons d rl=>
    obtain⟨x,k1,k2⟩:=aKm hs hA (v:=y) (hlt y dH) (hall 0 y d dH dH);obtain⟨vs,j1,j2,j3⟩:=ih (fun v hv=>hlt v (by simp[hv])) rl (by simpa using hlen) fun j v d' hv hd=>hall (j+1) v d' (by simpa using hv) (by simpa using hd);refine⟨x::vs,by simp[j1],fun j y' u hy hu=>?_,fun j d' u hd hu=>?_⟩
    ·cases j with
     |zero=>simp at hy hu;subst hy;subst hu;exact k1
     |succ j=>exact j2 j y' u (by simpa using hy) (by simpa using hu)
    cases j with
    |zero=>simp at hd hu;subst hd;subst hu;exact k2
    |succ j=>exact j3 j d' u (by simpa using hd) (by simpa using hu)
 obtain⟨vs,j1,j2,j3⟩:=this;have hrun:=z6 (P:=P) (w:=w) (aSk a.tmps) rs vs j1.symm j2;have hne:vs.length≠1:=fun e=>by
  rw[j1] at e
  match rs,e with
  | [.tmp t],_=>exact h1 t rfl
  | [.cell b t],_=>exact h2 b t rfl
 refine⟨.tuple vs.toArray,?_,?_⟩
 ·rw[xM,hres,aWg,Sem.run_bind,Sem.run_map,hrun];simp[hne]
 exact bP.tup A rl _ (by simp[hlen,j1]) fun j d u hd hu=>j3 j d u hd (by simpa using hu)
theorem zD.into {w:World} {I:Nat->Prop} {A:dD} {r:Rg} (h:zD w I A r):zD w I (cG A) r:=⟨h.holds,fun g hg=>⟨(h.free g hg).1,(h.free g hg).2.1,fun s c hs=>by
 unfold cG at hs;split at hs
 ·cases hs
 exact (h.free g hg).2.2 _ c hs⟩⟩
theorem sU {f:FuncId} {fn:Func} {c:Code} {O:aN} {args:List DV} {rs:List Rg} {R:List Rg->aN->DV->Prop} (hf:P.funcs[f]?=some fn) (hb:fn.body=some c)
  (hn:(decide (args.length<=fn.ntmps)&&decide (fn.ntmps<=100000)&&fn.results.toList.all (fun v=>match v with| .tmp t=>decide (t<fn.ntmps)| .cell t _=>decide (t<fn.ntmps)))=true)
  (h: ∀w0 I0 A0,pL P fn.ntmps (pB w0 I0 (cG A0) (GOf rs)) c (aQm P fn O R) rs (nF O args)):aNj P O f args rs R:=by
 intro w I A vals hO hrow hap hl hv;simp only[cD,dR] at hn;obtain⟨⟨hn1,hn2⟩,hn3⟩:=hn;refine calls_of_wp hf hb (wp_mono (wpIn_wide.1 (Go.Rv.w8▸h w I A none [] I (cG A) _ w (dB.enter hO hl hn1 hn2 hv) rfl ⟨fun r hr=>(hrow r hr).into,hap,fun r hr g hg=>.inl ⟨r,hr,hg⟩,XG.refl _ _ _ _⟩)) ?_);intro e a' w' ⟨I',A',ρ',rs',k1,k2,k3,k4⟩
 have fin:(∃O' r,(∀s,ρ' (s+100000)=sh (O' s))/\(∀s,fR (O s) (O' s))/\(∀s,cX (O s)->cX (O' s))/\qI P ρ' fn.results.toList r/\cK r=false/\R rs' O' r)->
   ∃v,(results fn a'.tmps).run P w'=.ok v w'/\ ∃v' I' O' rs' r,Ending.returned v=.returned v'/\jI w' I' A O'/\(∀s,fR (O s) (O' s))/\(∀s,cX (O s)->cX (O' s))/\pB w I A (GOf rs) rs' w' I' A/\cK r=false/\bP w' I' A r v'/\R rs' O' r:=by
  rintro⟨O',r,q1,q2,q3,q4,q5,q6⟩;obtain⟨f1,f2,f3,f4⟩:=k3;obtain⟨v,r1,r2⟩:=bXr k1 f4.outA hn3 q4 q5;have hA': ∀s,A' (s+100000)=A s:=fun s=>by rw[f4.outA _ aV,d7]
  have hfun:(fun s=>A' (s+100000))=A:=funext hA';refine⟨v,r1,v,I',O',rs',r,rfl,⟨fun s=>?_,hO.inj,fun s g c hA=>?_,k1.osim.imm⟩,q2,q3,⟨fun r hr=>⟨(f1 r hr).holds,fun g hg=>⟨((f1 r hr).free g hg).1,((f1 r hr).free g hg).2.1,fun s c hA=>((f1 r hr).free g hg).2.2 (s+100000) c ((hA' s).trans hA)⟩⟩,f2,f3,
   ⟨f4.os,f4.tape,f4.output,f4.size,f4.imm,fun g hg hA hG=>?_,fun _ _=>rfl,fun s g c hA _ hs=>.inr ⟨s,c,hs,hA⟩⟩⟩,q5,r2,q6⟩
  ·have:=k1.osim.own (s+100000);rw[q1] at this;have:=this.outof (s:=s) rfl
   rwa [hfun] at this
  ·exact k1.osim.sep (s+100000) g c ((hA' s).trans hA)
  obtain⟨e1,e2,e3⟩:=f4.old g hg (fun s c hs=>by
   unfold cG at hs;split at hs
   ·cases hs
   exact hA _ _ hs) hG
  exact⟨e1,e2,hA⟩
 cases e with
 |normal=>exact⟨k2,fin k4⟩
 |ret=>exact⟨k2,fin k4⟩
 |_=>exact k4.elim
theorem XG.toExt {w0 w:World} {I0 I:Nat->Prop} {A0 A:dD} (h:XG w0 I0 A0 (GOf []) w I A):f8 w0 I0 A0 w I A:=
 have hno: ∀g,¬GOf [] g:=fun g ⟨_,h,_⟩=>by cases h
 ⟨h.os,h.tape,h.output,h.size,h.imm,fun g hg hA=>h.old g hg hA (hno g),fun s g c hA hg hs=>(h.loc s g c hA hg hs).resolve_left (hno g),h.outA⟩
theorem iT {f:FuncId} {fn:Func} {c:Code} {O:aN} {args:List DV} {R:aN->DV->Prop} (hf:P.funcs[f]?=some fn) (hb:fn.body=some c)
  (hn:(decide (args.length<=fn.ntmps)&&decide (fn.ntmps<=100000)&&fn.results.toList.all (fun v=>match v with| .tmp t=>decide (t<fn.ntmps)| .cell t _=>decide (t<fn.ntmps)))=true)
  (h: ∀w0 I0 A0,pL P fn.ntmps (pB w0 I0 (cG A0) (GOf [])) c (fun e _ ρ=>rZ P fn O R e ρ) [] (nF O args)):iC P O f args R:=
 aEo hf hb hn fun w I A a hs hd=>wpIn_mono (h w I A none [] I (cG A) a w hs hd ⟨fun r hr=>(by cases hr),List.Pairwise.nil,fun r hr=>(by cases hr),XG.refl _ _ _ _⟩) fun e a' w' ⟨I',A',ρ',s',h1,h2,h3,h4⟩=>⟨I',A',ρ',h1,h2,h3.2.2.2.toExt,h4⟩
theorem sZ {ops:Array Oper} {o:Oper} {K:List Rg->aN->Prop} {fv:Operand} {args:Array Operand} {ts:Array TypeId} {d:Nat} (hop:o.op=.call ⟨.value fv,args,ts⟩) (hg:o.guard=none) (hdst:o.dst=some d) (hd:d<nt)
  (ho:eJ nt o=true) (hgf:gd (ev ρ fv)) (hga: ∀x∈args.toList,gd (ev ρ x)) {f:FuncId} {l:List DV} (hc:callee (un (ev ρ fv)) (args.toList.map fun x=>un (ev ρ x))=some (f,l)) (hb:aM P f=true)
  {cur rs s2:List Rg} (hp:cur.Perm (rs++s2)) {R:List Rg->aN->DV->Prop} (hm:aNj P ρ f l rs R) (hK: ∀rs' O' r,R rs' O' r->K (rs'++s2) (set O' d r)):lW P nt (pB w0 I0 A0 G0) ops o K cur ρ:=by
 intro ro ds I A a w hs hdf hf next Q' hn
 replace hf:=hf.swap hp;obtain⟨vals,h1,h2,h3⟩:=nI hs hop ho hgf hga hc hb;rw[if_pos (by simp[Region.wanted,hg])];refine tG h1 ?_;obtain⟨f1,f2,f3,f4⟩:=hf;have f2':=f2;unfold sB at f2';rw[oI] at f2';refine (hm w I A vals hs.osim (fun r hr=>f1 r (by simp[hr])) f2'.1 h2 h3).mono ?_;rintro e w' ⟨v,I',O',rs',r,rfl,k1,k2,k3,⟨g1,g2,g3,g4⟩,ko,kr,k6⟩;have hset: ∀g,I g->I' g/\w'.heap[g]?=w.heap[g]?:=fun g hg=>⟨g4.imm g hg,(g4.old g (hs.osim.imm g hg) (fun s c hc=>(hs.osim.sep s g c hc).2 hg) fun ⟨r,hr,hB⟩=>((f1 r (by simp[hr])).free g hB).2.1 hg).1⟩;have hrel: ∀B d x,bP w I B d x->bP w' I' B d x:=fun B d x hr=>hr.mono fun g hg=>⟨(hset g hg).1,fun o=>eD (hset g hg).2 o⟩;have hs':dB nt w' I' A O' a:=hs.calledG k1 k2 k3 (fun d x=>hrel A d x);have hs2:=hs'.put (d:=d) (v:=r) (x:=v) hd (.ofRel kr) (.ofPure ko);rw[hdst];have hold: ∀x∈s2,∀g,x.B=some g->w'.heap[g]?=w.heap[g]?/\(I' g->I g)/\g<w.heap.size/\ ¬GOf rs g:=fun x hx g hg=>by
  have hx1:=(f1 x (by simp[hx])).free g hg;have hno: ¬GOf rs g:=fun ⟨r,hr,hB⟩=>f2'.2.2 r hr x hx g hB hg;have:=g4.old g hx1.1 hx1.2.2 hno;exact⟨this.1,this.2.1,hx1.1,hno⟩
 refine hn I' A _ w' _ _ hs2 (by rw[gT];exact hdf) ⟨fun x hx=>?_,?_,fun x hx g hg=>?_,⟨g4.os.trans f4.os,⟨g4.tape.1.trans f4.tape.1,eL f4.tape.2 g4.tape.2⟩,g4.output.trans f4.output,eL f4.size g4.size,fun g hg=>g4.imm g (f4.imm g hg),fun g hg hA hG=>?_,f4.outA,f4.loc⟩⟩ (hK rs' O' r k6)
 ·rcases iV.1 hx with h|h
  ·exact g1 x h
  have hx1:=f1 x (by simp[h]);exact⟨hx1.holds.ofG (fun g hg=>(hold x h g hg).1) fun d u hr=>hrel _ _ _ hr,fun g hg=>⟨eE (hx1.free g hg).1 g4.size,fun hi=>(hx1.free g hg).2.1 ((hold x h g hg).2.1 hi),(hx1.free g hg).2.2⟩⟩
 ·unfold sB;rw[oI];refine⟨g2,f2'.2.1,fun x hx y hy g hg hy'=>?_⟩;obtain⟨_,_,q3,q4⟩:=hold y hy g hy';rcases g3 x hx g hg with h|h
  ·exact q4 h
  omega
 ·rcases iV.1 hx with h|h
  ·rcases g3 x h g hg with ⟨r,hr,hB⟩|h
   ·exact f3 r (by simp[hr]) g hB
   exact .inr (eL f4.size h)
  exact f3 x (by simp[h]) g hg
 obtain⟨q1,q2,q3⟩:=f4.old g hg hA hG;obtain⟨n1,n2,_⟩:=g4.old g (eE hg f4.size) q3 fun ⟨r,hr,hB⟩=>by
  rcases f3 r (by simp[hr]) g hB with h|h
  ·exact hG h
  omega
 exact⟨n1.trans q1,fun h=>q2 (n2 h),q3⟩
end
def aMr {σ:Type} (l:Nat) (K:σ->aN->Prop) (Q:Exit->σ->aN->Prop):Exit->σ->aN->Prop
 | .goto l',s,ρ=>if l'=l then K s ρ else Q (.goto l') s ρ
 |e,s,ρ=>Q e s ρ
section
variable {P:Program}
def aIr (F:Fence) (P:Program) (c0:Code) (Q:Exit->Act->World->Prop):Nat->Code->Act->World->Prop
 |0,_,_,_=>False
 |k+1,c,a,w=>c.wpIn F 0 P (fun e a' w'=>match e with
  | .goto l=>(match findLabel c0 l with
   |some rest=>aIr F P c0 Q k rest a' w'
   |none=>Q (.goto l) a' w')
  |e=>Q e a' w') a w
theorem aYx {b:Frame} {a:Act} {k:List Item} {cs:List Frame} {w:World} {c:Code}:step P (lone (b.atR a (.code (.scope c)::k)) cs w)=.next (lone (b.atR a (.code c:: .inScope c::k)) cs w):=
 step_lone_go (by simp[stepG,stepG.exec,Frame.atR])
theorem aPk {b:Frame} {a:Act} {k:List Item} {cs:List Frame} {w:World} {c:Code}:step P (lone (b.atR a (.inScope c::k)) cs w)=.next (lone (b.atR a k) cs w):=
 step_lone_go (by simp[stepG,stepG.exec,Frame.atR])
theorem aBe {F:Fence} {c0:Code} {Q:Exit->Act->World->Prop}: ∀(m:Nat) (c:Code) (a:Act) (w:World),aIr F P c0 Q m c a w-> ∀(b:Frame) (k:List Item) (cs:List Frame),b.roundOf=F.round->F.fn b.fn->F.room (cs.length+1+0)->
  ∃e a' w',Q e a' w'/\ArrivesIn (Machine.fenced P F) P (lone (b.atR a (.code c:: .inScope c0::k)) cs w) b k cs e a' w'
 |0,_,_,_,h=>h.elim
 |m+1,c,a,w,h=>fun b k cs hro hb hr=>by
  obtain⟨e,a1,w1,hq,harr⟩:=h b (.inScope c0::k) cs hro hb hr;cases e with
  |normal=>exact⟨.normal,a1,w1,hq,StepsIn.trans harr (.one (fenced_calm hb hr rfl) aPk)⟩
  |exit id=>exact⟨.exit id,a1,w1,hq,fun k' hk=>harr.1 k' (by simp[exitTo,hk]),fun h1 h2=>harr.2 h1 (by simp[exitTo,h2])⟩
  |ret=>exact⟨.ret,a1,w1,hq,harr⟩
  |panic ch=>exact⟨.panic ch,a1,w1,hq,harr⟩
  |outgrown=>exact⟨.outgrown,a1,w1,hq,harr⟩
  |goto l=>
   cases hf:findLabel c0 l with
   |none=>
    simp only[hf] at hq;exact⟨.goto l,a1,w1,hq,fun k' hk=>harr.1 k' (by simp[gotoIn,hf,hk]),fun h1 h2=>harr.2 h1 (by simp[gotoIn,hf,h2])⟩
   |some rest=>
    simp only[hf] at hq;obtain⟨e2,a2,w2,hq2,harr2⟩:=aBe m rest a1 w1 hq b k cs hro hb hr;exact⟨e2,a2,w2,hq2,.of_steps (harr.1 _ (by simp[gotoIn,hf])) harr2⟩
theorem bDj {F:Fence} {c:Code} {Q:Exit->Act->World->Prop} {a:Act} {w:World} (m:Nat) (h:aIr F P c Q m c a w):(Code.scope c).wpIn F 0 P Q a w:=fun b k cs hro hb hr=>by
 obtain⟨e,a1,w1,hq,harr⟩:=aBe m c a w h b k cs hro hb hr;exact⟨e,a1,w1,hq,.of_steps (.one (fenced_calm hb hr rfl) aYx) harr⟩
theorem aLq {F:Fence} {c0:Code} {Q:Exit->Act->World->Prop}: ∀{m:Nat} (j:Nat) {c:Code} {a:Act} {w:World},aIr F P c0 Q m c a w->aIr F P c0 Q (m+j) c a w
 |0,_,_,_,_,h=>h.elim
 |m+1,j,c,a,w,h=>by
  rw[show m+1+j=(m+j)+1 by omega];refine wpIn_mono h fun e a' w' q=>?_;cases e with
  |goto l=>
   simp only at q ⊢;cases hf:findLabel c0 l with
   |none=>simp only[hf] at q ⊢;exact q
   |some rest=>simp only[hf] at q ⊢;exact aLq j q
  |_=>exact q
end
end Go.Sg
namespace Go.Sg
open Go.RowKit
open Go.Rv (FR)
section
variable {P:Program} {nt:Nat} {w0:World} {I0:Nat->Prop} {A0:dD} {G0:Nat->Prop} {ρ:aN}
structure cUf (K:List Rg->aN->Prop) (s1 s2:List Rg) (e:TypeId) (z:Nat) (l:List (List DV)) (d:Nat) (rs:List Rg) (ρ:aN):Prop where
 rows:rs=s1++s2
 at_:ρ d=.row e z l
 next: ∀hd:Hd,K (s1++ .row hd e z l::s2) (set (d4 d ρ) d (hd.sl l.length))
theorem nT {ops:Array Oper} {o:Oper} {K:List Rg->aN->Prop} {rs:List Rg} (s1 s2:List Rg) (e:TypeId) (z:Nat) (l:List (List DV)) (d:Nat) (hd:d<nt)
  (h:lW P nt (pB w0 I0 (cG A0) G0) ops o (cUf K s1 s2 e z l d) rs ρ):lW P nt (pB w0 I0 (cG A0) G0) ops o K rs ρ:=
 fun ro ds I A a w hs hdf hf next Q' hn=>h ro ds I A a w hs hdf hf next Q' fun I' A' a' w' ρ' s' h1 h2 h3 h4=>by
  obtain⟨e1,e2,e3⟩:=h4;subst e1;obtain⟨hh,k1,k2⟩:=h1.giveG h3 hd e2 fun g c hA=>h3.mine h1.osim (eE hd h1.bound) g c hA;exact hn I' _ a' w' _ _ k1 h2 k2 (e3 hh)
theorem bQk {σ:Type} {F:σ->World->(Nat->Prop)->dD->Prop} {Q:Exit->σ->aN->Prop} {s:σ} {i:Nat} (h:Q (.goto i) s ρ):pL P nt F (.goto i) Q s ρ:=fun ro ds I A a w hs hd hf=>wpIn_goto ⟨I,A,ρ,s,hs,hd,hf,h⟩
theorem bQj {σ:Type} {F:σ->World->(Nat->Prop)->dD->Prop} {Q:Exit->σ->aN->Prop} {s:σ} (L:List Nat) {x y:Code} (J:σ->aN->Prop) (hx: ∀K:σ->aN->Prop,(∀s' ρ',J s' (keepC L ρ')->K s' ρ')->pL P nt F x (fQ K Q) s ρ) (hy: ∀s ρ,J s ρ->pL P nt F y Q s ρ):pL P nt F (.seq x y) Q s ρ:=
 aW fun K hK=>hx K fun s' ρ' hJ=>hK s' ρ' (cC (Le.keepC L ρ') (hy _ _ hJ))
theorem bCc {F:Fence} {c0:Code} {Q:Exit->Act->World->Prop} {a:Act} {w:World} {rest:Code}: ∀{m:Nat},aIr F P c0 Q m rest a w->aIr F P c0 Q m (.seq .skip rest) a w
 |0,h=>h.elim
 |m+1,h=>wpIn_seq (wpIn_skip h)
theorem bCd {σ:Type} {F:σ->World->(Nat->Prop)->dD->Prop} {Q:Exit->σ->aN->Prop} {s:σ} (L:List Nat) {l:Nat} {rest:Code} (hf:findLabel (.seq (.label l) rest) l=some (.seq .skip rest)) (hf2: ∀l',l'≠l->findLabel (.seq (.label l) rest) l'=none)
  (J:Nat->σ->aN->Prop) (n₀:Nat) (h₀:J n₀ s (keepC L ρ))
  (round: ∀n s ρ,J n s ρ-> ∀K:σ->aN->Prop,(∀m s' ρ',m<n->J m s' (keepC L ρ')->K s' ρ')->pL P nt F rest (aMr l K Q) s ρ):pL P nt F (.scope (.seq (.label l) rest)) Q s ρ:=by
 intro ro ds I A a w hs hd hf0
 have key: ∀n s ρ,J n s ρ-> ∀I A a w,dB nt w I A ρ a->a.defers=ds->F s w I A->
   aIr (FR ro) P (.seq (.label l) rest) (fun e a' w'=> ∃I' A' ρ' s',dB nt w' I' A' ρ' a'/\a'.defers=ds/\F s' w' I' A'/\Q e s' ρ') (n+1) rest a w:=by
  intro n
  induction n using Nat.strongRecOn with
  |_ n ih=>
   intro s ρ hJ I A a w hs hd hF;refine wpIn_mono (round n s ρ hJ (fun s ρ=> ∃m,m<n/\J m s (keepC L ρ)) (fun m s' ρ' hm hj=>⟨m,hm,hj⟩) ro ds I A a w hs hd hF) ?_;intro e a1 w1 ⟨I1,A1,ρ1,s1,k1,k2,k3,k4⟩;cases e with
   |goto l'=>
    by_cases hl:l'=l
    ·subst hl;simp only[hf];have k4: ∃m,m<n/\J m s1 (keepC L ρ1):=by simpa[aMr] using k4
     obtain⟨m,hm,hj⟩:=k4;obtain⟨j,rfl⟩: ∃j,n=m+1+j:=⟨n-(m+1),by omega⟩;have:=ih m aV s1 _ hj I1 A1 a1 w1 (k1.weaken (Le.keepC L ρ1)) k2 k3;exact bCc (aLq (m:=m+1) j this)
    simp only[hf2 l' hl];have k4:Q (.goto l') s1 ρ1:=by simpa[aMr,hl] using k4
    exact⟨I1,A1,ρ1,s1,k1,k2,k3,k4⟩
   |normal=>exact⟨I1,A1,ρ1,s1,k1,k2,k3,k4⟩
   |exit i=>exact⟨I1,A1,ρ1,s1,k1,k2,k3,k4⟩
   |ret=>exact⟨I1,A1,ρ1,s1,k1,k2,k3,k4⟩
   |panic ch=>exact⟨I1,A1,ρ1,s1,k1,k2,k3,k4⟩
   |outgrown=>exact⟨I1,A1,ρ1,s1,k1,k2,k3,k4⟩
 have h1:=key n₀ s _ h₀ I A a w (hs.weaken (Le.keepC L ρ)) hd hf0;refine bDj (n₀+1) ?_;exact wpIn_seq (wpIn_label h1)
theorem nS (O:aN) (s:Nat) (X Y:DV):set (set O s X) s Y=set O s Y:=by
 funext i;rw[aK,aK,aK];split<;>rfl
theorem kD (O:aN) (s:Nat) (X:DV):bS (set O s X)=set (bS O) (s+100000) (sh X):=by
 funext i;rw[aK];by_cases h:i<100000
 ·rw[nG _ h,nG _ h,if_neg aV]
 obtain⟨j,rfl⟩: ∃j,i=j+100000:=⟨i-100000,by omega⟩;rw[cI,cI,aK];by_cases e:j=s
 ·subst e;rw[if_pos rfl,if_pos rfl]
 rw[if_neg e,if_neg aV]
theorem aRs {O:aN} {s:Nat} {cs0 cs:List DV} (hO:O s=.bx cs0) (hl:cs0.length=cs.length) (hr:kT (· +100000) cs=cs) (ho:d6 (fun t=>decide (100000<=t)) cs=true) (hh:hi ρ=set (bS O) (s+100000) (.bx cs)):
  (∀k,ρ (k+100000)=sh (set O s (.bx cs) k))/\(∀k,fR (O k) (set O s (.bx cs) k))/\(∀k,cX (O k)->cX (set O s (.bx cs) k)):=by
 refine⟨fun k=>?_,fun k=>?_,fun k hk=>?_⟩
 ·refine iK (O:=set O s (.bx cs)) ?_ k;rw[kD,hh];exact congrArg _ (congrArg DV.bx hr.symm)
 ·rw[aK];split
  ·rename_i e;subst e;rw[hO];exact hl
  exact fR.refl _
 rw[aK];split
 ·exact ho
 exact hk
theorem bIv {fn:Func} {O:aN} {R:List Rg->aN->DV->Prop} {rs:List Rg} {cs:List DV} (a t:Nat) (hf:fn.results= #[.cell a t]) (h1:hi ρ=bS O) (h2:ρ a=.bx cs) (h3:eA P t=some (some cs.length)) (h4:sh (.agg cs)=.agg cs) (hR:R rs O (.agg cs)):aQm P fn O R .ret rs ρ:=
 ⟨O,.agg cs,iK h1,fun _=>fR.refl _,fun _ h=>h,by rw[hf];exact⟨rfl,cs,h2,.inl ⟨h3,by rw[h4];exact eK.refl _⟩⟩,rfl,hR⟩
theorem aZs {fn:Func} {O:aN} {R:List Rg->aN->DV->Prop} {rs:List Rg} {s:Nat} {cs0 cs ds:List DV} (a t:Nat) (hf:fn.results= #[.cell a t]) (hO:O s=.bx cs0) (hl:cs0.length=cs.length) (hr:kT (· +100000) cs=cs) (ho:d6 (fun t=>decide (100000<=t)) cs=true) (hh:hi ρ=set (bS O) (s+100000) (.bx cs))
  (h2:ρ a=.bx ds) (h3:eA P t=some (some ds.length)) (h4:sh (.agg ds)=.agg ds) (hR:R rs (set O s (.bx cs)) (.agg ds)):aQm P fn O R .ret rs ρ:=by
 obtain⟨k1,k2,k3⟩:=aRs hO hl hr ho hh;exact⟨_,.agg ds,k1,k2,k3,by rw[hf];exact⟨rfl,ds,h2,.inl ⟨h3,by rw[h4];exact eK.refl _⟩⟩,rfl,hR⟩
theorem aNg {fn:Func} {O:aN} {R:List Rg->aN->DV->Prop} {rs:List Rg} {s:Nat} {cs0 cs:List DV} {e:Exit} (he:e=.ret\/e=.normal) (hf:fn.results= #[]) (hO:O s=.bx cs0) (hl:cs0.length=cs.length) (hr:kT (· +100000) cs=cs) (ho:d6 (fun t=>decide (100000<=t)) cs=true) (hh:hi ρ=set (bS O) (s+100000) (.bx cs))
  (hR:R rs (set O s (.bx cs)) (.tup [])):aQm P fn O R e rs ρ:=by
 obtain⟨k1,k2,k3⟩:=aRs hO hl hr ho hh;have key: ∃O' r,(∀s,ρ (s+100000)=sh (O' s))/\(∀s,fR (O s) (O' s))/\(∀s,cX (O s)->cX (O' s))/\qI P ρ fn.results.toList r/\cK r=false/\R rs O' r:=
  ⟨_,.tup [],k1,k2,k3,by rw[hf];exact⟨[],rfl,rfl,fun j v d h=>by simp at h⟩,rfl,hR⟩
 rcases he with rfl|rfl<;>exact key
end
end Go.Sg
namespace Go.Sg
open Go.RowKit
open Go.Rv (FR)
def upB (b:Nat->Bool) (i:Nat):Nat->Bool:=fun j=>if j=i then true else b j
theorem bLd (b:Nat->Bool) (i j:Nat):upB b i j=if j=i then true else b j:=rfl
def b0 (n:Nat):Nat->Bool:=fun i=> !decide (i<n)
theorem bTw (n i:Nat):b0 n i= !decide (i<n):=rfl
def tE (b:Nat->Bool):List Nat->Prop
 | []=>True
 |j::r=>b j=true/\tE b r
def tI (b:Nat->Bool):List Nat->Prop
 | []=>True
 |j::r=>b j=false/\tI b r
theorem bFj {b:Nat->Bool}: ∀{r:List Nat},(∀j∈r,b j=true)->tE b r
 | [],_=>trivial
 |j::r,h=>⟨h j dH,bFj fun x hx=>h x (by simp[hx])⟩
theorem bHh {b:Nat->Bool}: ∀{r:List Nat},(∀j∈r,b j=false)->tI b r
 | [],_=>trivial
 |j::r,h=>⟨h j dH,bHh fun x hx=>h x (by simp[hx])⟩
def stM (b:Nat->Bool) (i:Nat) (D U:List (List Nat)):Prop:=b i=false/\tE b (D.getD i [])/\tI b (U.getD i [])
def aXt (l:List Oper) (D:List (List Nat)):Bool:=(List.range l.length).all fun i=>match l[i]? with
 |some o=>(D.getD i []).all fun j=>o.after.toList.any fun e=>Region.binds .any e&&(e.on==j||(D.getD e.on []).contains j)
 |none=>true
def aWo (n:Nat) (D U:List (List Nat)):Bool:=(List.range n).all fun i=>(U.getD i []).all fun x=>decide (x<n)&&(D.getD x []).contains i
def bNb (n:Nat) (D:List (List Nat)) (ls:Array Bool):Prop:= ∀x,x<n->ls.getD x true=true-> ∀j∈D.getD x [],ls.getD j true=true
theorem aTf {ls:Array Bool} {i:Nat} (hi:i<ls.size) (j:Nat):(ls.setIfInBounds i true).getD j true=if j=i then true else ls.getD j true:=by
 simp only[oB,aBx];by_cases h:i=j
 ·subst h;simp[hi]
 rw[if_neg h,if_neg (fun e=>h e.symm)]
theorem bFs {ls:Array Bool} {j:Nat} (h:ls.getD j false=true):ls.getD j true=true:=by
 simp only[oB] at*;cases hx:ls[j]? with
 |none=>rfl
 |some y=>rw[hx] at h;exact h
def aCv (ls:Array Bool) (n:Nat):Nat:=((List.range n).filter fun i=> !ls.getD i true).length
theorem bRw {ls:Array Bool} {n:Nat} (h:aCv ls n=0) {i:Nat} (hi:i<n):ls.getD i true=true:=by
 unfold aCv at h;have:=nN h;rw[List.filter_eq_nil_iff] at this;simpa using this i (by simpa using hi)
theorem bOm {ls:Array Bool} {n i:Nat} (hs:ls.size=n) (hi:i<n) (hf:ls.getD i true=false):aCv ls n=aCv (ls.setIfInBounds i true) n+1:=by
 unfold aCv;have key: ∀m,m<=n->((List.range m).filter fun j=> !ls.getD j true).length=((List.range m).filter fun j=> !(ls.setIfInBounds i true).getD j true).length+(if i<m then 1 else 0):=by
  intro m
  induction m with
  |zero=>intro _;simp
  |succ m ih=>
   intro hm;rw[xS,yN,yN,fP,fP,ih aV];have hg:=aTf (ls:=ls) (i:=i) aV m;by_cases he:m=i
   ·subst he;rw[if_pos rfl] at hg;have a1:([m].filter fun j=> !ls.getD j true)=[m]:=by simp only[zW,List.filter_nil,hf];rfl
    have a2:([m].filter fun j=> !(ls.setIfInBounds m true).getD j true)=[]:=by simp only[zW,List.filter_nil,hg];rfl
    rw[a1,a2];simp
   rw[if_neg he] at hg;have a1:([m].filter fun j=> !(ls.setIfInBounds i true).getD j true)=([m].filter fun j=> !ls.getD j true):=by simp only[zW,List.filter_nil,hg]
   rw[a1];have a2:(if i<m+1 then 1 else 0:Nat)=if i<m then 1 else 0:=by
    by_cases h1:i<m
    ·rw[if_pos h1,if_pos (Nat.lt_succ_of_lt h1)]
    rw[if_neg h1,if_neg aV]
   omega
 have:=key n (bW _);rw[if_pos hi] at this;exact this
theorem bUl (n:Nat):aCv (Array.replicate n false) n=n:=by
 unfold aCv;rw[List.filter_eq_self.2]
 ·simp
 intro i hi;have:i<n:=by simpa using hi
 simp[oB,bOr,this]
theorem bOp {l:List Oper} {D:List (List Nat)} {ls:Array Bool} (hd:aXt l D=true) (hs:ls.size=l.length) (h:bNb l.length D ls) {i:Nat} {o:Oper} (ho:l[i]?=some o) (hdep: ∀e∈o.after,Region.binds .any e=true->ls.getD e.on false=true):
  (∀j∈D.getD i [],ls.getD j true=true)/\bNb l.length D (ls.setIfInBounds i true):=by
 have hi:i<l.length:=(oJ.1 ho).1;have h1: ∀j∈D.getD i [],ls.getD j true=true:=fun j hj=>by
  unfold aXt at hd;have h2:=dI.1 hd i (by simpa using hi);rw[ho] at h2;have h3:=dI.1 h2 j hj;rw[List.any_eq_true] at h3;obtain⟨e,he,h4⟩:=h3;rw[cD,pQ] at h4;have h5:=hdep e (by simpa using he) h4.1;rcases h4.2 with h6|h6
  ·rw[<- show e.on=j by simpa using h6];exact bFs h5
  have hlt:e.on<l.length:=by
   rw[<- hs];rcases b9 e.on ls.size with h|h
   ·exact h
   simp[oB,aJt h] at h5
  exact h e.on hlt (bFs h5) j (by simpa using h6)
 refine⟨h1,fun x hx hxt j hj=>?_⟩;rw[aTf aV] at hxt ⊢;split
 ·rfl
 split at hxt
 ·rename_i hxi;subst hxi;exact h1 j hj
 exact h x hx hxt j hj
theorem bLt {l:List Oper} {D U:List (List Nat)} {ls:Array Bool} (hu:aWo l.length D U=true) (h:bNb l.length D ls) {i:Nat} (hi:i<l.length) (hf:ls.getD i true=false) (hd: ∀j∈D.getD i [],ls.getD j true=true):stM (fun i=>ls.getD i true) i D U:=by
 refine⟨hf,bFj hd,bHh fun x hx=>?_⟩;unfold aWo at hu;have h2:=dI.1 (dI.1 hu i (by simpa using hi)) x hx;rw[cD,dR] at h2;show ls.getD x true=false;cases hq:ls.getD x true with
 |false=>rfl
 |true=>have:=h x h2.1 hq i (by simpa using h2.2);rw[this] at hf;cases hf
theorem bUu {ls:Array Bool} {i:Nat} (hi:i<ls.size):(fun j=>(ls.setIfInBounds i true).getD j true)=upB (fun j=>ls.getD j true) i:=funext fun j=>by rw[aTf hi];rfl
theorem aGe (n:Nat):(fun j=>(Array.replicate n false).getD j true)=b0 n:=funext fun j=>by
 simp only[oB,bOr,b0];by_cases h:j<n<;>simp[h]
theorem bEw {ls:Array Bool} {n:Nat} (hs:ls.size=n) (h:aCv ls n=0):(fun j=>ls.getD j true)=fun _=>true:=funext fun j=>by
 rcases b9 j n with h1|h1
 ·exact bRw h h1
 simp[oB,aJt (show ls.size<=j by omega)]
theorem aEp: ∀(L:List Nat) (ρ:aN) (i:Nat),keepC L ρ i=if i∈L then ρ i else hi ρ i
 | [],ρ,i=>by rw[aFw,if_neg dH]
 |l::L,ρ,i=>by
  rw[xG,aK];by_cases h:i=l
  ·subst h;rw[if_pos rfl,if_pos dH]
  rw[if_neg h,aEp L ρ i];by_cases h2:i∈L
  ·rw[if_pos h2,if_pos (by simp[h2])]
  rw[if_neg h2,if_neg (by simp[h,h2])]
theorem aIi (L:List Nat) (ρ:aN):keepC L (keepC L ρ)=keepC L ρ:=by
 funext i;rw[aEp L (keepC L ρ) i];split
 ·rfl
 rename_i h;rw[aEp L ρ i,if_neg h];unfold hi;split
 ·rfl
 rw[aEp L ρ i,if_neg h];unfold hi;rename_i h2;rw[if_neg h2]
section
variable {P:Program} {nt:Nat} {ρ:aN}
theorem aPu {l:List Oper} {ls:Array Bool} (hs:ls.size=l.length) (h:aCv ls l.length=0):(Region.ready .any l.toArray ls).isEmpty=true:=by
 rw[List.isEmpty_iff];refine List.eq_nil_iff_forall_not_mem.2 fun i hi=>?_;obtain⟨hun,o,ho,_⟩:=mem_ready.1 hi;have hi2:i<l.length:=(oJ.1 (by simpa using ho:l[i]?=some o)).1;rw[bRw h hi2] at hun;cases hun
theorem aLe {σ γ:Type} {F:σ->World->(Nat->Prop)->dD->Prop} {Q:Exit->σ->aN->Prop} {s:σ} (L:List Nat) (D U:List (List Nat)) (E:γ->(Nat->Bool)->aN) (S:γ->(Nat->Bool)->σ) (g0:γ) {id:Nat} {l:List Oper} (hF:StF F) (hm:P.follows .mixedOrders=true) (hc:(zR l&&(aXt l D&&aWo l.length D U))=true)
  (h0:s=S g0 (b0 l.length)) (h1:keepC L ρ=E g0 (b0 l.length))
  (hstep: ∀(i:Nat) (o:Oper),l[i]?=some o-> ∀(g:γ) (b:Nat->Bool),stM b i D U-> ∀K:σ->aN->Prop,(∀g' s' ρ',s'=S g' (upB b i)->keepC L ρ'=E g' (upB b i)->K s' ρ')->lW P nt F l.toArray o K (S g b) (E g b))
  (hend: ∀g,Q .normal (S g fun _=>true) (E g fun _=>true)):pL P nt F (.region id l.toArray true) Q s ρ:=by
 simp only[cD] at hc;obtain⟨c1,c2,c3⟩:=hc;refine bHx L hF hm fun Y hYm hY0=>?_;have main: ∀(m:Nat) (ls:Array Bool) (g:γ) (ρ:aN),ls.size=l.length->aCv ls l.length=m->bNb l.length D ls->keepC L ρ=E g (fun j=>ls.getD j true)->Y m ls (S g fun j=>ls.getD j true) ρ:=by
  intro m
  induction m with
  |zero=>
   intro ls g ρ hs hc hI hρ;refine hY0 _ L _ _ (aPu hs hc) ?_;rw[hρ,bEw hs hc];exact hend g
  |succ m ih=>
   intro ls g ρ hs hc hI hρ;refine hYm m _ L _ _ c1 hs ?_ fun i o hun ho hdep=>?_
   ·refine aIp fun hn=>?_;have:aCv ls l.length=0:=by
     unfold aCv;rw[aIq,List.filter_eq_nil_iff];intro i hi;cases hq:ls.getD i true with
     |true=>simp
     |false=>exact absurd ⟨i,by simpa using hi,hq⟩ hn
    omega
   have hi:i<l.length:=(oJ.1 ho).1;obtain⟨k1,k2⟩:=bOp c2 hs hI ho hdep;rw[hρ];refine hstep i o ho g _ (bLt c3 hI hi hun k1) _ fun g' s' ρ' hs' hρ'=>?_;rw[<- bUu aV] at hs' hρ';subst hs';refine ih _ g' ρ' (by simpa using hs) ?_ k2 hρ';have:=bOm hs hi hun;omega
 have:=main l.length (Array.replicate l.length false) g0 (keepC L ρ) dH (bUl _) (fun x hx hxt=>by
  simp[oB,bOr,hx] at hxt) (by rw[aIi,h1,aGe])
 rw[aGe,<- h0] at this;exact this
theorem aKa {Q:Exit->aN->Prop} (L fl:List Nat) (cl:List (Nat×Nat)) (D U:List (List Nat)) (E:(Nat->Bool)->aN) {id:Nat} {l:List Oper} (hm:P.follows .mixedOrders=true) (hc:(zR l&&(aXt l D&&aWo l.length D U))=true) (hr:(gM nt l&&cl.all fun p=>decide (p.1<nt)&&decide (p.2<nt)&&p.1 !=p.2)=true)
  (h1:keepC L ρ=E (b0 l.length))
  (hstep: ∀(i:Nat) (o:Oper),l[i]?=some o-> ∀b:Nat->Bool,stM b i D U-> ∀K:aN->Prop,(∀ρ',keepC L ρ'=E (upB b i)->K ρ')->opI P l o (fl.contains i) K (E b))
  (hend:clG cl (Q .normal) (E fun _=>true)):AW P nt (.region id l.toArray true) Q ρ:=by
 simp only[cD] at hc;obtain⟨c1,c2,c3⟩:=hc;refine aWe L fl cl hm hr fun Y _ hYm hY0=>?_;have main: ∀(m:Nat) (ls:Array Bool) (ρ:aN),ls.size=l.length->aCv ls l.length=m->bNb l.length D ls->keepC L ρ=E (fun j=>ls.getD j true)->Y m ls ρ:=by
  intro m
  induction m with
  |zero=>
   intro ls ρ hs hc hI hρ;refine hY0 _ L _ (aPu hs hc) ?_;rw[hρ,bEw hs hc];exact hend
  |succ m ih=>
   intro ls ρ hs hc hI hρ;refine hYm m _ L _ c1 hs ?_ fun i o hun ho hdep=>?_
   ·refine aIp fun hn=>?_;have:aCv ls l.length=0:=by
     unfold aCv;rw[aIq,List.filter_eq_nil_iff];intro i hi;cases hq:ls.getD i true with
     |true=>simp
     |false=>exact absurd ⟨i,by simpa using hi,hq⟩ hn
    omega
   have hi:i<l.length:=(oJ.1 ho).1;obtain⟨k1,k2⟩:=bOp c2 hs hI ho hdep;rw[hρ];refine hstep i o ho _ (bLt c3 hI hi hun k1) _ fun ρ' hρ'=>?_;rw[<- bUu aV] at hρ';refine ih _ ρ' (by simpa using hs) ?_ k2 hρ';have:=bOm hs hi hun;omega
 exact main l.length (Array.replicate l.length false) (keepC L ρ) dH (bUl _) (fun x hx hxt=>by
  simp[oB,bOr,hx] at hxt) (by rw[aIi,h1,aGe])
end
attribute [go_sem] bLd bTw
end Go.Sg
namespace Go.Sg
open Go.RowKit
open Go.Rv (FR)
section
variable {P:Program} {nt:Nat} {ρ O:aN}
inductive RO (P:Program) (ρ:aN):List ResultVar->List DV->Prop
 |nil:RO P ρ [] []
 |cons {v:ResultVar} {r:DV} {vs:List ResultVar} {rs:List DV} (h:aPd P ρ v r) (t:RO P ρ vs rs):RO P ρ (v::vs) (r::rs)
theorem RO.len {vs:List ResultVar} {rs:List DV} (h:RO P ρ vs rs):rs.length=vs.length:=by
 induction h with
 |nil=>rfl
 |cons h t ih=>simp[ih]
theorem RO.get {vs:List ResultVar} {rs:List DV} (h:RO P ρ vs rs): ∀(j:Nat) (v:ResultVar) (d:DV),vs[j]?=some v->rs[j]?=some d->aPd P ρ v d:=by
 induction h with
 |nil=>intro j v d h;simp at h
 |cons h t ih=>
  intro j v d hv hd;cases j with
  |zero=>simp at hv hd;subst hv;subst hd;exact h
  |succ j=>exact ih j v d (by simpa using hv) (by simpa using hd)
theorem sO {fn:Func} {a b:ResultVar} {vs:List ResultVar} {rs:List DV} (hf:fn.results.toList=a::b::vs) (h1:hi ρ=bS O) (h:RO P ρ (a::b::vs) rs):rZ P fn O (fun O' r'=>O'=O/\r'=.tup rs) .ret ρ:=
 aEe h1 (by rw[hf];cases a<;>exact⟨rs,rfl,h.len,h.get⟩)
theorem vU {t:Nat} {r:DV} (h:ρ t=r) (h1:lG r=true) (h2:sh r=r):aPd P ρ (.tmp t) r:=⟨by rw[h];exact h1,by rw[h,h2];exact eK.refl _⟩
theorem roL {α:Type} [Inhabited α] {t z:Nat} {e:α->List DV} {l l':List α} (h:ρ t=Sg.encL z e l') (hl:l'=l):aPd P ρ (.tmp t) (Sg.encL z e l):=by
 subst hl;exact vU h rfl rfl
theorem roN {α:Type} [Inhabited α] {t z:Nat} {e:α->List DV} {l:List α} (h:ρ t=.v (.slice none 0 0)) (hl:l=[]):aPd P ρ (.tmp t) (Sg.encL z e l):=by
 subst hl;exact⟨by rw[h];rfl,by rw[h];exact eK.nilL e⟩
end
section
variable {P:Program} {nt:Nat} {ρ:aN} {Q:Exit->aN->Prop} {c:Code}
theorem pN (s:Nat) {cs ds:List DV} (hlt:(decide (s<100000))=true) (h:ρ s=.bx cs) (hw:rQ cs ds) (k:AW P nt c Q (set ρ s (.bx ds))):AW P nt c Q ρ:=
 fun ro ds I A a w hs hd=>k ro ds I A a w ⟨⟨fun t=>by
   rw[aK];split
   ·rename_i e;subst e;have ho:=hs.osim.own t;rw[h] at ho;obtain⟨g,c',us,et,h1,h2,h3,h4,h5⟩:=ho;refine⟨g,c',us,et,h1,h2,by rw[<- hw.len];exact h3,h4,fun j d u hdj hu=>?_⟩;obtain⟨d',q1,q2⟩:=hw.get j d hdj;exact q2 _ _ _ _ (h5 j d' u q1 hu)
   ·exact hs.osim.own t,hs.osim.inj,hs.osim.sep,hs.osim.imm⟩,hs.size,hs.bound,fun i hi=>by
   rw[aK];split
   ·rename_i e;subst e;have:=hs.slot i hi;rw[h] at this;exact this
   ·exact hs.slot i hi,fun t ht=>by
   have:=dK hlt;rw[aK,if_neg aV];exact hs.out t ht⟩ hd
end
theorem cCb (l:List Int) (i:Nat) (x:Int):(l.map eI).set i [vi x]=(l.set i x).map eI:=by rw[List.map_set]
theorem kX {α:Type} (d:α) {l:List α} {i:Nat} (h:i<l.length):l.take (i+1)=l.take i++[l.getD i d]:=by
 rw[List.take_add_one,cA,cH h];rfl
theorem cNg {t z n:Nat} {xs:List (List DV)}:(∃e ys,DV.row t z xs=.row e z ys/\n<=ys.length)=(n<=xs.length):=by
 apply propext;constructor
 ·rintro⟨_,_,h,h2⟩;cases h;exact h2
 intro h;exact⟨_,_,rfl,h⟩
theorem cRl {k d:Nat} (h:d<100000):(k+100000 !=d)=true:=by simp;omega
theorem cNu {k d:Nat} (h:d<100000):(k+100000=d)=False:=by simp;omega
theorem eK.slW {z n:Nat} {f g:Nat->List DV} (h: ∀i,i<n->rQ (f i) (g i)):eK (.sl z n f) (.sl z n g):=fun w I A x hr=>by
 cases hr with
 |sl0 _ _ _ b c=>exact .sl0 A z g b c
 |sl _ _ _ _ b o c us hn hc hm hI hz hcell hone hrel=>
  refine .sl A z n g b o c us hn hc hm hI (fun i hi=>by rw[<- (h i hi).len];exact hz i hi) hcell hone (fun i j d hi hd=>?_);obtain⟨d',h1,h2⟩:=(h i hi).get j d hd;exact h2 _ _ _ _ (hrel i j d' hi h1)
theorem eK.aggL {cs ds:List DV} (h:rQ cs ds):eK (.agg cs) (.agg ds):=fun w I A x hr=>by
 cases hr with
 |agg _ _ vs hl hone hrel=>
  refine .agg A ds vs (by rw[<- h.len];exact hl) hone fun j d u hd hu=>?_;obtain⟨d',h1,h2⟩:=h.get j d hd;exact h2 _ _ _ _ (hrel j d' u h1 hu)
def eLI (l:List Int):List DV:=[d5 l]
theorem cKf (l:List (List Int)) (x:List Int):l.map eLI++[[.sl 1 x.length fun i=>eI (x.getD i default)]]=(l++[x]).map eLI:=by simp[eLI,encL]
attribute [go_sem] eLI cKf
attribute [go_sem] cCb cNg cRl cNu
end Go.Sg
namespace Go.Sg
structure Wr (q:Prop):Prop where
 out:q
theorem lL {p q:Prop} (k:q) (h:Wr q->p:=by intro hk;(try simp (config := { maxSteps := 2000000 }) only[go_sem,seval]);(try simp (config := { maxSteps := 2000000 }) (disch:=omega) only[go_sem,seval]);(repeat refine cP kN ?_);exact hk.out):p:=h ⟨k⟩
theorem dT {p:Prop} (h:p:=by ((try simp (config := { maxSteps := 2000000 }) only[go_sem,seval]);(try simp (config := { maxSteps := 2000000 }) (disch:=omega) only[go_sem,seval]))<;>first|rfl|omega|simp|simp_all):p:=h
theorem eqs {p:Prop} (h:p:=by ((try simp (config := { maxSteps := 2000000 }) only[go_sem,seval]);(try simp (config := { maxSteps := 2000000 }) (disch:=omega) only[go_sem,seval]))<;>first|rfl|simp):p:=h
theorem stb {p q:Prop} (k:q) (h:Wr q->p:=by intro hk;(try simp (config := { maxSteps := 2000000 }) only[go_sem,seval,hbQ]);(try simp (config := { maxSteps := 2000000 }) (disch:=omega) only[go_sem,seval,hbQ]);(repeat refine cP kN ?_);exact hk.out):p:=h ⟨k⟩
theorem eqb {p:Prop} (h:p:=by ((try simp (config := { maxSteps := 2000000 }) only[go_sem,seval,hbQ]);(try simp (config := { maxSteps := 2000000 }) (disch:=omega) only[go_sem,seval,hbQ]))<;>first|rfl|simp):p:=h
theorem sfb {p:Prop} (h:p:=by first|rfl|(((try simp (config := { maxSteps := 2000000 }) only[go_sem,seval,hbQ]);(try simp (config := { maxSteps := 2000000 }) (disch:=omega) only[go_sem,seval,hbQ]));done)|(((try simp (config := { maxSteps := 2000000 }) only[go_sem,seval,hbQ]);(try simp (config := { maxSteps := 2000000 }) (disch:=omega) only[go_sem,seval,hbQ]))<;>rfl)):p:=h
section
variable {P:Program} {nt:Nat} {ρ ρ':aN}
theorem aB {id:Nat} {l:List Oper} {y:Code} {Q:Exit->aN->Prop} (L:List Nat) (k:AW P nt y Q ρ') (hr:gM nt l=true:=by kernel_rfl) (h: ∀K:aN->Prop,K ρ'->pw P l K l ⟨⟩ (keepC L ρ):=by intro K hk;exact lL hk):AW P nt (.seq (.region id l.toArray false) y) Q ρ:=
 aA fun K hK=>cS L hr (h K (hK ρ' k))
theorem bE {id:Nat} {l:List Oper} {Q:Exit->aN->Prop} (L:List Nat) (k:Q .normal ρ') (hr:gM nt l=true:=by kernel_rfl) (h: ∀K:aN->Prop,K ρ'->pw P l K l ⟨⟩ (keepC L ρ):=by intro K hk;exact lL hk):AW P nt (.region id l.toArray false) Q ρ:=
 cS L hr (h (Q .normal) k)
end
section
variable {σ:Type} {P:Program} {nt:Nat} {F:σ->World->(Nat->Prop)->dD->Prop} {s:σ} {ρ ρ':aN}
theorem bI {id:Nat} {l:List Oper} {y:Code} {Q:Exit->σ->aN->Prop} (hF:StF F) (L:List Nat) (k:pL P nt F y Q s ρ') (hr:gM nt l=true:=by kernel_rfl) (h: ∀K:aN->Prop,K ρ'->pw P l K l ⟨⟩ (keepC L ρ):=by intro K hk;exact lL hk):pL P nt F (.seq (.region id l.toArray false) y) Q s ρ:=
 aW fun K hK=>iU hF (cS L hr (h (K s) (hK s ρ' k)))
theorem eO {id:Nat} {l:List Oper} {Q:Exit->σ->aN->Prop} (hF:StF F) (L:List Nat) (k:Q .normal s ρ') (hr:gM nt l=true:=by kernel_rfl) (h: ∀K:aN->Prop,K ρ'->pw P l K l ⟨⟩ (keepC L ρ):=by intro K hk;exact lL hk):pL P nt F (.region id l.toArray false) Q s ρ:=
 iU hF (cS L hr (h (Q .normal s) k))
end
theorem mkp {a b c q:Prop} (ho:a) (hb:b) (hK:c) (h:a->b->c->q:=by
 intro hoQ hbQ hKQ;obtain rfl:=dO hoQ;simp only[stM,tE,tI,oK,oS,pH,jC,jE] at hbQ
 first|show opI _ _ _ false _ _|show opI _ _ _ true _ _
 refine stb ?_;refine hKQ _ ?_;exact eqb):q:=h ho hb hK
theorem mkc {a b c d q:Prop} (ho:a) (hb:b) (hK:c) (hc:d) (h:a->b->c->d->q:=by
 intro hoQ hbQ hKQ hcQ;obtain rfl:=dO hoQ;simp only[stM,tE,tI,oK,oS,pH,jC,jE] at hbQ
 first|show opI _ _ _ false _ _|show opI _ _ _ true _ _
 refine stb ?_;refine lU hcQ ?_ ?_;rfl;refine stb ?_;refine hKQ _ ?_;exact eqb):q:=h ho hb hK hc
theorem qC {a b c e q:Prop} (hF:e) (ho:a) (hb:b) (hK:c) (h:e->a->b->c->q:=by
 intro hF hoQ hbQ hKQ;obtain rfl:=dO hoQ;simp only[stM,tE,tI,oK,oS,pH,jC,jE] at hbQ;show lW _ _ _ _ _ _ _ _;refine fK hF ?_;refine bV rfl bF bF ?_;refine stb ?_;refine hKQ _ _ ?_ ?_;exact sfb;exact eqb):q:=h hF ho hb hK
theorem mfc {a b c d e q:Prop} (hF:e) (ho:a) (hb:b) (hK:c) (hc:d) (h:e->a->b->c->d->q:=by
 intro hF hoQ hbQ hKQ hcQ;obtain rfl:=dO hoQ;simp only[stM,tE,tI,oK,oS,pH,jC,jE] at hbQ;show lW _ _ _ _ _ _ _ _;refine fK hF ?_;refine bV rfl bF bF ?_;refine stb ?_;refine jJ _ hcQ ?_;refine stb ?_;refine hKQ _ _ ?_ ?_;exact sfb;exact eqb):q:=h hF ho hb hK hc
section
variable {P:Program} {nt:Nat} {ρ:aN}
theorem aBi {Q:Exit->aN->Prop} (n:Nat) (Lv L fl:List Nat) (cl:List (Nat×Nat)) (D U:List (List Nat)) (E:(Nat->Bool)->aN) {id:Nat} {l:List Oper}
  (hstep: ∀(i:Nat),i<n-> ∀(o:Oper),l[i]?=some o-> ∀b:Nat->Bool,stM b i D U-> ∀K:aN->Prop,(∀ρ',keepC L ρ'=E (upB b i)->K ρ')->opI P l o (fl.contains i) K (E b))
  (hend:clG cl (Q .normal) (E fun _=>true)) (hm:P.follows .mixedOrders=true:=by exact kR) (hn:l.length=n:=by rfl) (hc:(zR l&&(aXt l D&&aWo l.length D U))=true:=by kernel_rfl)
  (hr:(gM nt l&&cl.all fun p=>decide (p.1<nt)&&decide (p.2<nt)&&p.1 !=p.2)=true:=by kernel_rfl)
  (h1:keepC L (keepC Lv ρ)=E (b0 l.length):=by exact eqs):AW P nt (.region id l.toArray true) Q ρ:=
 cM (Le.keepC Lv _) (aKa L fl cl D U E hm hc hr h1 (fun i o ho b hb K hK=>hstep i (by rw[<- hn];exact (oJ.1 ho).1) o ho b hb K hK) hend)
theorem aCa {σ γ:Type} {F:σ->World->(Nat->Prop)->dD->Prop} {Q:Exit->σ->aN->Prop} {s:σ} (n:Nat) (Lv L:List Nat) (D U:List (List Nat)) (E:γ->(Nat->Bool)->aN) (S:γ->(Nat->Bool)->σ) (g0:γ) {id:Nat} {l:List Oper} (hF:StF F)
  (hstep: ∀(i:Nat),i<n-> ∀(o:Oper),l[i]?=some o-> ∀(g:γ) (b:Nat->Bool),stM b i D U-> ∀K:σ->aN->Prop,(∀g' s' ρ',s'=S g' (upB b i)->keepC L ρ'=E g' (upB b i)->K s' ρ')->lW P nt F l.toArray o K (S g b) (E g b))
  (hend: ∀g,Q .normal (S g fun _=>true) (E g fun _=>true)) (hm:P.follows .mixedOrders=true:=by exact kR) (hn:l.length=n:=by rfl) (hc:(zR l&&(aXt l D&&aWo l.length D U))=true:=by kernel_rfl)
  (h0:s=S g0 (b0 l.length):=by first|rfl|(((try simp (config := { maxSteps := 2000000 }) only[go_sem,seval]);(try simp (config := { maxSteps := 2000000 }) (disch:=omega) only[go_sem,seval]));done)|(((try simp (config := { maxSteps := 2000000 }) only[go_sem,seval]);(try simp (config := { maxSteps := 2000000 }) (disch:=omega) only[go_sem,seval]))<;>rfl)) (h1:keepC L (keepC Lv ρ)=E g0 (b0 l.length):=by exact eqs):pL P nt F (.region id l.toArray true) Q s ρ:=
 cC (Le.keepC Lv _) (aLe L D U E S g0 hF hm hc h0 h1 (fun i o ho g b hb K hK=>hstep i (by rw[<- hn];exact (oJ.1 ho).1) o ho g b hb K hK) hend)
theorem aO {x:Operand} {c d:Code} {b:Bool} {p q:Prop} {Q:Exit->aN->Prop} (ht:p->AW P nt c Q ρ) (hf:q->AW P nt d Q ρ) (ho:s9 nt x=true:=by rfl) (hx:ev ρ x=.v (.bool b):=by exact rfl)
  (hp:b=true->Wr p:=by intro c;(try simp only[push_cast] at c);exact⟨c⟩) (hq:b=false->Wr q:=by intro c;(try simp only[push_cast] at c);exact⟨c⟩):AW P nt (.cond x c d) Q ρ:=
 dY b ho hx (fun h=>ht (hp h).out) (fun h=>hf (hq h).out)
theorem cQ {σ:Type} {F:σ->World->(Nat->Prop)->dD->Prop} {s:σ} {x:Operand} {c d:Code} {b:Bool} {p q:Prop} {Q:Exit->σ->aN->Prop} (ht:p->pL P nt F c Q s ρ) (hf:q->pL P nt F d Q s ρ) (ho:s9 nt x=true:=by rfl) (hx:ev ρ x=.v (.bool b):=by exact rfl)
  (hp:b=true->Wr p:=by intro c;(try simp only[push_cast] at c);exact⟨c⟩) (hq:b=false->Wr q:=by intro c;(try simp only[push_cast] at c);exact⟨c⟩):pL P nt F (.cond x c d) Q s ρ:=
 aMx b ho hx (fun h=>ht (hp h).out) (fun h=>hf (hq h).out)
theorem ef {σ:Type} {F:σ->World->(Nat->Prop)->dD->Prop} {s:σ} {ops:Array Oper} {o:Oper} {K:σ->aN->Prop} {q:Prop} (hF:StF F) (k:q) (hg:o.guard=none:=by rfl) (ho:eJ nt o=true:=by kernel_rfl) (hd:jH nt o=true:=by kernel_rfl)
  (h:Wr q->jO P ρ o.op o.dst (K s):=by intro hk;exact lL hk.out):lW P nt F ops o K s ρ:=fK hF (bV hg ho hd (h ⟨k⟩))
theorem ez {ops:Array Oper} {o:Oper} {K:aN->Prop} {q:Prop} (k:q) (hg:o.guard=none:=by rfl) (ho:eJ nt o=true:=by kernel_rfl) (hd:jH nt o=true:=by kernel_rfl)
  (h:Wr q->jO P ρ o.op o.dst K:=by intro hk;exact lL hk.out):OW P nt ops o K ρ:=bV hg ho hd (h ⟨k⟩)
theorem f9 {f:FuncId} {l:List DV} {k:aN->DV->Prop} {t:Tg k} {r:DV} {q:Prop} (h:aZ P ρ f l r) (k':q) (hk:Wr q->k ρ r:=by intro hk;exact lL hk.out):aHw P ρ f l k t:=jJ r h (hk ⟨k'⟩)
theorem cdz {f:FuncId} {l:List DV} {k:DV->Prop} {t:Tg k} {r:DV} {q:Prop} (h:aZ P ρ f l r) (k':q) (hr:cK r=false:=by rfl) (hk:Wr q->k r:=by intro hk;exact lL hk.out):aPp P ρ f l k t:=lU h hr (hk ⟨k'⟩)
theorem dN {fn:Func} {O:aN} {r:DV} (t:Nat) (h2:dX ρ t r) (hf:fn.results= #[.tmp t]:=by rfl) (h1:hi ρ=bS O:=by (try simp (config := { maxSteps := 2000000 }) only[go_sem,seval]);(try simp (config := { maxSteps := 2000000 }) (disch:=omega) only[go_sem,seval])):rZ P fn O (fun O' r'=>O'=O/\r'=r) .ret ρ:=sX t hf h1 h2
theorem rtu {fn:Func} {O:aN} {a b:ResultVar} {vs:List ResultVar} {rs:List DV} (h:RO P ρ (a::b::vs) rs) (hf:fn.results.toList=a::b::vs:=by rfl) (h1:hi ρ=bS O:=by (try simp (config := { maxSteps := 2000000 }) only[go_sem,seval]);(try simp (config := { maxSteps := 2000000 }) (disch:=omega) only[go_sem,seval])):rZ P fn O (fun O' r'=>O'=O/\r'=.tup rs) .ret ρ:=sO hf h1 h
theorem xb {t:Nat} {a b:Bool} (k:a=b) (h:a=b->ρ t=vb b:=by intro hk;(try simp (config := { maxSteps := 2000000 }) only[go_sem,seval]);(try simp (config := { maxSteps := 2000000 }) (disch:=omega) only[go_sem,seval]);exact congrArg vb hk):dX ρ t (vb b):=dX.is (h k) rfl rfl
theorem xd {t:Nat} {b:Bool} (h:ρ t=vb b:=by ((try simp (config := { maxSteps := 2000000 }) only[go_sem,seval]);(try simp (config := { maxSteps := 2000000 }) (disch:=omega) only[go_sem,seval]))<;>refine congrArg vb ?_<;>first|rfl|exact bD|simp):dX ρ t (vb b):=dX.is h rfl rfl
theorem bN {id:Nat} {l:List Oper} {Q:Exit->aN->Prop} {q:Prop} (L:List Nat) (k:q) (hr:gM nt l=true:=by kernel_rfl) (h:Wr q->pw P l (Q .normal) l ⟨⟩ (keepC L ρ):=by intro hk;exact lL hk.out):AW P nt (.region id l.toArray false) Q ρ:=cS L hr (h ⟨k⟩)
theorem gI {σ:Type} {F:σ->World->(Nat->Prop)->dD->Prop} {s:σ} {id:Nat} {l:List Oper} {Q:Exit->σ->aN->Prop} {q:Prop} (hF:StF F) (L:List Nat) (k:q) (hr:gM nt l=true:=by kernel_rfl) (h:Wr q->pw P l (Q .normal s) l ⟨⟩ (keepC L ρ):=by intro hk;exact lL hk.out):pL P nt F (.region id l.toArray false) Q s ρ:=iU hF (cS L hr (h ⟨k⟩))
theorem gJ {id:Nat} {l:List Oper} {Q:Exit->aN->Prop} {q:Prop} (L:List Nat) (cl:List (Nat×Nat)) (k:q) (hm:P.follows .mixedOrders=true:=by exact kR)
  (hr:(gM nt l&&aSs l l.length 0 (Array.replicate l.length false)&&cl.all fun p=>decide (p.1<nt)&&decide (p.2<nt)&&p.1 !=p.2)=true:=by kernel_rfl) (h:Wr q->pwD P l (clG cl (Q .normal)) l ⟨⟩ (keepC L ρ):=by intro hk;exact lL hk.out):AW P nt (.region id l.toArray true) Q ρ:=nP L cl hm hr (h ⟨k⟩)
theorem rO {g:Bool} {pre:Prop} {f:FuncId} {l:List DV} {k:DV->Prop} {t:Tg k} {r:DV} {q:Prop} (h:g=true->aZ P ρ f l r) (k':q) (hp:g=true->pre:=by first|exact fun _=>trivial|simp) (hr:lG r=true:=by rfl) (hk:Wr q->k r:=by intro hk;exact lL hk.out):aRl P ρ g pre f l k t:=rD h hp hr (hk ⟨k'⟩)
theorem eV {f:FuncId} {c:Code} {O:aN} {args:List DV} {fn:Func} {r:DV} (hf:P.funcs[f]?=some fn) (h:AW P fn.ntmps c (rZ P fn O fun O' r'=>O'=O/\r'=r) (nF O args)) (hb:fn.body=some c:=by exact rfl)
  (hn:(decide (args.length<=fn.ntmps)&&decide (fn.ntmps<=100000)&&fn.results.toList.all (fun v=>match v with| .tmp t=>decide (t<fn.ntmps)| .cell t _=>decide (t<fn.ntmps)))=true:=by kernel_rfl):aZ P O f args r:=aWc hf hb hn h
end
theorem gE {p q:Prop} (k:q) (h:Wr q->p:=by intro hk;(try simp (config := { maxSteps := 2000000 }) only[go_sem,seval,hsx]);(try simp (config := { maxSteps := 2000000 }) (disch:=omega) only[go_sem,seval,hsx]);(repeat refine cP kN ?_);exact hk.out):p:=h ⟨k⟩
theorem eX {p:Prop} (h:p:=by ((try simp (config := { maxSteps := 2000000 }) only[go_sem,seval,hsx]);(try simp (config := { maxSteps := 2000000 }) (disch:=omega) only[go_sem,seval,hsx]))<;>first|rfl|omega|simp|simp_all):p:=h
theorem aDd {p:Prop} (h:p:=by ((try simp (config := { maxSteps := 2000000 }) only[go_sem,seval,hsx]);(try simp (config := { maxSteps := 2000000 }) (disch:=omega) only[go_sem,seval,hsx]))<;>first|rfl|simp):p:=h
section
variable {P:Program} {nt:Nat} {ρ ρ':aN}
theorem bB {id:Nat} {l:List Oper} {y:Code} {Q:Exit->aN->Prop} (L:List Nat) (k:AW P nt y Q ρ') (hr:gM nt l=true:=by kernel_rfl) (h: ∀K:aN->Prop,K ρ'->pw P l K l ⟨⟩ (keepC L ρ):=by intro K hk;exact gE hk):AW P nt (.seq (.region id l.toArray false) y) Q ρ:=
 aA fun K hK=>cS L hr (h K (hK ρ' k))
theorem cN {id:Nat} {l:List Oper} {Q:Exit->aN->Prop} (L:List Nat) (k:Q .normal ρ') (hr:gM nt l=true:=by kernel_rfl) (h: ∀K:aN->Prop,K ρ'->pw P l K l ⟨⟩ (keepC L ρ):=by intro K hk;exact gE hk):AW P nt (.region id l.toArray false) Q ρ:=
 cS L hr (h (Q .normal) k)
end
section
variable {σ:Type} {P:Program} {nt:Nat} {F:σ->World->(Nat->Prop)->dD->Prop} {s:σ} {ρ ρ':aN}
theorem lB {id:Nat} {l:List Oper} {y:Code} {Q:Exit->σ->aN->Prop} (hF:StF F) (L:List Nat) (k:pL P nt F y Q s ρ') (hr:gM nt l=true:=by kernel_rfl) (h: ∀K:aN->Prop,K ρ'->pw P l K l ⟨⟩ (keepC L ρ):=by intro K hk;exact gE hk):pL P nt F (.seq (.region id l.toArray false) y) Q s ρ:=
 aW fun K hK=>iU hF (cS L hr (h (K s) (hK s ρ' k)))
theorem wE {id:Nat} {l:List Oper} {Q:Exit->σ->aN->Prop} (hF:StF F) (L:List Nat) (k:Q .normal s ρ') (hr:gM nt l=true:=by kernel_rfl) (h: ∀K:aN->Prop,K ρ'->pw P l K l ⟨⟩ (keepC L ρ):=by intro K hk;exact gE hk):pL P nt F (.region id l.toArray false) Q s ρ:=
 iU hF (cS L hr (h (Q .normal s) k))
end
theorem o0 {a b c q:Prop} (ho:a) (hb:b) (hK:c) (h:a->b->c->q:=by
 intro hoQ hbQ hKQ;obtain rfl:=dO hoQ;simp only[stM,tE,tI,oK,oS,pH,jC,jE] at hbQ
 first|show opI _ _ _ false _ _|show opI _ _ _ true _ _
 refine stbh ?_;refine hKQ _ ?_;exact eqbh):q:=h ho hb hK
theorem aWa {a b c d q:Prop} (ho:a) (hb:b) (hK:c) (hc:d) (h:a->b->c->d->q:=by
 intro hoQ hbQ hKQ hcQ;obtain rfl:=dO hoQ;simp only[stM,tE,tI,oK,oS,pH,jC,jE] at hbQ
 first|show opI _ _ _ false _ _|show opI _ _ _ true _ _
 refine stbh ?_;refine lU hcQ ?_ ?_;rfl;refine stbh ?_;refine hKQ _ ?_;exact eqbh):q:=h ho hb hK hc
theorem cKg {a b c e q:Prop} (hF:e) (ho:a) (hb:b) (hK:c) (h:e->a->b->c->q:=by
 intro hF hoQ hbQ hKQ;obtain rfl:=dO hoQ;simp only[stM,tE,tI,oK,oS,pH,jC,jE] at hbQ;show lW _ _ _ _ _ _ _ _;refine fK hF ?_;refine bV rfl bF bF ?_;refine stbh ?_;refine hKQ _ _ ?_ ?_;exact sfbh;exact eqbh):q:=h hF ho hb hK
theorem cSg {a b c d e q:Prop} (hF:e) (ho:a) (hb:b) (hK:c) (hc:d) (h:e->a->b->c->d->q:=by
 intro hF hoQ hbQ hKQ hcQ;obtain rfl:=dO hoQ;simp only[stM,tE,tI,oK,oS,pH,jC,jE] at hbQ;show lW _ _ _ _ _ _ _ _;refine fK hF ?_;refine bV rfl bF bF ?_;refine stbh ?_;refine jJ _ hcQ ?_;refine stbh ?_;refine hKQ _ _ ?_ ?_;exact sfbh;exact eqbh):q:=h hF ho hb hK hc
section
variable {P:Program} {nt:Nat} {ρ:aN}
theorem bBx {Q:Exit->aN->Prop} (n:Nat) (Lv L fl:List Nat) (cl:List (Nat×Nat)) (D U:List (List Nat)) (E:(Nat->Bool)->aN) {id:Nat} {l:List Oper}
  (hstep: ∀(i:Nat),i<n-> ∀(o:Oper),l[i]?=some o-> ∀b:Nat->Bool,stM b i D U-> ∀K:aN->Prop,(∀ρ',keepC L ρ'=E (upB b i)->K ρ')->opI P l o (fl.contains i) K (E b))
  (hend:clG cl (Q .normal) (E fun _=>true)) (hm:P.follows .mixedOrders=true:=by exact kR) (hn:l.length=n:=by rfl) (hc:(zR l&&(aXt l D&&aWo l.length D U))=true:=by kernel_rfl)
  (hr:(gM nt l&&cl.all fun p=>decide (p.1<nt)&&decide (p.2<nt)&&p.1 !=p.2)=true:=by kernel_rfl)
  (h1:keepC L (keepC Lv ρ)=E (b0 l.length):=by exact aDd):AW P nt (.region id l.toArray true) Q ρ:=
 cM (Le.keepC Lv _) (aKa L fl cl D U E hm hc hr h1 (fun i o ho b hb K hK=>hstep i (by rw[<- hn];exact (oJ.1 ho).1) o ho b hb K hK) hend)
theorem aUi {σ γ:Type} {F:σ->World->(Nat->Prop)->dD->Prop} {Q:Exit->σ->aN->Prop} {s:σ} (n:Nat) (Lv L:List Nat) (D U:List (List Nat)) (E:γ->(Nat->Bool)->aN) (S:γ->(Nat->Bool)->σ) (g0:γ) {id:Nat} {l:List Oper} (hF:StF F)
  (hstep: ∀(i:Nat),i<n-> ∀(o:Oper),l[i]?=some o-> ∀(g:γ) (b:Nat->Bool),stM b i D U-> ∀K:σ->aN->Prop,(∀g' s' ρ',s'=S g' (upB b i)->keepC L ρ'=E g' (upB b i)->K s' ρ')->lW P nt F l.toArray o K (S g b) (E g b))
  (hend: ∀g,Q .normal (S g fun _=>true) (E g fun _=>true)) (hm:P.follows .mixedOrders=true:=by exact kR) (hn:l.length=n:=by rfl) (hc:(zR l&&(aXt l D&&aWo l.length D U))=true:=by kernel_rfl)
  (h0:s=S g0 (b0 l.length):=by first|rfl|(((try simp (config := { maxSteps := 2000000 }) only[go_sem,seval,hsx]);(try simp (config := { maxSteps := 2000000 }) (disch:=omega) only[go_sem,seval,hsx]));done)|(((try simp (config := { maxSteps := 2000000 }) only[go_sem,seval,hsx]);(try simp (config := { maxSteps := 2000000 }) (disch:=omega) only[go_sem,seval,hsx]))<;>rfl)) (h1:keepC L (keepC Lv ρ)=E g0 (b0 l.length):=by exact aDd):pL P nt F (.region id l.toArray true) Q s ρ:=
 cC (Le.keepC Lv _) (aLe L D U E S g0 hF hm hc h0 h1 (fun i o ho g b hb K hK=>hstep i (by rw[<- hn];exact (oJ.1 ho).1) o ho g b hb K hK) hend)
theorem efh {σ:Type} {F:σ->World->(Nat->Prop)->dD->Prop} {s:σ} {ops:Array Oper} {o:Oper} {K:σ->aN->Prop} {q:Prop} (hF:StF F) (k:q) (hg:o.guard=none:=by rfl) (ho:eJ nt o=true:=by kernel_rfl) (hd:jH nt o=true:=by kernel_rfl)
  (h:Wr q->jO P ρ o.op o.dst (K s):=by intro hk;exact gE hk.out):lW P nt F ops o K s ρ:=fK hF (bV hg ho hd (h ⟨k⟩))
theorem ezh {ops:Array Oper} {o:Oper} {K:aN->Prop} {q:Prop} (k:q) (hg:o.guard=none:=by rfl) (ho:eJ nt o=true:=by kernel_rfl) (hd:jH nt o=true:=by kernel_rfl)
  (h:Wr q->jO P ρ o.op o.dst K:=by intro hk;exact gE hk.out):OW P nt ops o K ρ:=bV hg ho hd (h ⟨k⟩)
theorem pV {f:FuncId} {l:List DV} {k:aN->DV->Prop} {t:Tg k} {r:DV} {q:Prop} (h:aZ P ρ f l r) (k':q) (hk:Wr q->k ρ r:=by intro hk;exact gE hk.out):aHw P ρ f l k t:=jJ r h (hk ⟨k'⟩)
theorem bKi {f:FuncId} {l:List DV} {k:DV->Prop} {t:Tg k} {r:DV} {q:Prop} (h:aZ P ρ f l r) (k':q) (hr:cK r=false:=by rfl) (hk:Wr q->k r:=by intro hk;exact gE hk.out):aPp P ρ f l k t:=lU h hr (hk ⟨k'⟩)
theorem mA {fn:Func} {O:aN} {r:DV} (t:Nat) (h2:dX ρ t r) (hf:fn.results= #[.tmp t]:=by rfl) (h1:hi ρ=bS O:=by (try simp (config := { maxSteps := 2000000 }) only[go_sem,seval,hsx]);(try simp (config := { maxSteps := 2000000 }) (disch:=omega) only[go_sem,seval,hsx])):rZ P fn O (fun O' r'=>O'=O/\r'=r) .ret ρ:=sX t hf h1 h2
theorem cHk {fn:Func} {O:aN} {a b:ResultVar} {vs:List ResultVar} {rs:List DV} (h:RO P ρ (a::b::vs) rs) (hf:fn.results.toList=a::b::vs:=by rfl) (h1:hi ρ=bS O:=by (try simp (config := { maxSteps := 2000000 }) only[go_sem,seval,hsx]);(try simp (config := { maxSteps := 2000000 }) (disch:=omega) only[go_sem,seval,hsx])):rZ P fn O (fun O' r'=>O'=O/\r'=.tup rs) .ret ρ:=sO hf h1 h
theorem xbh {t:Nat} {a b:Bool} (k:a=b) (h:a=b->ρ t=vb b:=by intro hk;(try simp (config := { maxSteps := 2000000 }) only[go_sem,seval,hsx]);(try simp (config := { maxSteps := 2000000 }) (disch:=omega) only[go_sem,seval,hsx]);exact congrArg vb hk):dX ρ t (vb b):=dX.is (h k) rfl rfl
theorem xdh {t:Nat} {b:Bool} (h:ρ t=vb b:=by ((try simp (config := { maxSteps := 2000000 }) only[go_sem,seval,hsx]);(try simp (config := { maxSteps := 2000000 }) (disch:=omega) only[go_sem,seval,hsx]))<;>refine congrArg vb ?_<;>first|rfl|exact bD|simp):dX ρ t (vb b):=dX.is h rfl rfl
theorem eZ {id:Nat} {l:List Oper} {Q:Exit->aN->Prop} {q:Prop} (L:List Nat) (k:q) (hr:gM nt l=true:=by kernel_rfl) (h:Wr q->pw P l (Q .normal) l ⟨⟩ (keepC L ρ):=by intro hk;exact gE hk.out):AW P nt (.region id l.toArray false) Q ρ:=cS L hr (h ⟨k⟩)
theorem bYl {σ:Type} {F:σ->World->(Nat->Prop)->dD->Prop} {s:σ} {id:Nat} {l:List Oper} {Q:Exit->σ->aN->Prop} {q:Prop} (hF:StF F) (L:List Nat) (k:q) (hr:gM nt l=true:=by kernel_rfl) (h:Wr q->pw P l (Q .normal s) l ⟨⟩ (keepC L ρ):=by intro hk;exact gE hk.out):pL P nt F (.region id l.toArray false) Q s ρ:=iU hF (cS L hr (h ⟨k⟩))
theorem jF {id:Nat} {l:List Oper} {Q:Exit->aN->Prop} {q:Prop} (L:List Nat) (cl:List (Nat×Nat)) (k:q) (hm:P.follows .mixedOrders=true:=by exact kR)
  (hr:(gM nt l&&aSs l l.length 0 (Array.replicate l.length false)&&cl.all fun p=>decide (p.1<nt)&&decide (p.2<nt)&&p.1 !=p.2)=true:=by kernel_rfl) (h:Wr q->pwD P l (clG cl (Q .normal)) l ⟨⟩ (keepC L ρ):=by intro hk;exact gE hk.out):AW P nt (.region id l.toArray true) Q ρ:=nP L cl hm hr (h ⟨k⟩)
theorem bLa {g:Bool} {pre:Prop} {f:FuncId} {l:List DV} {k:DV->Prop} {t:Tg k} {r:DV} {q:Prop} (h:g=true->aZ P ρ f l r) (k':q) (hp:g=true->pre:=by first|exact fun _=>trivial|simp) (hr:lG r=true:=by rfl) (hk:Wr q->k r:=by intro hk;exact gE hk.out):aRl P ρ g pre f l k t:=rD h hp hr (hk ⟨k'⟩)
end
theorem xU {p:Prop} (h:p:=by ((try simp only[go_sem,seval,hsx]);try simp (disch:=omega) only[go_sem,seval,hsx])):p:=h
theorem srh {p:Prop} (h:p:=by ((try simp only[go_sem,seval,hsx]);try simp (disch:=omega) only[go_sem,seval,hsx])<;>rfl):p:=h
theorem svh {p:Prop} (h:p:=by ((try simp only[go_sem,seval,hsx]);try simp (disch:=omega) only[go_sem,seval,hsx])<;>(first|rfl|(simp_all;done))):p:=h
theorem sz {p:Prop} (h:p:=by ((try simp only[go_sem,seval]);try simp (disch:=omega) only[go_sem,seval])):p:=h
theorem sr {p:Prop} (h:p:=by ((try simp only[go_sem,seval]);try simp (disch:=omega) only[go_sem,seval])<;>rfl):p:=h
theorem sf {p:Prop} (h:p:=by first|rfl|(((try simp only[go_sem,seval]);try simp (disch:=omega) only[go_sem,seval]);done)|(((try simp only[go_sem,seval]);try simp (disch:=omega) only[go_sem,seval])<;>rfl)):p:=h
theorem sv {p:Prop} (h:p:=by ((try simp only[go_sem,seval]);try simp (disch:=omega) only[go_sem,seval])<;>(first|rfl|(simp_all;done))):p:=h
theorem sx {p:Prop} (h:p:=by ((try simp only[go_sem,↓reduceIte,Nat.reduceEqDiff,Nat.reduceLT,Nat.reduceLeDiff,Nat.reduceAdd,Nat.reduceSub,Nat.reduceMul,reduceCtorEq,Int.reduceToNat,Int.reduceNeg]);try ((try simp only[go_sem,seval]);try simp (disch:=omega) only[go_sem,seval]))):p:=h
theorem su {p:Prop} (h:p:=by ((try simp only[go_sem,↓reduceIte,Nat.reduceEqDiff,Nat.reduceLT,Nat.reduceLeDiff,Nat.reduceAdd,Nat.reduceSub,Nat.reduceMul,reduceCtorEq,Int.reduceToNat,Int.reduceNeg]);try ((try simp only[go_sem,seval]);try simp (disch:=omega) only[go_sem,seval]))<;>rfl):p:=h
theorem st {p:Prop} (h:p:=by ((try simp only[go_sem,↓reduceIte,Nat.reduceEqDiff,Nat.reduceLT,Nat.reduceLeDiff,Nat.reduceAdd,Nat.reduceSub,Nat.reduceMul,reduceCtorEq,Int.reduceToNat,Int.reduceNeg]);try ((try simp only[go_sem,seval]);try simp (disch:=omega) only[go_sem,seval]));try rfl):p:=h
theorem jS {d:DV} {a b:List DV} (h:rQ a b):rQ (d::a) (d::b):=.cons (eK.refl _) h
theorem gA {α:Type} [Inhabited α] {z c:Nat} {b:Option Addr} {e:α->List DV} {x y:List DV} (h:rQ x y):rQ (.v (.slice b 0 c)::x) (encL z e []::y):=.cons (eK.nilL e) h
open Go.Proofs
theorem sz3:gV Tryz.prog 3=some (1):=by kernel_rfl
theorem sz4:gV Tryz.prog 4=some (1):=by kernel_rfl
theorem hb4:aM Tryz.prog 4=true:=by kernel_rfl
theorem hb5:aM Tryz.prog 5=true:=by kernel_rfl
theorem hb6:aM Tryz.prog 6=true:=by kernel_rfl
theorem hb9:aM Tryz.prog 9=true:=by kernel_rfl
theorem cUy:nE Tryz.prog 22=some (9,1,16)/\nE Tryz.prog 23=some (93,7,64)/\nE Tryz.prog 24=some (123,4,32)/\nE Tryz.prog 25=some (91,4,40)/\nE Tryz.prog 26=some (133,3,24)/\nE Tryz.prog 29=some (71,10,88)/\nE Tryz.prog 30=some (69,3,40)/\nE Tryz.prog 31=some (98,2,32)/\nE Tryz.prog 34=some (157,14,264)/\nE Tryz.prog 35=some (3,1,8)/\nE Tryz.prog 38=some (118,3,24)/\nE Tryz.prog 41=some (165,3,24)/\nE Tryz.prog 42=some (4,1,1)/\nE Tryz.prog 43=some (85,32,312)/\nE Tryz.prog 44=some (67,14,192)/\nE Tryz.prog 45=some (79,4,32)/\nE Tryz.prog 54=some (35,1,24)/\nE Tryz.prog 65=some (87,3,24)/\nE Tryz.prog 96=some (148,4,32)/\nE Tryz.prog 138=some (141,2,16)/\nE Tryz.prog 155=some (89,2,16)/\nE Tryz.prog 194=some (191,16,128)/\nE Tryz.prog 205=some (22,1,24)/\nE Tryz.prog 222=some (223,1,24)/\nE Tryz.prog 261=some (65,1,24)/\nE Tryz.prog 330=some (327,1,8)/\nE Tryz.prog 334=some (138,1,24)/\eA Tryz.prog 3=some (none)/\eA Tryz.prog 4=some (none)/\eA Tryz.prog 9=some (none)/\eA Tryz.prog 22=some (none)/\eA Tryz.prog 23=some (none)/\eA Tryz.prog 24=some (none)/\eA Tryz.prog 25=some (none)/\eA Tryz.prog 26=some (none)/\eA Tryz.prog 28=some (some (6))/\eA Tryz.prog 29=some (none)/\eA Tryz.prog 30=some (none)/\eA Tryz.prog 31=some (none)/\eA Tryz.prog 34=some (none):=by
 repeat refine⟨bF,?_⟩
 kernel_rfl
theorem cTn:eA Tryz.prog 35=some (none)/\eA Tryz.prog 37=some (some (5))/\eA Tryz.prog 38=some (none)/\eA Tryz.prog 40=some (some (2))/\eA Tryz.prog 41=some (none)/\eA Tryz.prog 42=some (none)/\eA Tryz.prog 43=some (none)/\eA Tryz.prog 44=some (none)/\eA Tryz.prog 45=some (none)/\eA Tryz.prog 47=some (some (2))/\eA Tryz.prog 54=some (none)/\eA Tryz.prog 56=some (some (2))/\eA Tryz.prog 59=some (some (30))/\eA Tryz.prog 65=some (none)/\eA Tryz.prog 67=some (some (14))/\eA Tryz.prog 69=some (some (3))/\eA Tryz.prog 71=some (some (10))/\eA Tryz.prog 79=some (some (4))/\eA Tryz.prog 83=some (some (26))/\eA Tryz.prog 85=some (some (32))/\eA Tryz.prog 87=some (some (3))/\eA Tryz.prog 89=some (some (2))/\eA Tryz.prog 91=some (some (4))/\eA Tryz.prog 93=some (some (7))/\eA Tryz.prog 96=some (none)/\eA Tryz.prog 98=some (some (2))/\eA Tryz.prog 108=some (none)/\eA Tryz.prog 118=some (some (3))/\eA Tryz.prog 123=some (some (4))/\eA Tryz.prog 133=some (some (3))/\eA Tryz.prog 138=some (none)/\eA Tryz.prog 141=some (some (2))/\eA Tryz.prog 148=some (some (4))/\eA Tryz.prog 155=some (none)/\eA Tryz.prog 157=some (some (14))/\eA Tryz.prog 165=some (some (3))/\eA Tryz.prog 187=some (none)/\eA Tryz.prog 191=some (some (16))/\eA Tryz.prog 193=some (some (4))/\eA Tryz.prog 195=some (none):=by
 repeat refine⟨bF,?_⟩
 kernel_rfl
theorem cUu:eA Tryz.prog 223=some (none)/\eA Tryz.prog 252=some (none)/\eA Tryz.prog 261=some (none)/\eA Tryz.prog 301=some (some (40))/\eA Tryz.prog 327=some (none)/\fZ Tryz.prog 22=some (none,1)/\fZ Tryz.prog 23=some (none,7)/\fZ Tryz.prog 24=some (none,4)/\fZ Tryz.prog 25=some (none,4)/\fZ Tryz.prog 26=some (none,3)/\fZ Tryz.prog 29=some (none,10)/\fZ Tryz.prog 30=some (none,3)/\fZ Tryz.prog 31=some (none,2)/\fZ Tryz.prog 34=some (none,14)/\fZ Tryz.prog 35=some (none,1)/\fZ Tryz.prog 38=some (none,3)/\fZ Tryz.prog 41=some (none,3)/\fZ Tryz.prog 42=some (none,1)/\fZ Tryz.prog 43=some (none,32)/\fZ Tryz.prog 44=some (none,14)/\fZ Tryz.prog 45=some (none,4)/\fZ Tryz.prog 54=some (none,1)/\fZ Tryz.prog 65=some (none,3)/\fZ Tryz.prog 96=some (none,4)/\fZ Tryz.prog 138=some (none,2)/\fZ Tryz.prog 155=some (none,2)/\fZ Tryz.prog 189=some (some (4),1)/\fZ Tryz.prog 191=some (some (4),4)/\fZ Tryz.prog 193=some (some (4),1)/\fZ Tryz.prog 194=some (none,16)/\fZ Tryz.prog 205=some (none,1)/\fZ Tryz.prog 222=some (none,1)/\fZ Tryz.prog 245=some (some (4),1)/\fZ Tryz.prog 246=some (some (4),4)/\fZ Tryz.prog 247=some (some (4),16)/\fZ Tryz.prog 248=some (some (4),64)/\fZ Tryz.prog 261=some (none,1)/\fZ Tryz.prog 297=some (some (24),1)/\fZ Tryz.prog 330=some (none,1)/\fZ Tryz.prog 334=some (none,1):=by
 repeat refine⟨bF,?_⟩
 kernel_rfl
theorem cUw:tk Tryz.prog 3=4/\tk Tryz.prog 4=3/\tk Tryz.prog 9=1/\tk Tryz.prog 21=4/\tk Tryz.prog 22=2/\tk Tryz.prog 23=2/\tk Tryz.prog 24=2/\tk Tryz.prog 25=2/\tk Tryz.prog 26=2/\tk Tryz.prog 29=2/\tk Tryz.prog 30=2/\tk Tryz.prog 31=2/\tk Tryz.prog 34=2/\tk Tryz.prog 35=2/\tk Tryz.prog 38=2/\tk Tryz.prog 41=2/\tk Tryz.prog 42=2/\tk Tryz.prog 43=2/\tk Tryz.prog 44=2/\tk Tryz.prog 45=2/\tk Tryz.prog 54=2/\tk Tryz.prog 60=4/\tk Tryz.prog 65=2/\tk Tryz.prog 89=0/\tk Tryz.prog 96=2/\tk Tryz.prog 111=2/\tk Tryz.prog 138=2/\tk Tryz.prog 141=0/\tk Tryz.prog 155=2/\tk Tryz.prog 194=2/\tk Tryz.prog 205=2/\tk Tryz.prog 223=2/\tk Tryz.prog 261=2/\tk Tryz.prog 330=2/\tk Tryz.prog 334=2/\eW Tryz.prog 3=some ([.int .i64 0])/\eW Tryz.prog 4=some ([.bool false])/\eW Tryz.prog 9=some ([.string ⟨#[]⟩])/\eW Tryz.prog 22=some ([.slice none 0 0])/\eW Tryz.prog 28=some ([.string ⟨#[]⟩,.slice none 0 0,.slice none 0 0,.slice none 0 0,.slice none 0 0,.slice none 0 0]):=by
 repeat refine⟨bF,?_⟩
 kernel_rfl
theorem cTx:eW Tryz.prog 35=some ([.slice none 0 0])/\eW Tryz.prog 37=some ([.slice none 0 0,.slice none 0 0,.slice none 0 0,.int .i64 0,.int .i64 0])/\eW Tryz.prog 40=some ([.slice none 0 0,.slice none 0 0])/\eW Tryz.prog 47=some ([.slice none 0 0,.slice none 0 0])/\eW Tryz.prog 56=some ([.slice none 0 0,.int .i64 0])/\eW Tryz.prog 59=some ([.string ⟨#[]⟩,.slice none 0 0,.slice none 0 0,.slice none 0 0,.slice none 0 0,.slice none 0 0,.slice none 0 0,.slice none 0 0,.slice none 0 0,.int .i64 0,.int .i64 0,.slice none 0 0,.slice none 0 0,.slice none 0 0,.slice none 0 0,.slice none 0 0,.slice none 0 0,.slice none 0 0,.slice none 0 0,.slice none 0 0,.slice none 0 0,.slice none 0 0,.slice none 0 0,.slice none 0 0,.slice none 0 0,.slice none 0 0,.int .i64 0,.slice none 0 0,.slice none 0 0,.int .i64 0])/\eW Tryz.prog 65=some ([.slice none 0 0])/\eW Tryz.prog 67=some ([.int .i64 0,.int .i64 0,.int .i64 0,.int .i64 0,.slice none 0 0,.slice none 0 0,.slice none 0 0,.slice none 0 0,.slice none 0 0,.int .i64 0,.int .i64 0,.int .i64 0,.int .i64 0,.int .i64 0])/\eW Tryz.prog 69=some ([.slice none 0 0,.int .i64 0,.int .i64 0])/\eW Tryz.prog 71=some ([.int .i64 0,.string ⟨#[]⟩,.int .i64 0,.int .i64 0,.int .i64 0,.int .i64 0,.int .i64 0,.int .i64 0,.int .i64 0,.int .i64 0])/\eW Tryz.prog 79=some ([.int .i64 0,.int .i64 0,.int .i64 0,.int .i64 0])/\eW Tryz.prog 83=some ([.int .i64 0,.string ⟨#[]⟩,.int .i64 0,.int .i64 0,.int .i64 0,.int .i64 0,.int .i64 0,.int .i64 0,.int .i64 0,.int .i64 0,.int .i64 0,.int .i64 0,.int .i64 0,.int .i64 0,.int .i64 0,.int .i64 0,.int .i64 0,.int .i64 0,.slice none 0 0,.slice none 0 0,.int .i64 0,.int .i64 0,.int .i64 0,.int .i64 0,.bool false,.int .i64 0])/\eW Tryz.prog 85=some ([.slice none 0 0,.int .i64 0,.int .i64 0,.int .i64 0,.int .i64 0,.int .i64 0,.int .i64 0,.string ⟨#[]⟩,.int .i64 0,.int .i64 0,.int .i64 0,.int .i64 0,.int .i64 0,.int .i64 0,.int .i64 0,.int .i64 0,.int .i64 0,.int .i64 0,.int .i64 0,.int .i64 0,.int .i64 0,.int .i64 0,.int .i64 0,.int .i64 0,.slice none 0 0,.slice none 0 0,.int .i64 0,.int .i64 0,.int .i64 0,.int .i64 0,.bool false,.int .i64 0])/\eW Tryz.prog 87=some ([.int .i64 0,.int .i64 0,.int .i64 0])/\eW Tryz.prog 89=some ([.int .i64 0,.int .i64 0])/\eW Tryz.prog 91=some ([.string ⟨#[]⟩,.int .i64 0,.int .i64 0,.int .i64 0])/\eW Tryz.prog 93=some ([.string ⟨#[]⟩,.int .i64 0,.int .i64 0,.int .i64 0,.int .i64 0,.int .i64 0,.int .i64 0])/\eW Tryz.prog 98=some ([.int .i64 0,.slice none 0 0])/\eW Tryz.prog 106=some ([.string ⟨#[]⟩,.slice none 0 0,.slice none 0 0,.slice none 0 0,.slice none 0 0,.slice none 0 0,.slice none 0 0,.slice none 0 0,.slice none 0 0,.int .i64 0,.int .i64 0,.slice none 0 0,.slice none 0 0,.slice none 0 0,.slice none 0 0,.slice none 0 0,.slice none 0 0,.slice none 0 0,.slice none 0 0,.slice none 0 0,.slice none 0 0,.slice none 0 0,.slice none 0 0,.slice none 0 0,.slice none 0 0,.slice none 0 0,.int .i64 0,.slice none 0 0,.slice none 0 0,.int .i64 0])/\eW Tryz.prog 118=some ([.int .i64 0,.int .i64 0,.int .i64 0])/\eW Tryz.prog 123=some ([.int .i64 0,.int .i64 0,.int .i64 0,.int .i64 0])/\eW Tryz.prog 133=some ([.int .i64 0,.int .i64 0,.int .i64 0])/\eW Tryz.prog 138=some ([.slice none 0 0])/\eW Tryz.prog 141=some ([.int .i64 0,.int .i64 0])/\eW Tryz.prog 148=some ([.int .i64 0,.int .i64 0,.int .i64 0,.int .i64 0])/\eW Tryz.prog 157=some ([.string ⟨#[]⟩,.int .i64 0,.int .i64 0,.slice none 0 0,.slice none 0 0,.slice none 0 0,.int .i64 0,.int .i64 0,.slice none 0 0,.slice none 0 0,.slice none 0 0,.slice none 0 0,.slice none 0 0,.slice none 0 0])/\eW Tryz.prog 165=some ([.int .i64 0,.int .i64 0,.int .i64 0])/\eW Tryz.prog 187=some ([.pointer none])/\eW Tryz.prog 191=some ([.int .i64 0,.int .i64 0,.int .i64 0,.int .i64 0,.int .i64 0,.int .i64 0,.int .i64 0,.int .i64 0,.int .i64 0,.int .i64 0,.int .i64 0,.int .i64 0,.int .i64 0,.int .i64 0,.int .i64 0,.int .i64 0])/\eW Tryz.prog 193=some ([.int .i64 0,.int .i64 0,.int .i64 0,.int .i64 0])/\eW Tryz.prog 195=some ([.map none])/\eW Tryz.prog 223=some ([.slice none 0 0])/\eW Tryz.prog 250=some ([.slice none 0 0,.bool false,.bool false,.bool false,.bool false,.bool false,.bool false,.bool false,.bool false,.bool false,.bool false,.bool false,.bool false,.bool false,.bool false,.bool false,.bool false,.bool false,.bool false,.bool false,.bool false,.bool false,.bool false,.bool false,.bool false,.bool false,.bool false,.bool false,.bool false,.bool false,.bool false,.bool false,.bool false,.bool false,.bool false,.bool false,.bool false,.bool false,.bool false,.bool false,.bool false,.bool false,.bool false,.bool false,.bool false,.bool false,.bool false,.bool false,.bool false,.bool false,.bool false,.bool false,.bool false,.bool false,.bool false,.bool false,.bool false,.bool false,.bool false,.bool false,.bool false,.bool false,.bool false,.bool false,.bool false,.bool false,.bool false,.bool false,.bool false,.bool false,.bool false,.bool false,.bool false,.bool false,.bool false,.bool false,.bool false,.bool false,.bool false,.bool false,.bool false,.bool false,.bool false,.bool false,.bool false,.bool false,.bool false,.bool false,.bool false,.bool false,.bool false,.bool false,.bool false,.bool false,.bool false,.bool false,.bool false,.bool false,.bool false,.bool false,.bool false,.bool false,.bool false,.bool false,.bool false,.bool false,.bool false,.bool false,.bool false,.bool false,.bool false,.bool false,.bool false,.bool false,.bool false,.bool false,.bool false,.bool false,.bool false,.bool false,.bool false,.bool false,.bool false,.bool false,.bool false,.bool false,.bool false,.bool false,.bool false,.bool false,.bool false,.bool false,.bool false,.bool false,.bool false,.bool false,.bool false,.bool false,.bool false,.bool false,.bool false,.bool false,.bool false,.bool false,.bool false,.bool false,.bool false,.bool false,.bool false,.bool false,.bool false,.bool false,.bool false,.bool false,.bool false,.bool false,.bool false,.bool false,.bool false,.bool false,.bool false,.bool false,.bool false,.bool false,.bool false,.bool false,.bool false,.bool false,.bool false,.bool false,.bool false,.bool false,.bool false,.bool false,.bool false,.bool false,.bool false,.bool false,.bool false,.bool false,.bool false,.bool false,.bool false,.bool false,.bool false,.bool false,.bool false,.bool false,.bool false,.bool false,.bool false,.bool false,.bool false,.bool false,.bool false,.bool false,.bool false,.bool false,.bool false,.bool false,.bool false,.bool false,.bool false,.bool false,.bool false,.bool false,.bool false,.bool false,.bool false,.bool false,.bool false,.bool false,.bool false,.bool false,.bool false,.bool false,.bool false,.bool false,.bool false,.bool false,.bool false,.bool false,.bool false,.bool false,.bool false,.bool false,.bool false,.bool false,.bool false,.bool false,.bool false,.bool false,.bool false,.bool false,.bool false,.bool false,.bool false,.bool false,.bool false,.bool false,.bool false,.bool false,.bool false,.bool false,.bool false,.bool false,.bool false,.bool false,.bool false,.bool false,.bool false,.bool false,.bool false,.bool false,.bool false,.bool false,.bool false])/\eW Tryz.prog 252=some ([.nilFunc])/\eW Tryz.prog 263=some ([.string ⟨#[]⟩,.slice none 0 0,.slice none 0 0,.slice none 0 0,.slice none 0 0,.slice none 0 0,.slice none 0 0])/\eW Tryz.prog 297=some ([.bool false,.bool false,.bool false,.bool false,.bool false,.bool false,.bool false,.bool false,.bool false,.bool false,.bool false,.bool false,.bool false,.bool false,.bool false,.bool false,.bool false,.bool false,.bool false,.bool false,.bool false,.bool false,.bool false,.bool false])/\eW Tryz.prog 300=some ([.int .i64 0,.int .i64 0,.int .i64 0,.int .i64 0])/\eW Tryz.prog 313=some ([.int .i64 0,.int .i64 0])/\eW Tryz.prog 327=some ([.nilFunc])/\eW Tryz.prog 329=some ([.string ⟨#[]⟩,.int .i64 0,.int .i64 0,.slice none 0 0,.slice none 0 0,.slice none 0 0,.int .i64 0,.int .i64 0,.slice none 0 0,.slice none 0 0,.slice none 0 0,.slice none 0 0,.slice none 0 0,.slice none 0 0,.string ⟨#[]⟩,.int .i64 0,.int .i64 0,.slice none 0 0,.slice none 0 0,.slice none 0 0,.int .i64 0,.int .i64 0,.slice none 0 0,.slice none 0 0,.slice none 0 0,.slice none 0 0,.slice none 0 0,.slice none 0 0]):=by
 repeat refine⟨bF,?_⟩
 kernel_rfl
theorem cUm:gV Tryz.prog 9=some (1)/\gV Tryz.prog 23=some (1)/\gV Tryz.prog 24=some (1)/\gV Tryz.prog 28=some (6)/\gV Tryz.prog 31=some (1)/\gV Tryz.prog 34=some (1)/\gV Tryz.prog 35=some (1)/\gV Tryz.prog 37=some (5)/\gV Tryz.prog 40=some (2)/\gV Tryz.prog 41=some (1)/\gV Tryz.prog 42=some (1)/\gV Tryz.prog 43=some (1)/\gV Tryz.prog 44=some (1)/\gV Tryz.prog 45=some (1)/\gV Tryz.prog 47=some (2)/\gV Tryz.prog 56=some (2)/\gV Tryz.prog 59=some (30)/\gV Tryz.prog 65=some (1)/\gV Tryz.prog 67=some (14)/\gV Tryz.prog 69=some (3)/\gV Tryz.prog 71=some (10)/\gV Tryz.prog 79=some (4)/\gV Tryz.prog 83=some (26)/\gV Tryz.prog 85=some (32)/\gV Tryz.prog 87=some (3)/\gV Tryz.prog 89=some (2)/\gV Tryz.prog 91=some (4)/\gV Tryz.prog 93=some (7)/\gV Tryz.prog 96=some (1)/\gV Tryz.prog 98=some (2)/\gV Tryz.prog 118=some (3)/\gV Tryz.prog 123=some (4)/\gV Tryz.prog 133=some (3)/\gV Tryz.prog 138=some (1)/\gV Tryz.prog 141=some (2)/\gV Tryz.prog 148=some (4)/\gV Tryz.prog 155=some (1)/\gV Tryz.prog 157=some (14)/\gV Tryz.prog 165=some (3)/\gV Tryz.prog 187=some (1):=by
 repeat refine⟨bF,?_⟩
 kernel_rfl
theorem cUj:gV Tryz.prog 191=some (16)/\gV Tryz.prog 193=some (4)/\gV Tryz.prog 252=some (1)/\gV Tryz.prog 261=some (1)/\gV Tryz.prog 263=some (7)/\gV Tryz.prog 300=some (4)/\aM Tryz.prog 7=true/\aM Tryz.prog 8=true/\aM Tryz.prog 10=true/\aM Tryz.prog 11=true/\aM Tryz.prog 12=true/\aM Tryz.prog 13=true/\aM Tryz.prog 14=true/\aM Tryz.prog 15=true/\aM Tryz.prog 16=true/\aM Tryz.prog 17=true/\aM Tryz.prog 18=true/\aM Tryz.prog 19=true/\aM Tryz.prog 20=true/\aM Tryz.prog 21=true/\aM Tryz.prog 22=true/\aM Tryz.prog 23=true/\aM Tryz.prog 24=true/\aM Tryz.prog 25=true/\aM Tryz.prog 26=true/\aM Tryz.prog 27=true/\aM Tryz.prog 28=true/\aM Tryz.prog 29=true/\aM Tryz.prog 30=true/\aM Tryz.prog 31=true/\aM Tryz.prog 32=true/\aM Tryz.prog 33=true/\aM Tryz.prog 34=true/\aM Tryz.prog 36=true/\aM Tryz.prog 37=true/\aM Tryz.prog 38=true/\aM Tryz.prog 39=true/\aM Tryz.prog 40=true/\aM Tryz.prog 41=true/\aM Tryz.prog 42=true:=by
 repeat refine⟨bF,?_⟩
 kernel_rfl
theorem cTv:aM Tryz.prog 43=true/\aM Tryz.prog 44=true/\aM Tryz.prog 45=true/\aM Tryz.prog 46=true/\aM Tryz.prog 47=true/\aM Tryz.prog 48=true/\aM Tryz.prog 49=true/\aM Tryz.prog 50=true/\aM Tryz.prog 51=true/\aM Tryz.prog 52=true/\aM Tryz.prog 55=true/\aM Tryz.prog 56=true/\aM Tryz.prog 57=true/\aM Tryz.prog 58=true/\aM Tryz.prog 59=true/\aM Tryz.prog 60=true/\aM Tryz.prog 61=true/\aM Tryz.prog 62=true/\aM Tryz.prog 64=true/\aM Tryz.prog 65=true/\aM Tryz.prog 66=true/\aM Tryz.prog 67=true/\aM Tryz.prog 68=true/\aM Tryz.prog 69=true/\aM Tryz.prog 70=true/\aM Tryz.prog 71=true/\aM Tryz.prog 72=true/\aM Tryz.prog 73=true/\aM Tryz.prog 74=true/\aM Tryz.prog 75=true/\aM Tryz.prog 76=true/\aM Tryz.prog 77=true/\aM Tryz.prog 78=true/\aM Tryz.prog 80=true/\aM Tryz.prog 81=true/\aM Tryz.prog 82=true/\aM Tryz.prog 83=true/\aM Tryz.prog 84=true/\aM Tryz.prog 85=true/\aM Tryz.prog 86=true:=by
 repeat refine⟨bF,?_⟩
 kernel_rfl
theorem cTz:aM Tryz.prog 87=true/\aM Tryz.prog 88=true/\aM Tryz.prog 89=true/\aM Tryz.prog 91=true/\aM Tryz.prog 92=true/\aM Tryz.prog 93=true/\aM Tryz.prog 94=true/\aM Tryz.prog 95=true/\aM Tryz.prog 96=true/\aM Tryz.prog 97=true/\aM Tryz.prog 98=true/\aM Tryz.prog 99=true/\aM Tryz.prog 100=true/\aM Tryz.prog 101=true/\aM Tryz.prog 104=true/\aM Tryz.prog 105=true/\aM Tryz.prog 106=true/\aM Tryz.prog 107=true/\aM Tryz.prog 108=true/\aM Tryz.prog 109=true/\aM Tryz.prog 110=true/\aM Tryz.prog 111=true/\aM Tryz.prog 112=true/\aM Tryz.prog 113=true/\aM Tryz.prog 114=true/\aM Tryz.prog 115=true/\aM Tryz.prog 116=true/\aM Tryz.prog 117=true/\aM Tryz.prog 118=true/\aM Tryz.prog 119=true/\aM Tryz.prog 122=true/\aM Tryz.prog 123=true/\aM Tryz.prog 124=true/\aM Tryz.prog 125=true/\aM Tryz.prog 126=true/\aM Tryz.prog 127=true/\aM Tryz.prog 128=true/\aM Tryz.prog 129=true/\aM Tryz.prog 131=true/\aM Tryz.prog 132=true:=by
 repeat refine⟨bF,?_⟩
 kernel_rfl
theorem cUb:aM Tryz.prog 133=true/\aM Tryz.prog 134=true/\aM Tryz.prog 135=true/\aM Tryz.prog 137=true/\aM Tryz.prog 138=true/\aM Tryz.prog 139=true/\aM Tryz.prog 140=true/\aM Tryz.prog 141=true/\aM Tryz.prog 142=true/\aM Tryz.prog 143=true/\aM Tryz.prog 144=true/\aM Tryz.prog 146=true/\aM Tryz.prog 147=true/\aM Tryz.prog 148=true/\aM Tryz.prog 150=true/\aM Tryz.prog 151=true/\aM Tryz.prog 152=true/\aM Tryz.prog 153=true/\aM Tryz.prog 154=true/\aM Tryz.prog 155=true/\aM Tryz.prog 156=true/\aM Tryz.prog 157=true/\aM Tryz.prog 158=true/\aM Tryz.prog 162=true/\aM Tryz.prog 163=true/\aM Tryz.prog 164=true/\aM Tryz.prog 176=true/\aM Tryz.prog 185=true/\aM Tryz.prog 186=true/\aM Tryz.prog 187=true/\aM Tryz.prog 189=true/\aM Tryz.prog 191=true/\aM Tryz.prog 192=true/\aM Tryz.prog 193=true/\aM Tryz.prog 194=true/\aM Tryz.prog 196=true/\aM Tryz.prog 198=true/\aM Tryz.prog 204=true/\aM Tryz.prog 208=true/\aM Tryz.prog 209=true:=by
 repeat refine⟨bF,?_⟩
 kernel_rfl
theorem cQq:aM Tryz.prog 210=true/\aM Tryz.prog 211=true/\aM Tryz.prog 214=true/\aM Tryz.prog 215=true/\aM Tryz.prog 216=true/\aM Tryz.prog 219=true/\aM Tryz.prog 224=true/\aM Tryz.prog 225=true/\aM Tryz.prog 230=true/\aM Tryz.prog 231=true/\aM Tryz.prog 232=true/\yT Tryz.prog 71=some ([1,3,1,1,1,1,1,1,1,1])/\yT Tryz.prog 87=some ([1,1,1])/\yT Tryz.prog 89=some ([1,1])/\yT Tryz.prog 141=some ([1,1])/\lJ Tryz.prog 28=true/\lJ Tryz.prog 37=true/\lJ Tryz.prog 40=true/\lJ Tryz.prog 47=true/\lJ Tryz.prog 56=true/\lJ Tryz.prog 59=true/\lJ Tryz.prog 67=true/\lJ Tryz.prog 69=true/\lJ Tryz.prog 71=true/\lJ Tryz.prog 79=true/\lJ Tryz.prog 83=true/\lJ Tryz.prog 85=true/\lJ Tryz.prog 87=true/\lJ Tryz.prog 89=true/\lJ Tryz.prog 91=true/\lJ Tryz.prog 93=true/\lJ Tryz.prog 123=true/\lJ Tryz.prog 141=true/\lJ Tryz.prog 157=true/\lJ Tryz.prog 165=true/\lJ Tryz.prog 193=true/\lJ Tryz.prog 250=true/\lJ Tryz.prog 263=true/\lJ Tryz.prog 313=true/\lJ Tryz.prog 329=true:=by
 repeat refine⟨bF,?_⟩
 kernel_rfl
theorem cPo:aSn Tryz.prog 207=some (.bool false)/\bT Tryz.prog 28 0=some (0)/\bT Tryz.prog 28 1=some (1)/\bT Tryz.prog 28 2=some (2)/\bT Tryz.prog 28 3=some (3)/\bT Tryz.prog 28 4=some (4)/\bT Tryz.prog 28 5=some (5)/\bT Tryz.prog 37 0=some (0)/\bT Tryz.prog 37 1=some (1)/\bT Tryz.prog 37 2=some (2)/\bT Tryz.prog 37 3=some (3)/\bT Tryz.prog 37 4=some (4)/\bT Tryz.prog 40 0=some (0)/\bT Tryz.prog 40 1=some (1)/\bT Tryz.prog 47 0=some (0)/\bT Tryz.prog 47 1=some (1)/\bT Tryz.prog 56 0=some (0)/\bT Tryz.prog 59 0=some (0)/\bT Tryz.prog 59 1=some (6)/\bT Tryz.prog 59 2=some (11)/\bT Tryz.prog 59 3=some (13)/\bT Tryz.prog 59 4=some (14)/\bT Tryz.prog 59 5=some (15)/\bT Tryz.prog 59 6=some (16)/\bT Tryz.prog 59 13=some (24)/\bT Tryz.prog 59 14=some (25)/\bT Tryz.prog 59 15=some (27)/\bT Tryz.prog 59 17=some (29)/\bT Tryz.prog 67 0=some (0)/\bT Tryz.prog 67 2=some (2)/\bT Tryz.prog 67 3=some (3)/\bT Tryz.prog 67 5=some (5)/\bT Tryz.prog 69 0=some (0)/\bT Tryz.prog 69 1=some (1)/\bT Tryz.prog 69 2=some (2)/\bT Tryz.prog 71 0=some (0)/\bT Tryz.prog 71 1=some (1)/\bT Tryz.prog 71 2=some (2)/\bT Tryz.prog 71 3=some (3)/\bT Tryz.prog 71 4=some (4):=by
 repeat refine⟨bF,?_⟩
 kernel_rfl
theorem cOr:bT Tryz.prog 71 5=some (5)/\bT Tryz.prog 71 6=some (6)/\bT Tryz.prog 71 7=some (7)/\bT Tryz.prog 71 8=some (8)/\bT Tryz.prog 71 9=some (9)/\bT Tryz.prog 79 0=some (0)/\bT Tryz.prog 83 0=some (0)/\bT Tryz.prog 85 0=some (0)/\bT Tryz.prog 85 4=some (6)/\bT Tryz.prog 87 0=some (0)/\bT Tryz.prog 87 1=some (1)/\bT Tryz.prog 87 2=some (2)/\bT Tryz.prog 89 0=some (0)/\bT Tryz.prog 89 1=some (1)/\bT Tryz.prog 91 0=some (0)/\bT Tryz.prog 91 1=some (1)/\bT Tryz.prog 91 2=some (3)/\bT Tryz.prog 93 0=some (0)/\bT Tryz.prog 93 1=some (1)/\bT Tryz.prog 93 2=some (2)/\bT Tryz.prog 93 3=some (3)/\bT Tryz.prog 93 4=some (4)/\bT Tryz.prog 93 5=some (5)/\bT Tryz.prog 93 6=some (6)/\bT Tryz.prog 98 0=some (0)/\bT Tryz.prog 98 1=some (1)/\bT Tryz.prog 106 0=some (0)/\bT Tryz.prog 118 0=some (0)/\bT Tryz.prog 118 1=some (1)/\bT Tryz.prog 118 2=some (2)/\bT Tryz.prog 123 0=some (0)/\bT Tryz.prog 123 1=some (2)/\bT Tryz.prog 133 0=some (0)/\bT Tryz.prog 133 1=some (1)/\bT Tryz.prog 133 2=some (2)/\bT Tryz.prog 141 0=some (0)/\bT Tryz.prog 141 1=some (1)/\bT Tryz.prog 148 0=some (0)/\bT Tryz.prog 148 1=some (1)/\bT Tryz.prog 148 2=some (2):=by
 repeat refine⟨bF,?_⟩
 kernel_rfl
theorem cNp:bT Tryz.prog 148 3=some (3)/\bT Tryz.prog 157 0=some (0)/\bT Tryz.prog 157 1=some (1)/\bT Tryz.prog 157 2=some (2)/\bT Tryz.prog 157 3=some (3)/\bT Tryz.prog 157 4=some (4)/\bT Tryz.prog 157 5=some (5)/\bT Tryz.prog 157 6=some (6)/\bT Tryz.prog 157 7=some (7)/\bT Tryz.prog 157 8=some (8)/\bT Tryz.prog 157 9=some (9)/\bT Tryz.prog 157 10=some (10)/\bT Tryz.prog 157 11=some (11)/\bT Tryz.prog 157 12=some (12)/\bT Tryz.prog 157 13=some (13)/\bT Tryz.prog 165 0=some (0)/\bT Tryz.prog 165 1=some (1)/\bT Tryz.prog 165 2=some (2)/\bT Tryz.prog 250 0=some (0)/\bT Tryz.prog 250 1=some (1)/\bT Tryz.prog 263 0=some (0)/\bT Tryz.prog 263 1=some (6)/\bT Tryz.prog 300 0=some (0)/\bT Tryz.prog 300 1=some (1)/\bT Tryz.prog 300 2=some (2)/\bT Tryz.prog 300 3=some (3)/\bT Tryz.prog 329 0=some (0)/\bT Tryz.prog 329 1=some (14)/\aJw Tryz.prog 87 0=some (0)/\fE Tryz.prog 28 0=some (0,1)/\fE Tryz.prog 28 1=some (1,1)/\fE Tryz.prog 28 2=some (2,1)/\fE Tryz.prog 28 3=some (3,1)/\fE Tryz.prog 28 4=some (4,1)/\fE Tryz.prog 28 5=some (5,1)/\fE Tryz.prog 37 3=some (3,1)/\fE Tryz.prog 37 4=some (4,1)/\fE Tryz.prog 40 0=some (0,1)/\fE Tryz.prog 56 0=some (0,1)/\fE Tryz.prog 56 1=some (1,1):=by
 repeat refine⟨bF,?_⟩
 kernel_rfl
theorem cSr:fE Tryz.prog 67 0=some (0,1)/\fE Tryz.prog 67 1=some (1,1)/\fE Tryz.prog 67 2=some (2,1)/\fE Tryz.prog 67 3=some (3,1)/\fE Tryz.prog 67 4=some (4,1)/\fE Tryz.prog 69 0=some (0,1)/\fE Tryz.prog 69 1=some (1,1)/\fE Tryz.prog 69 2=some (2,1)/\fE Tryz.prog 71 0=some (0,1)/\fE Tryz.prog 71 1=some (1,1)/\fE Tryz.prog 71 2=some (2,1)/\fE Tryz.prog 71 3=some (3,1)/\fE Tryz.prog 71 4=some (4,1)/\fE Tryz.prog 71 5=some (5,1)/\fE Tryz.prog 71 6=some (6,1)/\fE Tryz.prog 71 7=some (7,1)/\fE Tryz.prog 71 8=some (8,1)/\fE Tryz.prog 71 9=some (9,1)/\fE Tryz.prog 79 0=some (0,1)/\fE Tryz.prog 79 3=some (3,1)/\fE Tryz.prog 83 0=some (0,10)/\fE Tryz.prog 83 1=some (10,1)/\fE Tryz.prog 83 2=some (11,1)/\fE Tryz.prog 83 6=some (20,4)/\fE Tryz.prog 85 0=some (0,3)/\fE Tryz.prog 85 4=some (6,26)/\fE Tryz.prog 87 0=some (0,1)/\fE Tryz.prog 87 1=some (1,1)/\fE Tryz.prog 87 2=some (2,1)/\fE Tryz.prog 89 0=some (0,1)/\fE Tryz.prog 89 1=some (1,1)/\fE Tryz.prog 91 0=some (0,1)/\fE Tryz.prog 91 1=some (1,2)/\fE Tryz.prog 93 0=some (0,1)/\fE Tryz.prog 93 1=some (1,1)/\fE Tryz.prog 93 2=some (2,1)/\fE Tryz.prog 93 4=some (4,1)/\fE Tryz.prog 93 6=some (6,1)/\fE Tryz.prog 123 0=some (0,2)/\fE Tryz.prog 123 1=some (2,2):=by
 repeat refine⟨bF,?_⟩
 kernel_rfl
theorem cMw:fE Tryz.prog 141 0=some (0,1)/\fE Tryz.prog 141 1=some (1,1)/\fE Tryz.prog 157 0=some (0,1)/\fE Tryz.prog 157 1=some (1,1)/\fE Tryz.prog 157 2=some (2,1)/\fE Tryz.prog 157 3=some (3,1)/\fE Tryz.prog 157 4=some (4,1)/\fE Tryz.prog 157 5=some (5,1)/\fE Tryz.prog 157 6=some (6,1)/\fE Tryz.prog 157 7=some (7,1)/\fE Tryz.prog 165 0=some (0,1)/\fE Tryz.prog 165 1=some (1,1)/\fE Tryz.prog 250 0=some (0,1)/\fE Tryz.prog 263 0=some (0,6)/\fE Tryz.prog 313 0=some (0,2)/\fE Tryz.prog 329 0=some (0,14)/\fE Tryz.prog 329 1=some (14,14):=by
 repeat refine⟨bF,?_⟩
 kernel_rfl
attribute [go_sem] sz3 sz4 hb4 hb5 hb6 hb9 cUy cTn cUu cUw cTx cUm cUj cTv cTz cUb cQq cPo cOr cNp cSr cMw
theorem kR:Tryz.prog.follows .mixedOrders=true:=by kernel_rfl
abbrev o7 (n:Int):Prop:= -9223372036854775808<=n/\n<=9223372036854775807
abbrev bYz (s:ByteArray):Prop:=s.size<=140737488355328
structure mZ where
 xAq:ByteArray
 xAp:Int
 xAn:Int
 xCa:Int
 xBa:Int
 xCg:Int
 xBb:Int
 deriving DecidableEq,Inhabited
def gB (x:mZ):List DV:=[vs x.xAq,vi x.xAp,vi x.xAn,vi x.xCa,vi x.xBa,vi x.xCg,vi x.xBb]
def aFx (x:mZ):Prop:=bYz x.xAq/\o7 x.xAp/\o7 x.xAn/\o7 x.xCa/\o7 x.xBa/\o7 x.xCg/\o7 x.xBb
theorem aWx (l:List mZ) (xname:ByteArray) (xkind:Int) (xlength:Int) (xgrade:Int) (xspeed:Int) (xslow:Int) (xsection:Int):l.map gB++[[vs xname,vi xkind,vi xlength,vi xgrade,vi xspeed,vi xslow,vi xsection]]=(l++[(⟨xname,xkind,xlength,xgrade,xspeed,xslow,xsection⟩:mZ)]).map gB:=by simp[gB]
theorem bCb (l:List mZ):((List.range l.length).map fun i=>[vs (l.getD i default).xAq,vi (l.getD i default).xAp,vi (l.getD i default).xAn,vi (l.getD i default).xCa,vi (l.getD i default).xBa,vi (l.getD i default).xCg,vi (l.getD i default).xBb])=l.map gB:=mN gB l
structure fH where
 fEl:Int
 xAj:Int
 deriving DecidableEq,Inhabited
def fM (x:fH):List DV:=[vi x.fEl,vi x.xAj]
def bFr (x:fH):Prop:=o7 x.fEl/\o7 x.xAj
theorem bZd (l:List fH) (xel:Int) (xside:Int):l.map fM++[[vi xel,vi xside]]=(l++[(⟨xel,xside⟩:fH)]).map fM:=by simp[fM]
theorem cHb (l:List fH):((List.range l.length).map fun i=>[vi (l.getD i default).fEl,vi (l.getD i default).xAj])=l.map fM:=mN fM l
theorem mB (x y:fH):x=y↔x.fEl=y.fEl/\x.xAj=y.xAj:=by cases x;cases y;simp
structure l0 where
 fA:fH
 fB:fH
 deriving DecidableEq,Inhabited
def pU (x:l0):List DV:=[vi x.fA.fEl,vi x.fA.xAj,vi x.fB.fEl,vi x.fB.xAj]
def aUw (x:l0):Prop:=(bFr x.fA)/\(bFr x.fB)
theorem bQh (l:List l0):((List.range l.length).map fun i=>[vi (l.getD i default).fA.fEl,vi (l.getD i default).fA.xAj,vi (l.getD i default).fB.fEl,vi (l.getD i default).fB.xAj])=l.map pU:=mN pU l
structure mS where
 xAq:ByteArray
 fAt:fH
 xBn:Int
 deriving DecidableEq,Inhabited
def jW (x:mS):List DV:=[vs x.xAq,vi x.fAt.fEl,vi x.fAt.xAj,vi x.xBn]
def aOn (x:mS):Prop:=bYz x.xAq/\(bFr x.fAt)/\o7 x.xBn
theorem bJi (l:List mS):((List.range l.length).map fun i=>[vs (l.getD i default).xAq,vi (l.getD i default).fAt.fEl,vi (l.getD i default).fAt.xAj,vi (l.getD i default).xBn])=l.map jW:=mN jW l
structure tL where
 fId:Int
 fEl:Int
 xCe:Int
 deriving DecidableEq,Inhabited
def nY (x:tL):List DV:=[vi x.fId,vi x.fEl,vi x.xCe]
def aOc (x:tL):Prop:=o7 x.fId/\o7 x.fEl/\o7 x.xCe
theorem bJb (l:List tL):((List.range l.length).map fun i=>[vi (l.getD i default).fId,vi (l.getD i default).fEl,vi (l.getD i default).xCe])=l.map nY:=mN nY l
structure aC where
 xAq:ByteArray
 xAe:(List ByteArray)
 xAh:(List mZ)
 xAd:(List l0)
 xAa:(List mS)
 xAu:(List tL)
 deriving DecidableEq,Inhabited
def aQ (x:aC):List DV:=[vs x.xAq,encL 1 eS x.xAe,encL 7 gB x.xAh,encL 4 pU x.xAd,encL 4 jW x.xAa,encL 3 nY x.xAu]
def aDz (x:aC):Prop:=bYz x.xAq/\((∀a∈x.xAe,a.size<=140737488355328)/\x.xAe.length<=140737488355328)/\((∀a∈x.xAh,aFx a)/\x.xAh.length<=140737488355328)/\((∀a∈x.xAd,aUw a)/\x.xAd.length<=140737488355328)/\((∀a∈x.xAa,aOn a)/\x.xAa.length<=140737488355328)/\((∀a∈x.xAu,aOc a)/\x.xAu.length<=140737488355328)
structure bJ where
 fEl:Int
 fIn:Int
 xAv:Int
 deriving DecidableEq,Inhabited
def cV (x:bJ):List DV:=[vi x.fEl,vi x.fIn,vi x.xAv]
def bAp (x:bJ):Prop:=o7 x.fEl/\o7 x.fIn/\o7 x.xAv
theorem bLu (l:List bJ) (xel:Int) (xin:Int) (xout:Int):l.map cV++[[vi xel,vi xin,vi xout]]=(l++[(⟨xel,xin,xout⟩:bJ)]).map cV:=by simp[cV]
theorem cBp (l:List bJ):((List.range l.length).map fun i=>[vi (l.getD i default).fEl,vi (l.getD i default).fIn,vi (l.getD i default).xAv])=l.map cV:=mN cV l
theorem bYc (x y:bJ):x=y↔x.fEl=y.fEl/\x.fIn=y.fIn/\x.xAv=y.xAv:=by cases x;cases y;simp
structure aY where
 fEl:Int
 xAo:Int
 deriving DecidableEq,Inhabited
def bO (x:aY):List DV:=[vi x.fEl,vi x.xAo]
theorem aWu (l:List aY) (xel:Int) (xpos:Int):l.map bO++[[vi xel,vi xpos]]=(l++[(⟨xel,xpos⟩:aY)]).map bO:=by simp[bO]
theorem bDn (l:List aY):((List.range l.length).map fun i=>[vi (l.getD i default).fEl,vi (l.getD i default).xAo])=l.map bO:=mN bO l
theorem oZ (x y:aY):x=y↔x.fEl=y.fEl/\x.xAo=y.xAo:=by cases x;cases y;simp
structure bL where
 xAq:ByteArray
 xBh:Int
 xBd:Int
 xAf:(List bJ)
 xAk:(List aY)
 xAe:(List Int)
 xBg:Int
 xAn:Int
 xAl:(List bJ)
 xAs:(List aY)
 xAr:(List Int)
 xAy:(List aY)
 xBj:(List Int)
 xBk:(List fH)
 deriving DecidableEq,Inhabited
def bK (x:bL):List DV:=[vs x.xAq,vi x.xBh,vi x.xBd,encL 3 cV x.xAf,encL 2 bO x.xAk,encL 1 eI x.xAe,vi x.xBg,vi x.xAn,encL 3 cV x.xAl,encL 2 bO x.xAs,encL 1 eI x.xAr,encL 2 bO x.xAy,encL 1 eI x.xBj,encL 2 fM x.xBk]
theorem bVg (x y:bL):x=y↔x.xAq=y.xAq/\x.xBh=y.xBh/\x.xBd=y.xBd/\x.xAf=y.xAf/\x.xAk=y.xAk/\x.xAe=y.xAe/\x.xBg=y.xBg/\x.xAn=y.xAn/\x.xAl=y.xAl/\x.xAs=y.xAs/\x.xAr=y.xAr/\x.xAy=y.xAy/\x.xBj=y.xBj/\x.xBk=y.xBk:=by cases x;cases y;simp
structure dC where
 xAg:(List bL)
 xAk:(List Int)
 xBs:(List Int)
 xAe:Int
 xAa:Int
 deriving DecidableEq,Inhabited
def dQ (x:dC):List DV:=[encL 14 bK x.xAg,encL 1 eI x.xAk,encL 1 eI x.xBs,vi x.xAe,vi x.xAa]
theorem bLq (x y:dC):x=y↔x.xAg=y.xAg/\x.xAk=y.xAk/\x.xBs=y.xBs/\x.xAe=y.xAe/\x.xAa=y.xAa:=by cases x;cases y;simp
structure w9 where
 xDe:Int
 xDf:Int
 xCu:Int
 deriving DecidableEq,Inhabited
def iB (x:w9):List DV:=[vi x.xDe,vi x.xDf,vi x.xCu]
structure aIf where
 xAg:(List w9)
 xBz:(List Int)
 deriving DecidableEq,Inhabited
def o9 (x:aIf):List DV:=[encL 3 iB x.xAg,encL 1 eI x.xBz]
structure lO where
 xAo:Int
 xDg:Int
 xCu:Int
 deriving DecidableEq,Inhabited
def kL (x:lO):List DV:=[vi x.xAo,vi x.xDg,vi x.xCu]
theorem aOq (l:List lO) (i:Nat) (xpos:Int) (xgoal:Int) (xtimer:Int):(l.map kL).set i [vi xpos,vi xgoal,vi xtimer]=(l.set i (⟨xpos,xgoal,xtimer⟩:lO)).map kL:=by rw[List.map_set];rfl
structure eF where
 xAc:(List bJ)
 xBc:Int
 xAn:Int
 deriving DecidableEq,Inhabited
def jL (x:eF):List DV:=[encL 3 cV x.xAc,vi x.xBc,vi x.xAn]
def bQf (x:eF):Prop:=((∀a∈x.xAc,bAp a)/\x.xAc.length<=140737488355328)/\o7 x.xBc/\o7 x.xAn
structure cT where
 fId:Int
 xAq:ByteArray
 xAn:Int
 xBa:Int
 xBt:Int
 xBl:Int
 xBu:Int
 xBq:Int
 xBv:Int
 xBw:Int
 deriving DecidableEq,Inhabited
def gX (x:cT):List DV:=[vi x.fId,vs x.xAq,vi x.xAn,vi x.xBa,vi x.xBt,vi x.xBl,vi x.xBu,vi x.xBq,vi x.xBv,vi x.xBw]
def bHs (x:cT):Prop:=o7 x.fId/\bYz x.xAq/\o7 x.xAn/\o7 x.xBa/\o7 x.xBt/\o7 x.xBl/\o7 x.xBu/\o7 x.xBq/\o7 x.xBv/\o7 x.xBw
theorem bRp (x y:cT):x=y↔x.fId=y.fId/\x.xAq=y.xAq/\x.xAn=y.xAn/\x.xBa=y.xBa/\x.xBt=y.xBt/\x.xBl=y.xBl/\x.xBu=y.xBu/\x.xBq=y.xBq/\x.xBv=y.xBv/\x.xBw=y.xBw:=by cases x;cases y;simp
structure bRi where
 xCn:Int
 xCx:Int
 xBa:Int
 deriving DecidableEq,Inhabited
structure bFt where
 xCm:Int
 fTo:Int
 xCa:Int
 xBa:Int
 deriving DecidableEq,Inhabited
def aNz (x:bFt):List DV:=[vi x.xCm,vi x.fTo,vi x.xCa,vi x.xBa]
structure bVj where
 fId:Int
 fAt:Int
 deriving DecidableEq,Inhabited
def aSu (x:bVj):List DV:=[vi x.fId,vi x.fAt]
structure bIx where
 xCy:Int
 xCf:Int
 xCz:(List bFt)
 xDa:(List bVj)
 deriving DecidableEq,Inhabited
structure rC where
 xCl:Int
 xAv:Int
 fIn:Int
 xCv:Int
 deriving DecidableEq,Inhabited
def lT (x:rC):List DV:=[vi x.xCl,vi x.xAv,vi x.fIn,vi x.xCv]
theorem aZh (l:List rC) (xpeer:Int) (xout:Int) (xin:Int) (xheard:Int):l.map lT++[[vi xpeer,vi xout,vi xin,vi xheard]]=(l++[(⟨xpeer,xout,xin,xheard⟩:rC)]).map lT:=by simp[lT]
structure cUk where
 xDb:Bool
 xCi:Int
 deriving DecidableEq,Inhabited
structure Cab where
 xAt:cT
 xCs:Int
 xCt:Int
 xDc:Int
 xCj:bRi
 xCb:bIx
 xCc:rC
 xCo:cUk
 deriving DecidableEq,Inhabited
def bWx (x:Cab):List DV:=[vi x.xAt.fId,vs x.xAt.xAq,vi x.xAt.xAn,vi x.xAt.xBa,vi x.xAt.xBt,vi x.xAt.xBl,vi x.xAt.xBu,vi x.xAt.xBq,vi x.xAt.xBv,vi x.xAt.xBw,vi x.xCs,vi x.xCt,vi x.xDc,vi x.xCj.xCn,vi x.xCj.xCx,vi x.xCj.xBa,vi x.xCb.xCy,vi x.xCb.xCf,encL 4 aNz x.xCb.xCz,encL 2 aSu x.xCb.xDa,vi x.xCc.xCl,vi x.xCc.xAv,vi x.xCc.fIn,vi x.xCc.xCv,vb x.xCo.xDb,vi x.xCo.xCi]
structure iR where
 xAw:eF
 xBa:Int
 fX:Int
 xDh:Int
 xAx:Cab
 deriving DecidableEq,Inhabited
def qE (x:iR):List DV:=[encL 3 cV x.xAw.xAc,vi x.xAw.xBc,vi x.xAw.xAn,vi x.xBa,vi x.fX,vi x.xDh,vi x.xAx.xAt.fId,vs x.xAx.xAt.xAq,vi x.xAx.xAt.xAn,vi x.xAx.xAt.xBa,vi x.xAx.xAt.xBt,vi x.xAx.xAt.xBl,vi x.xAx.xAt.xBu,vi x.xAx.xAt.xBq,vi x.xAx.xAt.xBv,vi x.xAx.xAt.xBw,vi x.xAx.xCs,vi x.xAx.xCt,vi x.xAx.xDc,vi x.xAx.xCj.xCn,vi x.xAx.xCj.xCx,vi x.xAx.xCj.xBa,vi x.xAx.xCb.xCy,vi x.xAx.xCb.xCf,encL 4 aNz x.xAx.xCb.xCz,encL 2 aSu x.xAx.xCb.xDa,vi x.xAx.xCc.xCl,vi x.xAx.xCc.xAv,vi x.xAx.xCc.fIn,vi x.xAx.xCc.xCv,vb x.xAx.xCo.xDb,vi x.xAx.xCo.xCi]
structure aNy where
 fId:Int
 xDi:Int
 xCf:Int
 fAt:Int
 xAc:(List bJ)
 xAg:(List Int)
 xBr:(List Int)
 xDj:(List Int)
 xDk:(List Int)
 xCn:Int
 xDl:Int
 xDm:Int
 xDn:Int
 xDo:Int
 deriving DecidableEq,Inhabited
def pX (x:aNy):List DV:=[vi x.fId,vi x.xDi,vi x.xCf,vi x.fAt,encL 3 cV x.xAc,encL 1 eI x.xAg,encL 1 eI x.xBr,encL 1 eI x.xDj,encL 1 eI x.xDk,vi x.xCn,vi x.xDl,vi x.xDm,vi x.xDn,vi x.xDo]
structure aUs where
 xBm:(List aNy)
 xCp:(List rC)
 deriving DecidableEq,Inhabited
def rB (x:aUs):List DV:=[encL 14 pX x.xBm,encL 4 lT x.xCp]
structure bVz where
 xCm:Int
 fTo:Int
 xDp:Int
 xDq:ByteArray
 deriving DecidableEq,Inhabited
def bFm (x:bVz):List DV:=[vi x.xCm,vi x.fTo,vi x.xDp,vs x.xDq]
structure cEi where
 xAp:Int
 fAt:Int
 xCw:Int
 deriving DecidableEq,Inhabited
def bRj (x:cEi):List DV:=[vi x.xAp,vi x.fAt,vi x.xCw]
structure cQy where
 xAp:Int
 xDr:Int
 xCi:Int
 fBy:ByteArray
 deriving DecidableEq,Inhabited
def cEe (x:cQy):List DV:=[vi x.xAp,vi x.xDr,vi x.xCi,vs x.fBy]
structure aOb where
 xBb:Int
 xCi:Int
 fBy:ByteArray
 xDs:ByteArray
 deriving DecidableEq,Inhabited
def aIc (x:aOb):List DV:=[vi x.xBb,vi x.xCi,vs x.fBy,vs x.xDs]
structure aId where
 fId:Int
 fEl:Int
 xCm:Int
 fTo:Int
 xBa:Int
 xDt:Bool
 deriving DecidableEq,Inhabited
def aEn (x:aId):List DV:=[vi x.fId,vi x.fEl,vi x.xCm,vi x.fTo,vi x.xBa,vb x.xDt]
structure cEr where
 xAt:Int
 xAp:Int
 xCw:Int
 deriving DecidableEq,Inhabited
def bMy (x:cEr):List DV:=[vi x.xAt,vi x.xAp,vi x.xCw]
structure Stop where
 xBo:Int
 xBf:Int
 xBe:Int
 xBp:Int
 deriving DecidableEq,Inhabited
def pT (x:Stop):List DV:=[vi x.xBo,vi x.xBf,vi x.xBe,vi x.xBp]
def bCu (x:Stop):Prop:=o7 x.xBo/\o7 x.xBf/\o7 x.xBe/\o7 x.xBp
theorem cCu (l:List Stop):((List.range l.length).map fun i=>[vi (l.getD i default).xBo,vi (l.getD i default).xBf,vi (l.getD i default).xBe,vi (l.getD i default).xBp])=l.map pT:=mN pT l
structure bR where
 xAt:Int
 xAb:(List Stop)
 deriving DecidableEq,Inhabited
def kQ (x:bR):List DV:=[vi x.xAt,encL 4 pT x.xAb]
def bNr (x:bR):Prop:=o7 x.xAt/\((∀a∈x.xAb,bCu a)/\x.xAb.length<=140737488355328)
structure y9 where
 xBr:(List (List Int))
 xCq:Int
 deriving DecidableEq,Inhabited
def mP (x:y9):List DV:=[encL 1 (fun l:(List Int)=>[encL 1 eI l]) x.xBr,vi x.xCq]
structure aVt where
 fAt:Int
 xDu:Int
 xDv:Int
 xBo:Int
 xBq:Int
 deriving DecidableEq,Inhabited
def aQk (x:aVt):List DV:=[vi x.fAt,vi x.xDu,vi x.xDv,vi x.xBo,vi x.xBq]
structure cE where
 xAi:aC
 xAz:dC
 xCh:aIf
 xBx:(List lO)
 xCr:(List Bool)
 xAm:(List iR)
 xBi:aUs
 xDw:(List bVz)
 xDx:(List cEi)
 xDy:(List cQy)
 xDz:(List aOb)
 xEa:(List aId)
 xEb:(List cEr)
 xCd:(List bR)
 xCk:y9
 xBy:(List Int)
 xEc:(List aVt)
 xDd:Int
 deriving DecidableEq,Inhabited
def eQ (x:cE):List DV:=[vs x.xAi.xAq,encL 1 eS x.xAi.xAe,encL 7 gB x.xAi.xAh,encL 4 pU x.xAi.xAd,encL 4 jW x.xAi.xAa,encL 3 nY x.xAi.xAu,encL 14 bK x.xAz.xAg,encL 1 eI x.xAz.xAk,encL 1 eI x.xAz.xBs,vi x.xAz.xAe,vi x.xAz.xAa,encL 3 iB x.xCh.xAg,encL 1 eI x.xCh.xBz,encL 3 kL x.xBx,encL 1 eB x.xCr,encL 32 qE x.xAm,encL 14 pX x.xBi.xBm,encL 4 lT x.xBi.xCp,encL 4 bFm x.xDw,encL 3 bRj x.xDx,encL 4 cEe x.xDy,encL 4 aIc x.xDz,encL 6 aEn x.xEa,encL 3 bMy x.xEb,encL 2 kQ x.xCd,encL 1 (fun l:(List Int)=>[encL 1 eI l]) x.xCk.xBr,vi x.xCk.xCq,encL 1 eI x.xBy,encL 5 aQk x.xEc,vi x.xDd]
theorem bSa:Dec Tryz.prog 9 eS (fun s=>s.size<=140737488355328):=bBa Tryz.underlying9
theorem cOg:Dec Tryz.prog 22 (fun l:(List ByteArray)=>[encL 1 eS l]) (fun l=>(∀a∈l,a.size<=140737488355328)/\l.length<=140737488355328):=mL Tryz.underlying22 bF eN (dK bF) bSa (fun _=>rfl)
theorem o5:Dec Tryz.prog 3 eI (fun n=> -9223372036854775808<=n/\n<=9223372036854775807):=bYh Tryz.underlying3
theorem cTa:Dec Tryz.prog 93 gB aFx:=fun H enc w sp held fuel cs x h hw=>by
 obtain⟨a0,k0,r0⟩:=bY (s:=1) Tryz.underlying93 h hw 0 rfl bF bSa;obtain⟨a1,k1,r1⟩:=bY (s:=1) Tryz.underlying93 h hw 1 rfl bF o5;obtain⟨a2,k2,r2⟩:=bY (s:=1) Tryz.underlying93 h hw 2 rfl bF o5;obtain⟨a3,k3,r3⟩:=bY (s:=1) Tryz.underlying93 h hw 3 rfl bF o5;obtain⟨a4,k4,r4⟩:=bY (s:=1) Tryz.underlying93 h hw 4 rfl bF o5;obtain⟨a5,k5,r5⟩:=bY (s:=1) Tryz.underlying93 h hw 5 rfl bF o5;obtain⟨a6,k6,r6⟩:=bY (s:=1) Tryz.underlying93 h hw 6 rfl bF o5;have hl:cs.length=7:=by obtain⟨_,_,_,_,h1,_⟩:=DataW.trod_struct Tryz.underlying93 h;exact h1.trans bF
 exact⟨⟨a0,a1,a2,a3,a4,a5,a6⟩,⟨k0,k1,k2,k3,k4,k5,k6⟩,(RC.join (o:=0) (s:=1) r0 (RC.join (o:=1) (s:=1) r1 (RC.join (o:=2) (s:=1) r2 (RC.join (o:=3) (s:=1) r3 (RC.join (o:=4) (s:=1) r4 (RC.join (o:=5) (s:=1) r5 (RC.join (o:=6) (s:=1) r6 (RC.stop hl))))))))⟩
theorem cMn:Dec Tryz.prog 23 (fun l:(List mZ)=>[encL 7 gB l]) (fun l=>(∀a∈l,aFx a)/\l.length<=140737488355328):=mL Tryz.underlying23 bF eN (dK bF) cTa (fun _=>rfl)
theorem bTe:Dec Tryz.prog 89 fM bFr:=fun H enc w sp held fuel cs x h hw=>by
 obtain⟨a0,k0,r0⟩:=bY (s:=1) Tryz.underlying89 h hw 0 rfl bF o5;obtain⟨a1,k1,r1⟩:=bY (s:=1) Tryz.underlying89 h hw 1 rfl bF o5;have hl:cs.length=2:=by obtain⟨_,_,_,_,h1,_⟩:=DataW.trod_struct Tryz.underlying89 h;exact h1.trans bF
 exact⟨⟨a0,a1⟩,⟨k0,k1⟩,(RC.join (o:=0) (s:=1) r0 (RC.join (o:=1) (s:=1) r1 (RC.stop hl)))⟩
theorem cJh:Dec Tryz.prog 123 pU aUw:=fun H enc w sp held fuel cs x h hw=>by
 obtain⟨a0,k0,r0⟩:=bY (s:=2) Tryz.underlying123 h hw 0 rfl bF bTe;obtain⟨a1,k1,r1⟩:=bY (s:=2) Tryz.underlying123 h hw 1 rfl bF bTe;have hl:cs.length=4:=by obtain⟨_,_,_,_,h1,_⟩:=DataW.trod_struct Tryz.underlying123 h;exact h1.trans bF
 exact⟨⟨a0,a1⟩,⟨k0,k1⟩,(RC.join (o:=0) (s:=2) r0 (RC.join (o:=2) (s:=2) r1 (RC.stop hl)))⟩
theorem cNa:Dec Tryz.prog 24 (fun l:(List l0)=>[encL 4 pU l]) (fun l=>(∀a∈l,aUw a)/\l.length<=140737488355328):=mL Tryz.underlying24 bF eN (dK bF) cJh (fun _=>rfl)
theorem cQf:Dec Tryz.prog 91 jW aOn:=fun H enc w sp held fuel cs x h hw=>by
 obtain⟨a0,k0,r0⟩:=bY (s:=1) Tryz.underlying91 h hw 0 rfl bF bSa;obtain⟨a1,k1,r1⟩:=bY (s:=2) Tryz.underlying91 h hw 1 rfl bF bTe;obtain⟨a2,k2,r2⟩:=bY (s:=1) Tryz.underlying91 h hw 2 rfl bF o5;have hl:cs.length=4:=by obtain⟨_,_,_,_,h1,_⟩:=DataW.trod_struct Tryz.underlying91 h;exact h1.trans bF
 exact⟨⟨a0,a1,a2⟩,⟨k0,k1,k2⟩,(RC.join (o:=0) (s:=1) r0 (RC.join (o:=1) (s:=2) r1 (RC.join (o:=3) (s:=1) r2 (RC.stop hl))))⟩
theorem cNb:Dec Tryz.prog 25 (fun l:(List mS)=>[encL 4 jW l]) (fun l=>(∀a∈l,aOn a)/\l.length<=140737488355328):=mL Tryz.underlying25 bF eN (dK bF) cQf (fun _=>rfl)
theorem cKy:Dec Tryz.prog 133 nY aOc:=fun H enc w sp held fuel cs x h hw=>by
 obtain⟨a0,k0,r0⟩:=bY (s:=1) Tryz.underlying133 h hw 0 rfl bF o5;obtain⟨a1,k1,r1⟩:=bY (s:=1) Tryz.underlying133 h hw 1 rfl bF o5;obtain⟨a2,k2,r2⟩:=bY (s:=1) Tryz.underlying133 h hw 2 rfl bF o5;have hl:cs.length=3:=by obtain⟨_,_,_,_,h1,_⟩:=DataW.trod_struct Tryz.underlying133 h;exact h1.trans bF
 exact⟨⟨a0,a1,a2⟩,⟨k0,k1,k2⟩,(RC.join (o:=0) (s:=1) r0 (RC.join (o:=1) (s:=1) r1 (RC.join (o:=2) (s:=1) r2 (RC.stop hl))))⟩
theorem cPm:Dec Tryz.prog 26 (fun l:(List tL)=>[encL 3 nY l]) (fun l=>(∀a∈l,aOc a)/\l.length<=140737488355328):=mL Tryz.underlying26 bF eN (dK bF) cKy (fun _=>rfl)
theorem cNe:Dec Tryz.prog 28 aQ aDz:=fun H enc w sp held fuel cs x h hw=>by
 obtain⟨a0,k0,r0⟩:=bY (s:=1) Tryz.underlying28 h hw 0 rfl bF bSa;obtain⟨a1,k1,r1⟩:=bY (s:=1) Tryz.underlying28 h hw 1 rfl bF cOg;obtain⟨a2,k2,r2⟩:=bY (s:=1) Tryz.underlying28 h hw 2 rfl bF cMn;obtain⟨a3,k3,r3⟩:=bY (s:=1) Tryz.underlying28 h hw 3 rfl bF cNa;obtain⟨a4,k4,r4⟩:=bY (s:=1) Tryz.underlying28 h hw 4 rfl bF cNb;obtain⟨a5,k5,r5⟩:=bY (s:=1) Tryz.underlying28 h hw 5 rfl bF cPm;have hl:cs.length=6:=by obtain⟨_,_,_,_,h1,_⟩:=DataW.trod_struct Tryz.underlying28 h;exact h1.trans bF
 exact⟨⟨a0,a1,a2,a3,a4,a5⟩,⟨k0,k1,k2,k3,k4,k5⟩,(RC.join (o:=0) (s:=1) r0 (RC.join (o:=1) (s:=1) r1 (RC.join (o:=2) (s:=1) r2 (RC.join (o:=3) (s:=1) r3 (RC.join (o:=4) (s:=1) r4 (RC.join (o:=5) (s:=1) r5 (RC.stop hl)))))))⟩
theorem cSd:Dec Tryz.prog 87 cV bAp:=fun H enc w sp held fuel cs x h hw=>by
 obtain⟨a0,k0,r0⟩:=bY (s:=1) Tryz.underlying87 h hw 0 rfl bF o5;obtain⟨a1,k1,r1⟩:=bY (s:=1) Tryz.underlying87 h hw 1 rfl bF o5;obtain⟨a2,k2,r2⟩:=bY (s:=1) Tryz.underlying87 h hw 2 rfl bF o5;have hl:cs.length=3:=by obtain⟨_,_,_,_,h1,_⟩:=DataW.trod_struct Tryz.underlying87 h;exact h1.trans bF
 exact⟨⟨a0,a1,a2⟩,⟨k0,k1,k2⟩,(RC.join (o:=0) (s:=1) r0 (RC.join (o:=1) (s:=1) r1 (RC.join (o:=2) (s:=1) r2 (RC.stop hl))))⟩
theorem cOa:Dec Tryz.prog 65 (fun l:(List bJ)=>[encL 3 cV l]) (fun l=>(∀a∈l,bAp a)/\l.length<=140737488355328):=mL Tryz.underlying65 bF eN (dK bF) cSd (fun _=>rfl)
theorem cLv:Dec Tryz.prog 69 jL bQf:=fun H enc w sp held fuel cs x h hw=>by
 obtain⟨a0,k0,r0⟩:=bY (s:=1) Tryz.underlying69 h hw 0 rfl bF cOa;obtain⟨a1,k1,r1⟩:=bY (s:=1) Tryz.underlying69 h hw 1 rfl bF o5;obtain⟨a2,k2,r2⟩:=bY (s:=1) Tryz.underlying69 h hw 2 rfl bF o5;have hl:cs.length=3:=by obtain⟨_,_,_,_,h1,_⟩:=DataW.trod_struct Tryz.underlying69 h;exact h1.trans bF
 exact⟨⟨a0,a1,a2⟩,⟨k0,k1,k2⟩,(RC.join (o:=0) (s:=1) r0 (RC.join (o:=1) (s:=1) r1 (RC.join (o:=2) (s:=1) r2 (RC.stop hl))))⟩
theorem cRi:Dec Tryz.prog 71 gX bHs:=fun H enc w sp held fuel cs x h hw=>by
 obtain⟨a0,k0,r0⟩:=bY (s:=1) Tryz.underlying71 h hw 0 rfl bF o5;obtain⟨a1,k1,r1⟩:=bY (s:=1) Tryz.underlying71 h hw 1 rfl bF bSa;obtain⟨a2,k2,r2⟩:=bY (s:=1) Tryz.underlying71 h hw 2 rfl bF o5;obtain⟨a3,k3,r3⟩:=bY (s:=1) Tryz.underlying71 h hw 3 rfl bF o5;obtain⟨a4,k4,r4⟩:=bY (s:=1) Tryz.underlying71 h hw 4 rfl bF o5;obtain⟨a5,k5,r5⟩:=bY (s:=1) Tryz.underlying71 h hw 5 rfl bF o5;obtain⟨a6,k6,r6⟩:=bY (s:=1) Tryz.underlying71 h hw 6 rfl bF o5;obtain⟨a7,k7,r7⟩:=bY (s:=1) Tryz.underlying71 h hw 7 rfl bF o5;obtain⟨a8,k8,r8⟩:=bY (s:=1) Tryz.underlying71 h hw 8 rfl bF o5;obtain⟨a9,k9,r9⟩:=bY (s:=1) Tryz.underlying71 h hw 9 rfl bF o5;have hl:cs.length=10:=by obtain⟨_,_,_,_,h1,_⟩:=DataW.trod_struct Tryz.underlying71 h;exact h1.trans bF
 exact⟨⟨a0,a1,a2,a3,a4,a5,a6,a7,a8,a9⟩,⟨k0,k1,k2,k3,k4,k5,k6,k7,k8,k9⟩,(RC.join (o:=0) (s:=1) r0 (RC.join (o:=1) (s:=1) r1 (RC.join (o:=2) (s:=1) r2 (RC.join (o:=3) (s:=1) r3 (RC.join (o:=4) (s:=1) r4 (RC.join (o:=5) (s:=1) r5 (RC.join (o:=6) (s:=1) r6 (RC.join (o:=7) (s:=1) r7 (RC.join (o:=8) (s:=1) r8 (RC.join (o:=9) (s:=1) r9 (RC.stop hl)))))))))))⟩
theorem cGc:Dec Tryz.prog 148 pT bCu:=fun H enc w sp held fuel cs x h hw=>by
 obtain⟨a0,k0,r0⟩:=bY (s:=1) Tryz.underlying148 h hw 0 rfl bF o5;obtain⟨a1,k1,r1⟩:=bY (s:=1) Tryz.underlying148 h hw 1 rfl bF o5;obtain⟨a2,k2,r2⟩:=bY (s:=1) Tryz.underlying148 h hw 2 rfl bF o5;obtain⟨a3,k3,r3⟩:=bY (s:=1) Tryz.underlying148 h hw 3 rfl bF o5;have hl:cs.length=4:=by obtain⟨_,_,_,_,h1,_⟩:=DataW.trod_struct Tryz.underlying148 h;exact h1.trans bF
 exact⟨⟨a0,a1,a2,a3⟩,⟨k0,k1,k2,k3⟩,(RC.join (o:=0) (s:=1) r0 (RC.join (o:=1) (s:=1) r1 (RC.join (o:=2) (s:=1) r2 (RC.join (o:=3) (s:=1) r3 (RC.stop hl)))))⟩
theorem cQk:Dec Tryz.prog 96 (fun l:(List Stop)=>[encL 4 pT l]) (fun l=>(∀a∈l,bCu a)/\l.length<=140737488355328):=mL Tryz.underlying96 bF eN (dK bF) cGc (fun _=>rfl)
theorem cMa:Dec Tryz.prog 98 kQ bNr:=fun H enc w sp held fuel cs x h hw=>by
 obtain⟨a0,k0,r0⟩:=bY (s:=1) Tryz.underlying98 h hw 0 rfl bF o5;obtain⟨a1,k1,r1⟩:=bY (s:=1) Tryz.underlying98 h hw 1 rfl bF cQk;have hl:cs.length=2:=by obtain⟨_,_,_,_,h1,_⟩:=DataW.trod_struct Tryz.underlying98 h;exact h1.trans bF
 exact⟨⟨a0,a1⟩,⟨k0,k1⟩,(RC.join (o:=0) (s:=1) r0 (RC.join (o:=1) (s:=1) r1 (RC.stop hl)))⟩
theorem cMb:Dec Tryz.prog 31 (fun l:(List bR)=>[encL 2 kQ l]) (fun l=>(∀a∈l,bNr a)/\l.length<=140737488355328):=mL Tryz.underlying31 bF eN (dK bF) cMa (fun _=>rfl)
attribute [go_sem] gB aWx bCb fM bZd cHb pU bQh jW bJi nY bJb aQ cV bLu cBp bO aWu bDn bK dQ iB o9 kL aOq jL gX aNz aSu lT aZh bWx qE pX rB bFm bRj cEe aIc aEn bMy pT cCu kQ mP aQk eQ
end Go.Sg
