/- Several texts as one. -/
import Derived.Test.YtanpjnlhfdcicaaGreatDoorK1
set_option linter.unusedSectionVars false
set_option linter.unusedVariables false
set_option linter.unusedSimpArgs false
namespace Go.Sg
open Go.RowKit
open Go.Rv (FR)
def hi (ρ:aN):aN:=fun i=>if i<100000 then .any else ρ i
def keepC:List Nat->aN->aN
 | [],ρ=>hi ρ
 |l::L,ρ=>set (keepC L ρ) l (ρ l)
theorem aFw (ρ:aN):keepC [] ρ=hi ρ:=rfl
theorem xG (l:Nat) (L:List Nat) (ρ:aN):keepC (l::L) ρ=set (keepC L ρ) l (ρ l):=rfl
theorem zN (ρ:aN) {d:Nat} (x:DV) (h:d<100000):hi (set ρ d x)=hi ρ:=by
 funext i;unfold hi;split
 ·rfl
 rw[aK,if_neg aV]
theorem oX (ρ:aN) {d:Nat} (x:DV) (h: ¬d<100000):hi (set ρ d x)=set (hi ρ) d x:=by
 funext i;unfold hi;rw[aK,aK];by_cases e:i=d
 ·subst e;rw[if_neg h,if_pos rfl,if_pos rfl]
 rw[if_neg e,if_neg e]
theorem cCo (ρ:aN) (d:Nat):hi (d4 d ρ)=hi ρ:=by
 funext i;unfold hi;split
 ·rfl
 rename_i h;rw[wQ,if_neg h]
theorem aYd (O:aN):hi (bS O)=bS O:=by
 funext i;unfold hi;split
 ·rename_i h;rw[nG O h]
 rfl
theorem cPg (ρ:aN):hi (hi ρ)=hi ρ:=by
 funext i;unfold hi;split<;>rfl
theorem Le.hi (ρ:aN):Le ρ (hi ρ):=fun s=>by
 unfold Sg.hi;split
 ·exact Wk.any _
 exact Wk.refl _
theorem Le.keepC: ∀(L:List Nat) (ρ:aN),Le ρ (keepC L ρ)
 | [],ρ=>Le.hi ρ
 |l::L,ρ=>fun s=>by
  rw[xG,aK];split
  ·rename_i e;rw[e];exact Wk.refl _
  exact Le.keepC L ρ s
theorem bKs (O:aN) {i:Nat} (h:i<100000):bS O i=.any:=nG O h
def cY (ρ:aN):Option Nat->Prop
 |some k=>cK (ρ k)=false
 |none=>True
def aPp (P:Program) (ρ:aN) (f:FuncId) (l:List DV) (k:DV->Prop) (_:Tg k):Prop:= ∃r,cK r=false/\aZ P ρ f l r/\k r
def aRl (P:Program) (ρ:aN) (g:Bool) (pre:Prop) (f:FuncId) (l:List DV) (k:DV->Prop) (_:Tg k):Prop:= ∃r,lG r=true/\(g=true->pre/\aZ P ρ f l r)/\k r
def gcG (P:Program) (ρ:aN) (d:Option Nat) (g:Bool) (f:DV) (gs:Prop) (c:Option (FuncId×List DV)) (K:aN->Prop):Prop:=
 match c,d with
 |some (fid,l),some k=>aRl P ρ g (gd f/\gs/\aM P fid=true) fid l (fun r=>K (set ρ k (.cond g r))) ⟨⟩
 |_,_=>False
def gdG (P:Program) (ρ:aN) (op:Op) (d:Option Nat) (g:Option Bool) (K:aN->Prop):Prop:=
 match g with
 |none=>False
 |some g=>cY ρ d/\(match op with
  | .call c=>(match c.callee with
   | .value f=>gcG P ρ d g (ev ρ f) (gdL ρ c.args.toList) (callee (un (ev ρ f)) (evL ρ c.args.toList)) K
   |_=>(g=true->(eC P ρ op).1)/\lG (eC P ρ op).2=true/\K (cO ρ d (.cond g (eC P ρ op).2)))
  |op=>(g=true->(eC P ρ op).1)/\lG (eC P ρ op).2=true/\K (cO ρ d (.cond g (eC P ρ op).2)))
def pcG (P:Program) (ρ:aN) (d:Option Nat) (c:Option (FuncId×List DV)) (K:aN->Prop):Prop:=
 match c,d with
 |some (fid,l),some k=>aM P fid=true/\aPp P ρ fid l (fun r=>K (set ρ k r)) ⟨⟩
 |_,_=>False
def prG (P:Program) (ρ:aN) (op:Op) (d:Option Nat) (K:aN->Prop):Prop:=
 cY ρ d/\(match op with
  | .call c=>(match c.callee with
   | .value f=>gd (ev ρ f)/\gdL ρ c.args.toList/\pcG P ρ d (callee (un (ev ρ f)) (evL ρ c.args.toList)) K
   |_=>(eC P ρ op).1/\cK (eC P ρ op).2=false/\K (cO ρ d (eC P ρ op).2))
  |op=>(eC P ρ op).1/\cK (eC P ρ op).2=false/\K (cO ρ d (eC P ρ op).2))
def pwX (P:Program) (all:List Oper) (k:aN->Prop):List Oper->aN->Prop
 | [],ρ=>k ρ
 |o::os,ρ=>match o.guard with
  |none=>jO P ρ o.op o.dst (pwX P all k os)
  |some (j,want)=>gdG P ρ o.op o.dst (gAt all ρ j want) (pwX P all k os)
def pw (P:Program) (all:List Oper) (k:aN->Prop) (l:List Oper) (_:Tg (all,k,l)) (ρ:aN):Prop:=pwX P all k l ρ
def aYf (P:Program) (all:List Oper) (k:aN->Prop):List Oper->aN->Prop
 | [],ρ=>k ρ
 |o::os,ρ=>match o.guard with
  |none=>(match iJ o.op&&o.dst.isSome with
   |true=>prG P ρ o.op o.dst (aYf P all k os)
   |false=>jO P ρ o.op o.dst (aYf P all k os))
  |some (j,want)=>gdG P ρ o.op o.dst (gAt all ρ j want) (aYf P all k os)
def pwD (P:Program) (all:List Oper) (k:aN->Prop) (l:List Oper) (_:Tg (all,k,l)) (ρ:aN):Prop:=aYf P all k l ρ
section
variable {P:Program} {nt:Nat} {ρ:aN}
def gOk (o:Oper):Bool:=o.guard.isNone||(iJ o.op&&o.dst.isSome)
theorem aAf {all:List Oper} {o:Oper} {K:aN->Prop} {j:Nat} {want:Bool} (hg:o.guard=some (j,want)) (hp:(iJ o.op&&o.dst.isSome)=true) (h:gdG P ρ o.op o.dst (gAt all ρ j want) K): ∃d,uY P all ρ o d/\K (cO ρ o.dst d):=by
 unfold gdG at h;split at h
 ·exact h.elim
 rename_i g hgj;obtain⟨h1,h2⟩:=h;have hfree: ∀k,o.dst=some k->cK (ρ k)=false:=fun k hk=>by rw[hk] at h1;exact h1
 have gen:(g=true->(eC P ρ o.op).1)/\lG (eC P ρ o.op).2=true/\K (cO ρ o.dst (.cond g (eC P ρ o.op).2))->(∀f args ts,o.op≠ .call ⟨.value f,args,ts⟩)-> ∃d,uY P all ρ o d/\K (cO ρ o.dst d):=by
  rintro⟨k1,k2,k3⟩ hn;refine⟨_,⟨rfl,hfree,?_⟩,k3⟩;rw[hg];refine⟨g,_,hgj,rfl,k2,fun hgt=>?_⟩;have:=k1 hgt;cases hop:o.op with
  |call c=>
   obtain⟨cl,args,ts⟩:=c;cases cl with
   |value f=>exact absurd hop (hn f args ts)
   |_=>rw[hop] at this;exact⟨this,rfl⟩
  |_=>rw[hop] at this;exact⟨this,rfl⟩
 cases hop:o.op with
 |call c=>
  obtain⟨cl,args,ts⟩:=c;rw[hop] at h2;cases cl with
  |value f=>
   have h2:gcG P ρ o.dst g (ev ρ f) (gdL ρ args.toList) (callee (un (ev ρ f)) (evL ρ args.toList)) K:=h2;unfold gcG at h2;split at h2
   ·rename_i fid l k hc hk;obtain⟨r,r1,r2,r3⟩:=h2;refine⟨.cond g r,⟨rfl,hfree,?_⟩,by rw[hk];exact r3⟩;rw[hg];refine⟨g,r,hgj,rfl,r1,fun hgt=>?_⟩;rw[hop];obtain⟨⟨q1,q2,q3⟩,q4⟩:=r2 hgt;exact⟨q1,q2,fid,l,hc,q3,q4⟩
   exact h2.elim
  |_=>exact gen (by rw[hop];exact h2) (by simp[hop])
 |_=>exact gen (by rw[hop];rw[hop] at h2;exact h2) (by simp[hop])
theorem aDg {all:List Oper} {o:Oper} {K:aN->Prop} (hg:o.guard=none) (h:prG P ρ o.op o.dst K): ∃d,uY P all ρ o d/\K (cO ρ o.dst d):=by
 obtain⟨h1,h2⟩:=h;have hfree: ∀k,o.dst=some k->cK (ρ k)=false:=fun k hk=>by rw[hk] at h1;exact h1
 have gen:(eC P ρ o.op).1/\cK (eC P ρ o.op).2=false/\K (cO ρ o.dst (eC P ρ o.op).2)->(∀f args ts,o.op≠ .call ⟨.value f,args,ts⟩)-> ∃d,uY P all ρ o d/\K (cO ρ o.dst d):=by
  rintro⟨k1,k2,k3⟩ hn;refine⟨_,⟨k2,hfree,?_⟩,k3⟩;rw[hg];cases hop:o.op with
  |call c=>
   obtain⟨cl,args,ts⟩:=c;cases cl with
   |value f=>exact absurd hop (hn f args ts)
   |_=>rw[hop] at k1;exact⟨k1,rfl⟩
  |_=>rw[hop] at k1;exact⟨k1,rfl⟩
 cases hop:o.op with
 |call c=>
  obtain⟨cl,args,ts⟩:=c;rw[hop] at h2;cases cl with
  |value f=>
   obtain⟨q1,q2,q3⟩:=h2;unfold pcG at q3;split at q3
   ·rename_i fid l k hc hk;obtain⟨q3,r,r1,r2,r3⟩:=q3;refine⟨r,⟨r1,hfree,?_⟩,by rw[hk];exact r3⟩;rw[hg,hop];exact⟨q1,q2,fid,l,hc,q3,r2⟩
   exact q3.elim
  |_=>exact gen (by rw[hop];exact h2) (by simp[hop])
 |_=>exact gen (by rw[hop];rw[hop] at h2;exact h2) (by simp[hop])
theorem cDw {all:List Oper} {k:aN->Prop} (hr:sK nt all=true) (hgo:all.all gOk=true): ∀(l:List Oper) (ρ:aN),(∀o∈l,o∈all)->pwX P all k l ρ->RW P nt all.toArray k l ρ
 | [],ρ,_,h=>h
 |o::l,ρ,hm,h=>by
  have hrec:=fun ρ'=>cDw (k:=k) hr hgo l ρ' fun o' ho=>hm o' (by simp[ho]);obtain⟨i,hi⟩:=aEa (hm o dH);obtain⟨h1,h2⟩:=mQ hr hi;unfold pwX at h;unfold RW;split at h
  ·rename_i hg;exact (bV hg h1 h2 h).mono hrec
  rename_i j want hg;have hgk:=dI.1 hgo o (hm o dH);unfold gOk at hgk;rw[hg] at hgk;simp only[aMk,vE] at hgk;obtain⟨d,k1,k2⟩:=aAf hg hgk h;simp only[cD] at hgk;exact wL (qL hr) h1 h2 hgk.2 k1 (hrec _ k2)
theorem bEu {all:List Oper} {k:aN->Prop} (hr:sK nt all=true) (hgo:all.all gOk=true): ∀(l:List Oper) (ρ:aN),(∀o∈l,o∈all)->aYf P all k l ρ->aXo P nt all k l ρ
 | [],ρ,_,h=>h
 |o::l,ρ,hm,h=>by
  have hrec:=fun ρ'=>bEu (k:=k) hr hgo l ρ' fun o' ho=>hm o' (by simp[ho]);obtain⟨i,hi⟩:=aEa (hm o dH);obtain⟨h1,h2⟩:=mQ hr hi;unfold aYf at h;unfold aXo;split at h
  ·rename_i hg;split at h
   ·rename_i hp;rw[if_pos hp];obtain⟨d,k1,k2⟩:=aDg (all:=all) hg h;exact⟨d,k1,hrec _ k2⟩
   rename_i hp;rw[if_neg (by rw[hp];simp)];exact (bV hg h1 h2 h).mono hrec
  rename_i j want hg;have hgk:=dI.1 hgo o (hm o dH);unfold gOk at hgk;rw[hg] at hgk;simp only[aMk,vE] at hgk;obtain⟨d,k1,k2⟩:=aAf hg hgk h;rw[if_pos hgk];exact⟨d,k1,hrec _ k2⟩
def gM (nt:Nat) (l:List Oper):Bool:=sK nt l&&l.all gOk
theorem cS (L:List Nat) {id:Nat} {l:List Oper} {Q:Exit->aN->Prop} (hr:gM nt l=true) (h:pw P l (Q .normal) l ⟨⟩ (keepC L ρ)):AW P nt (.region id l.toArray false) Q ρ:=by
 simp only[gM,cD] at hr;exact cM (Le.keepC L ρ) (fU (cDw hr.1 hr.2 l _ (fun _ h=>h) h))
theorem cAa (L:List Nat) {id:Nat} {l:List Oper} {Q:Exit->aN->Prop} (hm:P.follows .mixedOrders=true) (hr:(gM nt l&&aSs l l.length 0 (Array.replicate l.length false))=true) (h:pwD P l (Q .normal) l ⟨⟩ (keepC L ρ)):AW P nt (.region id l.toArray true) Q ρ:=by
 simp only[gM,cD] at hr;exact cM (Le.keepC L ρ) (cBx hm hr.1.1 hr.2 (bEu hr.1.1 hr.1.2 l _ (fun _ h=>h) h))
theorem bUc {all:List Oper} {k:aN->Prop} (hr:sK nt all=true) (hgo:all.all gOk=true): ∀(l:List Oper) (ρ:aN),(∀o∈l,o∈all)->aYf P all k l ρ->RW P nt all.toArray k l ρ
 | [],ρ,_,h=>h
 |o::l,ρ,hm,h=>by
  have hrec:=fun ρ'=>bUc (k:=k) hr hgo l ρ' fun o' ho=>hm o' (by simp[ho]);obtain⟨i,hi⟩:=aEa (hm o dH);obtain⟨h1,h2⟩:=mQ hr hi;unfold aYf at h;unfold RW;split at h
  ·rename_i hg;split at h
   ·rename_i hp;obtain⟨d,k1,k2⟩:=aDg (all:=all) hg h;simp only[cD] at hp;exact wL (qL hr) h1 h2 hp.2 k1 (hrec _ k2)
   exact (bV hg h1 h2 h).mono hrec
  rename_i j want hg;have hgk:=dI.1 hgo o (hm o dH);unfold gOk at hgk;rw[hg] at hgk;simp only[aMk,vE] at hgk;obtain⟨d,k1,k2⟩:=aAf hg hgk h;simp only[cD] at hgk;exact wL (qL hr) h1 h2 hgk.2 k1 (hrec _ k2)
def clG:List (Nat×Nat)->(aN->Prop)->aN->Prop
 | [],K,ρ=>K ρ
 |(d,t)::l,K,ρ=>match ρ d,ρ t with
  | .own s n,.row e z xs=>s=t/\n=xs.length/\clG l K (set (d4 d (set (d4 t ρ) t .any)) d (iG d (iG t (.row e z xs))))
  | .bp s off,.bx cs=>s=t/\off=0/\clG l K (set (d4 d (set (d4 t ρ) t .any)) d (iG d (iG t (.bx cs))))
  |_,_=>clG l K ρ
theorem dB.claims: ∀(cl:List (Nat×Nat)) {K:aN->Prop} {ρ:aN} {w:World} {I:Nat->Prop} {A:dD} {a:Act},dB nt w I A ρ a->(cl.all fun p=>decide (p.1<nt)&&decide (p.2<nt)&&p.1 !=p.2)=true->clG cl K ρ->
  ∃A' ρ',dB nt w I A' ρ' a/\f8 w I A w I A'/\K ρ'
 | [],K,ρ,w,I,A,a,hs,_,h=>⟨A,ρ,hs,f8.refl _ _ _,h⟩
 |(d,t)::l,K,ρ,w,I,A,a,hs,hc,h=>by
  simp only[List.all_cons,cD,dR,bne_iff_ne] at hc;obtain⟨⟨⟨h1,h2⟩,h3⟩,h4⟩:=hc;unfold clG at h;split at h
  ·rename_i s n e z xs k1 k2;obtain⟨rfl,rfl,hk⟩:=h;obtain⟨A1,q1,q2⟩:=hs.claim h1 h2 (fC h3) (.inl ⟨e,z,xs,k1,k2⟩);rw[k2] at q1;obtain⟨A2,ρ2,r1,r2,r3⟩:=dB.claims l q1 h4 hk;exact⟨A2,ρ2,r1,q2.trans r2,r3⟩
  ·rename_i s off cs k1 k2;obtain⟨rfl,rfl,hk⟩:=h;obtain⟨A1,q1,q2⟩:=hs.claim h1 h2 (fC h3) (.inr ⟨cs,k1,k2⟩);rw[k2] at q1;obtain⟨A2,ρ2,r1,r2,r3⟩:=dB.claims l q1 h4 hk;exact⟨A2,ρ2,r1,q2.trans r2,r3⟩
  exact dB.claims l hs h4 h
theorem nP (L:List Nat) (cl:List (Nat×Nat)) {id:Nat} {l:List Oper} {Q:Exit->aN->Prop} (hm:P.follows .mixedOrders=true)
  (hr:(gM nt l&&aSs l l.length 0 (Array.replicate l.length false)&&cl.all fun p=>decide (p.1<nt)&&decide (p.2<nt)&&p.1 !=p.2)=true) (h:pwD P l (clG cl (Q .normal)) l ⟨⟩ (keepC L ρ)):AW P nt (.region id l.toArray true) Q ρ:=by
 rw[cD] at hr;have h1:=cAa (Q:=fun e ρ=>match e with| .normal=>clG cl (Q .normal) ρ|e=>Q e ρ) (id:=id) L hm hr.1 h;intro ro ds I A a w hs hd;refine wpIn_mono (h1 ro ds I A a w hs hd) ?_;intro e a1 w1 ⟨I1,A1,ρ1,k1,k2,k3,k4⟩;cases e with
 |normal=>
  obtain⟨A2,ρ2,r1,r2,r3⟩:=dB.claims cl k1 hr.2 k4;exact⟨I1,A2,ρ2,r1,k2,k3.trans r2,r3⟩
 |exit i=>exact⟨I1,A1,ρ1,k1,k2,k3,k4⟩
 |goto l=>exact⟨I1,A1,ρ1,k1,k2,k3,k4⟩
 |ret=>exact⟨I1,A1,ρ1,k1,k2,k3,k4⟩
 |panic ch=>exact⟨I1,A1,ρ1,k1,k2,k3,k4⟩
 |outgrown=>exact⟨I1,A1,ρ1,k1,k2,k3,k4⟩
theorem aNq (L:List Nat) (cl:List (Nat×Nat)) {id:Nat} {l:List Oper} {Q:Exit->aN->Prop}
  (hr:(gM nt l&&cl.all fun p=>decide (p.1<nt)&&decide (p.2<nt)&&p.1 !=p.2)=true) (h:pwD P l (clG cl (Q .normal)) l ⟨⟩ (keepC L ρ)):AW P nt (.region id l.toArray false) Q ρ:=by
 rw[cD] at hr;have hr1:=hr.1;simp only[gM,cD] at hr1;have h1:AW P nt (.region id l.toArray false) (fun e ρ=>match e with| .normal=>clG cl (Q .normal) ρ|e=>Q e ρ) ρ:=cM (Le.keepC L ρ) (fU (bUc hr1.1 hr1.2 l _ (fun _ h=>h) h));intro ro ds I A a w hs hd;refine wpIn_mono (h1 ro ds I A a w hs hd) ?_;intro e a1 w1 ⟨I1,A1,ρ1,k1,k2,k3,k4⟩;cases e with
 |normal=>
  obtain⟨A2,ρ2,r1,r2,r3⟩:=dB.claims cl k1 hr.2 k4;exact⟨I1,A2,ρ2,r1,k2,k3.trans r2,r3⟩
 |exit i=>exact⟨I1,A1,ρ1,k1,k2,k3,k4⟩
 |goto l=>exact⟨I1,A1,ρ1,k1,k2,k3,k4⟩
 |ret=>exact⟨I1,A1,ρ1,k1,k2,k3,k4⟩
 |panic ch=>exact⟨I1,A1,ρ1,k1,k2,k3,k4⟩
 |outgrown=>exact⟨I1,A1,ρ1,k1,k2,k3,k4⟩
theorem aX (L:List Nat) {c:Code} {Q:Exit->aN->Prop} (J:Nat->aN->Prop) (n₀:Nat) (h₀:J n₀ (keepC L ρ))
  (round: ∀n ρ,J n ρ-> ∀K:aN->Prop,(∀m ρ',m<n->J m (keepC L ρ')->K ρ')->AW P nt c (xV K Q) ρ):AW P nt (.loop c) Q ρ:=by
 refine cM (Le.keepC L ρ) (cCe (fun n ρ=> ∃ρ',J n ρ'/\Le ρ ρ') n₀ ⟨_,h₀,Le.refl _⟩ ?_);rintro n ρ1 ⟨ρ2,hJ,hle⟩ K hK;exact cM hle (round n ρ2 hJ K fun m ρ' hm hj=>hK m ρ' hm ⟨_,hj,Le.keepC L ρ'⟩)
theorem aWc {f:FuncId} {fn:Func} {c:Code} {O:aN} {args:List DV} {r:DV} (hf:P.funcs[f]?=some fn) (hb:fn.body=some c)
  (hn:(decide (args.length<=fn.ntmps)&&decide (fn.ntmps<=100000)&&fn.results.toList.all (fun v=>match v with| .tmp t=>decide (t<fn.ntmps)| .cell t _=>decide (t<fn.ntmps)))=true)
  (h:AW P fn.ntmps c (rZ P fn O fun O' r'=>O'=O/\r'=r) (nF O args)):aZ P O f args r:=kY hf hb hn h
theorem iK {ρ O:aN} (h:hi ρ=bS O) (s:Nat):ρ (s+100000)=sh (O s):=by
 have:=congrFun h (s+100000);rw[cI] at this;unfold hi at this;rw[if_neg aV] at this;exact this
theorem aEe {fn:Func} {O:aN} {r:DV} (h1:hi ρ=bS O) (h2:qI P ρ fn.results.toList r):rZ P fn O (fun O' r'=>O'=O/\r'=r) .ret ρ:=
 ⟨O,r,iK h1,fun _=>fR.refl _,fun _ h=>h,h2,rfl,rfl⟩
theorem jJ {f:FuncId} {l:List DV} {k:aN->DV->Prop} {t:Tg k} (r:DV) (h:aZ P ρ f l r) (hk:k ρ r):aHw P ρ f l k t:=⟨_,h,by rintro O' r' ⟨rfl,rfl⟩;exact hk⟩
@[congr] theorem AW_congr {c:Code} {Q:Exit->aN->Prop} {ρ ρ':aN} (h:ρ=ρ'):AW P nt c Q ρ=AW P nt c Q ρ':=by rw[h]
@[congr] theorem CallD_congr {f:FuncId} {l l':List DV} {k:DV->Prop} {t:Tg k} (h:l=l'):aPp P ρ f l k t=aPp P ρ f l' k t:=by rw[h]
@[congr] theorem CallG_congr {f:FuncId} {l l':List DV} {k:aN->DV->Prop} {t:Tg k} (h:l=l'):aHw P ρ f l k t=aHw P ρ f l' k t:=by rw[h]
@[congr] theorem CallC_congr {g g':Bool} {p p':Prop} {f:FuncId} {l l':List DV} {k:DV->Prop} {t:Tg k} (h:l=l') (hp:p=p') (hg:g=g'):aRl P ρ g p f l k t=aRl P ρ g' p' f l' k t:=by rw[h,hp,hg]
@[congr] theorem pw_congr {all l:List Oper} {k:aN->Prop} {t:Tg (all,k,l)} {ρ ρ':aN} (h:ρ=ρ'):pw P all k l t ρ=pw P all k l t ρ':=by rw[h]
@[congr] theorem pwD_congr {all l:List Oper} {k:aN->Prop} {t:Tg (all,k,l)} {ρ ρ':aN} (h:ρ=ρ'):pwD P all k l t ρ=pwD P all k l t ρ':=by rw[h]
section rules
variable (all os:List Oper) (k K:aN->Prop) (d:Option Tmp) (op:Op) (ty:TypeId) (pos:String) (af:Array Edge) (j:Nat) (want:Bool)
theorem cLd:pw P all k [] ⟨⟩ ρ=k ρ:=rfl
theorem bTb:pw P all k (⟨d,op,ty,pos,af,none⟩::os) ⟨⟩ ρ=jO P ρ op d (pw P all k os ⟨⟩):=rfl
theorem bLy:pw P all k (⟨d,op,ty,pos,af,some (j,want)⟩::os) ⟨⟩ ρ=gdG P ρ op d (gAt all ρ j want) (pw P all k os ⟨⟩):=rfl
theorem bZv:pwD P all k [] ⟨⟩ ρ=k ρ:=rfl
theorem bKa:pwD P all k (⟨d,op,ty,pos,af,none⟩::os) ⟨⟩ ρ=(match iJ op&&d.isSome with
   |true=>prG P ρ op d (pwD P all k os ⟨⟩)
   |false=>jO P ρ op d (pwD P all k os ⟨⟩)):=rfl
theorem bHz:pwD P all k (⟨d,op,ty,pos,af,some (j,want)⟩::os) ⟨⟩ ρ=gdG P ρ op d (gAt all ρ j want) (pwD P all k os ⟨⟩):=rfl
end rules
section rules
variable (K:aN->Prop) (d:Nat) (dd:Option Nat) (x y:Operand) (t t' t'':TypeId) (b:BinOp) (u:UnOp) (f i n:Nat) (a b' c:Operand)
theorem bRf:jO P ρ (.move x) dd K=(gd (ev ρ x)/\K (cO ρ dd (un (ev ρ x)))):=rfl
theorem cBz:jO P ρ (.assign (.tmp n)) (some d) K=bMq ρ d n (ρ n) K:=rfl
theorem bNg (v:Value):jO P ρ (.assign (.const v)) dd K=(gd (ev ρ (.const v))/\K (cO ρ dd (un (ev ρ (.const v))))):=rfl
theorem bVi:jO P ρ (.assign (.func f)) dd K=(gd (ev ρ (.func f))/\K (cO ρ dd (un (ev ρ (.func f))))):=rfl
theorem bOt:jO P ρ (.pick c a b') dd K=((aIe (ev ρ c) (ev ρ a) (ev ρ b')).1/\K (cO ρ dd (aIe (ev ρ c) (ev ρ a) (ev ρ b')).2)):=rfl
theorem bUe:jO P ρ (.load t x) dd K=((gd (ev ρ x)/\(pM ρ (eA P t) (un (ev ρ x))).1)/\K (cO ρ dd (pM ρ (eA P t) (un (ev ρ x))).2)):=rfl
theorem bYn:jO P ρ (.nilCheck x) dd K=((gd (ev ρ x)/\(aTk (un (ev ρ x))).1)/\K (cO ρ dd (aTk (un (ev ρ x))).2)):=rfl
theorem bXl:jO P ρ (.binOp b t x y t') dd K=bWd P ρ b t x y dd K:=rfl
theorem cIo:jO P ρ (.unOp u t x) dd K=((gd (ev ρ x)/\(unP u (un (ev ρ x))).1)/\K (cO ρ dd (unP u (un (ev ρ x))).2)):=rfl
theorem bQr:jO P ρ (.convert t t' x) dd K=(((gd (ev ρ x)/\(P.underlying t).isSome=true)/\(aBn (aOt P t') (un (ev ρ x))).1)/\K (cO ρ dd (aBn (aOt P t') (un (ev ρ x))).2)):=rfl
theorem bXh:jO P ρ (.fieldAddr t x f) dd K=((gd (ev ρ x)/\(aSp (bT P t f) (un (ev ρ x))).1)/\K (cO ρ dd (aSp (bT P t f) (un (ev ρ x))).2)):=rfl
theorem cHe:jO P ρ (.field t x f) dd K=((gd (ev ρ x)/\(fvP (aJw P t f) (un (ev ρ x))).1)/\K (cO ρ dd (fvP (aJw P t f) (un (ev ρ x))).2)):=rfl
theorem bYy:jO P ρ (.indexAddr t x y) dd K=(((gd (ev ρ x)/\gd (ev ρ y))/\(yE ρ (fZ P t) (un (ev ρ x)) (un (ev ρ y))).1)/\K (cO ρ dd (yE ρ (fZ P t) (un (ev ρ x)) (un (ev ρ y))).2)):=rfl
theorem cIs:jO P ρ (.index t x y) dd K=(((gd (ev ρ x)/\gd (ev ρ y))/\(atP (fZ P t) (eA P t) (tk P t) (un (ev ρ x)) (un (ev ρ y))).1)/\K (cO ρ dd (atP (fZ P t) (eA P t) (tk P t) (un (ev ρ x)) (un (ev ρ y))).2)):=rfl
theorem bZj (lo h':Option Operand):jO P ρ (.slice t x lo h' none) dd K=(((gd (ev ρ x)/\(∀y∈lo,gd (ev ρ y))/\ ∀y∈h',gd (ev ρ y))/\(aAm ρ (fZ P t) (tk P t) (un (ev ρ x)) (lo.map fun y=>un (ev ρ y)) (h'.map fun y=>un (ev ρ y))).1)/\
   K (cO ρ dd (aAm ρ (fZ P t) (tk P t) (un (ev ρ x)) (lo.map fun y=>un (ev ρ y)) (h'.map fun y=>un (ev ρ y))).2)):=rfl
theorem cCk:jO P ρ (.extract x i) dd K=((gd (ev ρ x)/\(aSv (un (ev ρ x)) i).1)/\K (cO ρ dd (aSv (un (ev ρ x)) i).2)):=rfl
theorem cHm (fn:Fn) (l m:Array Operand):jO P ρ (.makeFunc fn l m) dd K=((fnP ρ fn l.toList m.toList).1/\K (cO ρ dd (fnP ρ fn l.toList m.toList).2)):=rfl
theorem bZa:jO P ρ (.box t x) (some d) K=cFy ρ d (ev ρ x) K:=rfl
theorem bJg:jO P ρ (.alloc t) (some d) K=aOf ρ d (eW P t) K:=rfl
theorem bIw:jO P ρ (.store t x y) none K=stG ρ (gV P t) (ev ρ x) (ev ρ y) K:=rfl
theorem cGr:jO P ρ (.makeSlice t x y) (some d) K=mkG P ρ d (nE P t) (ev ρ x) (ev ρ y) K:=rfl
theorem bYi (parts:Array (Nat×Operand)):jO P ρ (.buildSlice t n parts) (some d) K=bNn P ρ d (nE P t) n parts.toList K:=rfl
theorem cJx:jO P ρ (.lookup t x y false) dd K=lkG ρ dd (aSn P t) (ev ρ x) (ev ρ y) K:=rfl
theorem cKr:jO P ρ (.mapUpdate t x y c) none K=upG ρ (aSn P t) (ev ρ x) (ev ρ y) (ev ρ c) K:=rfl
theorem cCn:jO P ρ (.makeMap t none) (some d) K=K (set (d4 d ρ) d (.mo [])):=rfl
theorem cAx:jO P ρ (.call ⟨.builtin .len,#[x],#[t]⟩) dd K=((gd (ev ρ x)/\(aWv (tk P t) (un (ev ρ x))).1)/\K (cO ρ dd (aWv (tk P t) (un (ev ρ x))).2)):=rfl
theorem bXq:jO P ρ (.call ⟨.builtin .max,#[x,y],#[t,t']⟩) dd K=(((gd (ev ρ x)/\gd (ev ρ y))/\(bCh [un (ev ρ x),un (ev ρ y)]).1)/\K (cO ρ dd (bCh [un (ev ρ x),un (ev ρ y)]).2)):=rfl
theorem bZs:jO P ρ (.call ⟨.builtin .min,#[x,y],#[t,t']⟩) dd K=(((gd (ev ρ x)/\gd (ev ρ y))/\(bAn [un (ev ρ x),un (ev ρ y)]).1)/\K (cO ρ dd (bAn [un (ev ρ x),un (ev ρ y)]).2)):=rfl
theorem cBg:jO P ρ (.call ⟨.builtin .append,#[x,y],#[t,t']⟩) (some d) K=(t=t'/\cAf P ρ d (nE P t) (ev ρ x) (ev ρ y) K):=rfl
theorem bSd (args:Array Operand) (ts:Array TypeId):jO P ρ (.call ⟨.value x,args,ts⟩) (some d) K=
  (gd (ev ρ x)/\gdL ρ args.toList/\aSc P (callee (un (ev ρ x)) (evL ρ args.toList))/\cCa P ρ d (callee (un (ev ρ x)) (evL ρ args.toList)) K):=rfl
theorem cBb (args:Array Operand) (ts:Array TypeId):prG P ρ (.call ⟨.value x,args,ts⟩) dd K=(cY ρ dd/\gd (ev ρ x)/\gdL ρ args.toList/\pcG P ρ dd (callee (un (ev ρ x)) (evL ρ args.toList)) K):=rfl
theorem cGi (parts:Array (Nat×Operand)):prG P ρ (.buildSlice t n parts) dd K=(cY ρ dd/\(aJe P ρ (nE P t) n parts.toList).1/\cK (aJe P ρ (nE P t) n parts.toList).2=false/\K (cO ρ dd (aJe P ρ (nE P t) n parts.toList).2)):=rfl
theorem bZg (g:Bool) (args:Array Operand) (ts:Array TypeId):gdG P ρ (.call ⟨.value x,args,ts⟩) dd (some g) K=(cY ρ dd/\gcG P ρ dd g (ev ρ x) (gdL ρ args.toList) (callee (un (ev ρ x)) (evL ρ args.toList)) K):=rfl
end rules
theorem cGw {b:Builtin} {args:Array Operand} {ts:Array TypeId} {dd:Option Nat} {K:aN->Prop}:prG P ρ (.call ⟨.builtin b,args,ts⟩) dd K=(cY ρ dd/\(aFe P ρ b args.toList ts.toList).1/\cK (aFe P ρ b args.toList ts.toList).2=false/\K (cO ρ dd (aFe P ρ b args.toList ts.toList).2)):=rfl
theorem cJg {b:Builtin} {args:Array Operand} {ts:Array TypeId} {dd:Option Nat} {g:Bool} {K:aN->Prop}:gdG P ρ (.call ⟨.builtin b,args,ts⟩) dd (some g) K=
  (cY ρ dd/\(g=true->(aFe P ρ b args.toList ts.toList).1)/\lG (aFe P ρ b args.toList ts.toList).2=true/\K (cO ρ dd (.cond g (aFe P ρ b args.toList ts.toList).2))):=rfl
section rules
variable (x y a b' c:Operand) (t t':TypeId) (b:BinOp) (u:UnOp) (f i:Nat)
theorem bMw:eC P ρ (.move x)=(gd (ev ρ x),un (ev ρ x)):=rfl
theorem cBa:eC P ρ (.assign x)=(gd (ev ρ x),un (ev ρ x)):=rfl
theorem bNx:eC P ρ (.pick c a b')=aIe (ev ρ c) (ev ρ a) (ev ρ b'):=rfl
theorem bMs:eC P ρ (.load t x)=(gd (ev ρ x)/\(pM ρ (eA P t) (un (ev ρ x))).1,(pM ρ (eA P t) (un (ev ρ x))).2):=rfl
theorem bXi:eC P ρ (.nilCheck x)=(gd (ev ρ x)/\(aTk (un (ev ρ x))).1,(aTk (un (ev ρ x))).2):=rfl
theorem bWo:eC P ρ (.binOp b t x y t')=((gd (ev ρ x)/\gd (ev ρ y))/\(aOs (yT P t) (tk P t) b (un (ev ρ x)) (un (ev ρ y))).1,(aOs (yT P t) (tk P t) b (un (ev ρ x)) (un (ev ρ y))).2):=rfl
theorem cGs:eC P ρ (.unOp u t x)=(gd (ev ρ x)/\(unP u (un (ev ρ x))).1,(unP u (un (ev ρ x))).2):=rfl
theorem bUy:eC P ρ (.convert t t' x)=((gd (ev ρ x)/\(P.underlying t).isSome=true)/\(aBn (aOt P t') (un (ev ρ x))).1,(aBn (aOt P t') (un (ev ρ x))).2):=rfl
theorem bXc:eC P ρ (.fieldAddr t x f)=(gd (ev ρ x)/\(aSp (bT P t f) (un (ev ρ x))).1,(aSp (bT P t f) (un (ev ρ x))).2):=rfl
theorem cJp:eC P ρ (.field t x f)=(gd (ev ρ x)/\(fvP (aJw P t f) (un (ev ρ x))).1,(fvP (aJw P t f) (un (ev ρ x))).2):=rfl
theorem bZq:eC P ρ (.indexAddr t x y)=((gd (ev ρ x)/\gd (ev ρ y))/\(yE ρ (fZ P t) (un (ev ρ x)) (un (ev ρ y))).1,(yE ρ (fZ P t) (un (ev ρ x)) (un (ev ρ y))).2):=rfl
theorem cLe:eC P ρ (.index t x y)=((gd (ev ρ x)/\gd (ev ρ y))/\(atP (fZ P t) (eA P t) (tk P t) (un (ev ρ x)) (un (ev ρ y))).1,(atP (fZ P t) (eA P t) (tk P t) (un (ev ρ x)) (un (ev ρ y))).2):=rfl
theorem bWz (lo h':Option Operand):eC P ρ (.slice t x lo h' none)=((gd (ev ρ x)/\(∀y∈lo,gd (ev ρ y))/\ ∀y∈h',gd (ev ρ y))/\(aAm ρ (fZ P t) (tk P t) (un (ev ρ x)) (lo.map fun y=>un (ev ρ y)) (h'.map fun y=>un (ev ρ y))).1,
   (aAm ρ (fZ P t) (tk P t) (un (ev ρ x)) (lo.map fun y=>un (ev ρ y)) (h'.map fun y=>un (ev ρ y))).2):=rfl
theorem bXj:eC P ρ (.extract x i)=(gd (ev ρ x)/\(aSv (un (ev ρ x)) i).1,(aSv (un (ev ρ x)) i).2):=rfl
theorem cHr (fn:Fn) (l m:Array Operand):eC P ρ (.makeFunc fn l m)=fnP ρ fn l.toList m.toList:=rfl
end rules
section rules
variable (x y a b' c:Operand) (t t':TypeId) (b:BinOp) (u:UnOp) (f i:Nat) (lo h':Option Operand) (fn:Fn) (l m:Array Operand) (dd:Option Nat) (g:Bool) (K:aN->Prop)
theorem cAo:prG P ρ (.move x) dd K=(cY ρ dd/\(eC P ρ (.move x)).1/\cK (eC P ρ (.move x)).2=false/\K (cO ρ dd (eC P ρ (.move x)).2)):=rfl
theorem bYv:gdG P ρ (.move x) dd (some g) K=(cY ρ dd/\(g=true->(eC P ρ (.move x)).1)/\lG (eC P ρ (.move x)).2=true/\K (cO ρ dd (.cond g (eC P ρ (.move x)).2))):=rfl
theorem cFh:prG P ρ (.assign x) dd K=(cY ρ dd/\(eC P ρ (.assign x)).1/\cK (eC P ρ (.assign x)).2=false/\K (cO ρ dd (eC P ρ (.assign x)).2)):=rfl
theorem cGe:gdG P ρ (.assign x) dd (some g) K=(cY ρ dd/\(g=true->(eC P ρ (.assign x)).1)/\lG (eC P ρ (.assign x)).2=true/\K (cO ρ dd (.cond g (eC P ρ (.assign x)).2))):=rfl
theorem cBd:prG P ρ (.pick c a b') dd K=(cY ρ dd/\(eC P ρ (.pick c a b')).1/\cK (eC P ρ (.pick c a b')).2=false/\K (cO ρ dd (eC P ρ (.pick c a b')).2)):=rfl
theorem bZo:gdG P ρ (.pick c a b') dd (some g) K=(cY ρ dd/\(g=true->(eC P ρ (.pick c a b')).1)/\lG (eC P ρ (.pick c a b')).2=true/\K (cO ρ dd (.cond g (eC P ρ (.pick c a b')).2))):=rfl
theorem bYd:prG P ρ (.load t x) dd K=(cY ρ dd/\(eC P ρ (.load t x)).1/\cK (eC P ρ (.load t x)).2=false/\K (cO ρ dd (eC P ρ (.load t x)).2)):=rfl
theorem bWr:gdG P ρ (.load t x) dd (some g) K=(cY ρ dd/\(g=true->(eC P ρ (.load t x)).1)/\lG (eC P ρ (.load t x)).2=true/\K (cO ρ dd (.cond g (eC P ρ (.load t x)).2))):=rfl
theorem cFj:prG P ρ (.nilCheck x) dd K=(cY ρ dd/\(eC P ρ (.nilCheck x)).1/\cK (eC P ρ (.nilCheck x)).2=false/\K (cO ρ dd (eC P ρ (.nilCheck x)).2)):=rfl
theorem cLb:gdG P ρ (.nilCheck x) dd (some g) K=(cY ρ dd/\(g=true->(eC P ρ (.nilCheck x)).1)/\lG (eC P ρ (.nilCheck x)).2=true/\K (cO ρ dd (.cond g (eC P ρ (.nilCheck x)).2))):=rfl
theorem cFn:prG P ρ (.binOp b t x y t') dd K=(cY ρ dd/\(eC P ρ (.binOp b t x y t')).1/\cK (eC P ρ (.binOp b t x y t')).2=false/\K (cO ρ dd (eC P ρ (.binOp b t x y t')).2)):=rfl
theorem cHq:gdG P ρ (.binOp b t x y t') dd (some g) K=(cY ρ dd/\(g=true->(eC P ρ (.binOp b t x y t')).1)/\lG (eC P ρ (.binOp b t x y t')).2=true/\K (cO ρ dd (.cond g (eC P ρ (.binOp b t x y t')).2))):=rfl
theorem cNx:prG P ρ (.unOp u t x) dd K=(cY ρ dd/\(eC P ρ (.unOp u t x)).1/\cK (eC P ρ (.unOp u t x)).2=false/\K (cO ρ dd (eC P ρ (.unOp u t x)).2)):=rfl
theorem cMe:gdG P ρ (.unOp u t x) dd (some g) K=(cY ρ dd/\(g=true->(eC P ρ (.unOp u t x)).1)/\lG (eC P ρ (.unOp u t x)).2=true/\K (cO ρ dd (.cond g (eC P ρ (.unOp u t x)).2))):=rfl
theorem cCm:prG P ρ (.convert t t' x) dd K=(cY ρ dd/\(eC P ρ (.convert t t' x)).1/\cK (eC P ρ (.convert t t' x)).2=false/\K (cO ρ dd (eC P ρ (.convert t t' x)).2)):=rfl
theorem cAe:gdG P ρ (.convert t t' x) dd (some g) K=(cY ρ dd/\(g=true->(eC P ρ (.convert t t' x)).1)/\lG (eC P ρ (.convert t t' x)).2=true/\K (cO ρ dd (.cond g (eC P ρ (.convert t t' x)).2))):=rfl
theorem cJl:prG P ρ (.fieldAddr t x f) dd K=(cY ρ dd/\(eC P ρ (.fieldAddr t x f)).1/\cK (eC P ρ (.fieldAddr t x f)).2=false/\K (cO ρ dd (eC P ρ (.fieldAddr t x f)).2)):=rfl
theorem cLq:gdG P ρ (.fieldAddr t x f) dd (some g) K=(cY ρ dd/\(g=true->(eC P ρ (.fieldAddr t x f)).1)/\lG (eC P ρ (.fieldAddr t x f)).2=true/\K (cO ρ dd (.cond g (eC P ρ (.fieldAddr t x f)).2))):=rfl
theorem cTc:prG P ρ (.field t x f) dd K=(cY ρ dd/\(eC P ρ (.field t x f)).1/\cK (eC P ρ (.field t x f)).2=false/\K (cO ρ dd (eC P ρ (.field t x f)).2)):=rfl
theorem cRx:gdG P ρ (.field t x f) dd (some g) K=(cY ρ dd/\(g=true->(eC P ρ (.field t x f)).1)/\lG (eC P ρ (.field t x f)).2=true/\K (cO ρ dd (.cond g (eC P ρ (.field t x f)).2))):=rfl
theorem cIu:prG P ρ (.indexAddr t x y) dd K=(cY ρ dd/\(eC P ρ (.indexAddr t x y)).1/\cK (eC P ρ (.indexAddr t x y)).2=false/\K (cO ρ dd (eC P ρ (.indexAddr t x y)).2)):=rfl
theorem cIp:gdG P ρ (.indexAddr t x y) dd (some g) K=(cY ρ dd/\(g=true->(eC P ρ (.indexAddr t x y)).1)/\lG (eC P ρ (.indexAddr t x y)).2=true/\K (cO ρ dd (.cond g (eC P ρ (.indexAddr t x y)).2))):=rfl
theorem cMf:prG P ρ (.index t x y) dd K=(cY ρ dd/\(eC P ρ (.index t x y)).1/\cK (eC P ρ (.index t x y)).2=false/\K (cO ρ dd (eC P ρ (.index t x y)).2)):=rfl
theorem cOn:gdG P ρ (.index t x y) dd (some g) K=(cY ρ dd/\(g=true->(eC P ρ (.index t x y)).1)/\lG (eC P ρ (.index t x y)).2=true/\K (cO ρ dd (.cond g (eC P ρ (.index t x y)).2))):=rfl
theorem cFq:prG P ρ (.slice t x lo h' none) dd K=(cY ρ dd/\(eC P ρ (.slice t x lo h' none)).1/\cK (eC P ρ (.slice t x lo h' none)).2=false/\K (cO ρ dd (eC P ρ (.slice t x lo h' none)).2)):=rfl
theorem cIg:gdG P ρ (.slice t x lo h' none) dd (some g) K=(cY ρ dd/\(g=true->(eC P ρ (.slice t x lo h' none)).1)/\lG (eC P ρ (.slice t x lo h' none)).2=true/\K (cO ρ dd (.cond g (eC P ρ (.slice t x lo h' none)).2))):=rfl
theorem cGz:prG P ρ (.extract x i) dd K=(cY ρ dd/\(eC P ρ (.extract x i)).1/\cK (eC P ρ (.extract x i)).2=false/\K (cO ρ dd (eC P ρ (.extract x i)).2)):=rfl
theorem cLr:gdG P ρ (.extract x i) dd (some g) K=(cY ρ dd/\(g=true->(eC P ρ (.extract x i)).1)/\lG (eC P ρ (.extract x i)).2=true/\K (cO ρ dd (.cond g (eC P ρ (.extract x i)).2))):=rfl
theorem cOf:prG P ρ (.makeFunc fn l m) dd K=(cY ρ dd/\(eC P ρ (.makeFunc fn l m)).1/\cK (eC P ρ (.makeFunc fn l m)).2=false/\K (cO ρ dd (eC P ρ (.makeFunc fn l m)).2)):=rfl
theorem cRa:gdG P ρ (.makeFunc fn l m) dd (some g) K=(cY ρ dd/\(g=true->(eC P ρ (.makeFunc fn l m)).1)/\lG (eC P ρ (.makeFunc fn l m)).2=true/\K (cO ρ dd (.cond g (eC P ρ (.makeFunc fn l m)).2))):=rfl
theorem bVt (parts:Array (Nat×Operand)):prG P ρ (.build t parts) dd K=(cY ρ dd/\(uS P ρ t parts.toList).1/\cK (uS P ρ t parts.toList).2=false/\K (cO ρ dd (uS P ρ t parts.toList).2)):=rfl
theorem bSu (parts:Array (Nat×Operand)):gdG P ρ (.build t parts) dd (some g) K=(cY ρ dd/\(g=true->(uS P ρ t parts.toList).1)/\lG (uS P ρ t parts.toList).2=true/\K (cO ρ dd (.cond g (uS P ρ t parts.toList).2))):=rfl
theorem bIz (parts:Array (Nat×Operand)):jO P ρ (.build t parts) dd K=((uS P ρ t parts.toList).1/\K (cO ρ dd (uS P ρ t parts.toList).2)):=rfl
theorem bTj (i:Nat) (x:Operand) (l:List (Nat×Operand)) (cs:List DV):qK P ρ t ((i,x)::l) cs=(match fE P t i with
  |some (off,s)=>(gd (ev ρ x)/\(cW (un (ev ρ x))).length=s/\0<s/\off+s<=cs.length/\(qK P ρ t l (spl off (cW (un (ev ρ x))) cs)).1,(qK P ρ t l (spl off (cW (un (ev ρ x))) cs)).2)
  |none=>(False,cs)):=rfl
theorem cQx:prG P ρ (.makeSlice t x y) dd K=(cY ρ dd/\(mkP P (nE P t) (ev ρ x) (ev ρ y)).1/\cK (mkP P (nE P t) (ev ρ x) (ev ρ y)).2=false/\K (cO ρ dd (mkP P (nE P t) (ev ρ x) (ev ρ y)).2)):=rfl
theorem cQs:gdG P ρ (.makeSlice t x y) dd (some g) K=(cY ρ dd/\(g=true->(mkP P (nE P t) (ev ρ x) (ev ρ y)).1)/\lG (mkP P (nE P t) (ev ρ x) (ev ρ y)).2=true/\K (cO ρ dd (.cond g (mkP P (nE P t) (ev ρ x) (ev ρ y)).2))):=rfl
theorem cHv (n:Nat) (parts:Array (Nat×Operand)):gdG P ρ (.buildSlice t n parts) dd (some g) K=(cY ρ dd/\(g=true->(aJe P ρ (nE P t) n parts.toList).1)/\lG (aJe P ρ (nE P t) n parts.toList).2=true/\K (cO ρ dd (.cond g (aJe P ρ (nE P t) n parts.toList).2))):=rfl
end rules
theorem bNk (O:aN) (l:List DV):nF O l=wV 0 l (bS O):=rfl
theorem xH (K:aN->Prop) (Q:Exit->aN->Prop) (ρ:aN):xV K Q .normal ρ=K ρ:=rfl
theorem qM (K:aN->Prop) (Q:Exit->aN->Prop) (ρ:aN):xV K Q .ret ρ=Q .ret ρ:=rfl
theorem qO (K:aN->Prop) (Q:Exit->aN->Prop) (i:Nat) (ρ:aN):xV K Q (.exit i) ρ=Q (.exit i) ρ:=rfl
theorem mO (i:Nat) (Q:Exit->aN->Prop) (ρ:aN):vB i Q .normal ρ=Q .normal ρ:=rfl
theorem o8 (i:Nat) (Q:Exit->aN->Prop) (ρ:aN):vB i Q .ret ρ=Q .ret ρ:=rfl
theorem pG (i j:Nat) (Q:Exit->aN->Prop) (ρ:aN):vB i Q (.exit j) ρ=if j=i then Q .normal ρ else Q (.exit j) ρ:=rfl
end
attribute [go_sem] cJx cKr cCn lkG upG cLd bTb bLy bZv bKa bHz bRf cBz bNg bVi bOt bUe bYn bXl cIo bQr bXh cHe bYy cIs bZj cCk cHm bZa bJg bIw cGr bYi cAx bXq bZs cBg bSd cBb cGi bZg cAo bYv cFh cGe cBd bZo bYd bWr cFj cLb cFn cHq cNx cMe cCm cAe cJl cLq cTc cRx cIu cIp cMf cOn cFq cIg cGz cLr cOf cRa cHv cQx cQs mkP bVt bSu bIz bJq bTj uS cGw cJg bMw cBa bNx bMs bXi bWo cGs bUy bXc cJp bZq cLe bWz bXj cHr iJ aHm bQb bWl aHl cv rd un gd aK dE bLf wQ uN iG fL d6 cK lG cY clG bMq cFy aOf stG stB stR mkG bNn cAf cHs aDr qD aJf bsL cW spl gAt gW bWd cOe aTc bOn aOs bUg eqL bMo bWb bMx unP aWv aIe bQg cut aRc bGo pM aSp fvP yE atP aAm aBn aSv aTk bCh bAn aFe fnP gdL evL callee aSc cCa pcG gcG aJe bSy aFw xG zN cCo aYd cPg bKs bNk aHx aEi yF kT xH qM qO mO o8 pG jE jC imp_self implies_true forall_const aEd List.getElem?_cons_zero List.getElem?_nil oS oK kH sI qH aPq iP List.drop_succ_cons List.take_zero aHc List.set_cons_zero List.set_cons_succ kZ yS wA List.headD_cons gG Option.map_none Option.isSome_some Option.isSome_none Bool.and_true zG aBt aYa beq_self_eq_true Bool.cond_true Bool.cond_false iD gH Option.mem_def bX forall_eq' aHu aJe gN false_implies
end Go.Sg
