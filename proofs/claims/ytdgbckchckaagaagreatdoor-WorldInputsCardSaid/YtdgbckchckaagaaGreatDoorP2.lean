/- Several texts as one. -/
import Derived.Test.YtdgbckchckaagaaGreatDoorP1
set_option linter.unusedSectionVars false
set_option linter.unusedVariables false
set_option linter.unusedSimpArgs false
namespace Go.Sg
open Go.RowKit
open Go.Rv (FR)
def hi (ρ:aV):aV:=fun i=>if i<100000 then .any else ρ i
def keepC:List Nat→aV→aV
 | [],ρ=>hi ρ
 |l::L,ρ=>set (keepC L ρ) l (ρ l)
theorem yH (ρ:aV):keepC [] ρ=hi ρ:=rfl
theorem o0 (l:Nat) (L:List Nat) (ρ:aV):keepC (l::L) ρ=set (keepC L ρ) l (ρ l):=rfl
theorem bNh (ρ:aV) {d:Nat} (x:DV) (h:d<100000):hi (set ρ d x)=hi ρ:=by
 funext i;unfold hi;split
 ·rfl
 rw[bC,if_neg aN]
theorem bGh (ρ:aV) {d:Nat} (x:DV) (h: ¬d<100000):hi (set ρ d x)=set (hi ρ) d x:=by
 funext i;unfold hi;rw[bC,bC];by_cases e:i=d
 ·subst e;rw[if_neg h,if_pos rfl,if_pos rfl]
 rw[if_neg e,if_neg e]
theorem bJd (ρ:aV) (d:Nat):hi (dG d ρ)=hi ρ:=by
 funext i;unfold hi;split
 ·rfl
 rename_i h;rw[tK,if_neg h]
theorem aZs (O:aV):hi (g7 O)=g7 O:=by
 funext i;unfold hi;split
 ·rename_i h;rw[oG O h]
 rfl
theorem bTz (ρ:aV):hi (hi ρ)=hi ρ:=by
 funext i;unfold hi;split<;>rfl
theorem Le.hi (ρ:aV):Le ρ (hi ρ):=fun s=>by
 unfold Sg.hi;split
 ·exact Wk.any _
 exact Wk.refl _
theorem Le.keepC: ∀(L:List Nat) (ρ:aV),Le ρ (keepC L ρ)
 | [],ρ=>Le.hi ρ
 |l::L,ρ=>fun s=>by
  rw[o0,bC];split
  ·rename_i e;rw[e];exact Wk.refl _
  exact Le.keepC L ρ s
theorem aTz (O:aV) {i:Nat} (h:i<100000):g7 O i=.any:=oG O h
def aIe (ρ:aV):Option Nat→Prop
 |some k=>bX (ρ k)=false
 |none=>True
def aNg (P:Program) (ρ:aV) (f:FuncId) (l:List DV) (k:DV→Prop) (_:Tg k):Prop:= ∃r,bX r=false∧bB P ρ f l r∧k r
def aKd (P:Program) (ρ:aV) (g:Bool) (pre:Prop) (f:FuncId) (l:List DV) (k:DV→Prop) (_:Tg k):Prop:= ∃r,lO r=true∧(g=true→pre∧bB P ρ f l r)∧k r
def gcG (P:Program) (ρ:aV) (d:Option Nat) (g:Bool) (f:DV) (gs:Prop) (c:Option (FuncId×List DV)) (K:aV→Prop):Prop:=
 match c,d with
 |some (fid,l),some k=>aKd P ρ g (gd f∧gs∧aO P fid=true) fid l (fun r=>K (set ρ k (.cond g r))) ⟨⟩
 |_,_=>False
def gdG (P:Program) (ρ:aV) (op:Op) (d:Option Nat) (g:Option Bool) (K:aV→Prop):Prop:=
 match g with
 |none=>False
 |some g=>aIe ρ d∧(match op with
  | .call c=>(match c.callee with
   | .value f=>gcG P ρ d g (ev ρ f) (gdL ρ c.args.toList) (callee (un (ev ρ f)) (evL ρ c.args.toList)) K
   |_=>(g=true→(gR P ρ op).1)∧lO (gR P ρ op).2=true∧K (putD ρ d (.cond g (gR P ρ op).2)))
  |op=>(g=true→(gR P ρ op).1)∧lO (gR P ρ op).2=true∧K (putD ρ d (.cond g (gR P ρ op).2)))
def pcG (P:Program) (ρ:aV) (d:Option Nat) (c:Option (FuncId×List DV)) (K:aV→Prop):Prop:=
 match c,d with
 |some (fid,l),some k=>aO P fid=true∧aNg P ρ fid l (fun r=>K (set ρ k r)) ⟨⟩
 |_,_=>False
def prG (P:Program) (ρ:aV) (op:Op) (d:Option Nat) (K:aV→Prop):Prop:=
 aIe ρ d∧(match op with
  | .call c=>(match c.callee with
   | .value f=>gd (ev ρ f)∧gdL ρ c.args.toList∧pcG P ρ d (callee (un (ev ρ f)) (evL ρ c.args.toList)) K
   |_=>(gR P ρ op).1∧bX (gR P ρ op).2=false∧K (putD ρ d (gR P ρ op).2))
  |op=>(gR P ρ op).1∧bX (gR P ρ op).2=false∧K (putD ρ d (gR P ρ op).2))
def pwX (P:Program) (all:List Oper) (k:aV→Prop):List Oper→aV→Prop
 | [],ρ=>k ρ
 |o::os,ρ=>match o.guard with
  |none=>aEk P ρ o.op o.dst (pwX P all k os)
  |some (j,want)=>gdG P ρ o.op o.dst (gAt all ρ j want) (pwX P all k os)
def pw (P:Program) (all:List Oper) (k:aV→Prop) (l:List Oper) (_:Tg (all,k,l)) (ρ:aV):Prop:=pwX P all k l ρ
def aVu (P:Program) (all:List Oper) (k:aV→Prop):List Oper→aV→Prop
 | [],ρ=>k ρ
 |o::os,ρ=>match o.guard with
  |none=>(match dT o.op&&o.dst.isSome with
   |true=>prG P ρ o.op o.dst (aVu P all k os)
   |false=>aEk P ρ o.op o.dst (aVu P all k os))
  |some (j,want)=>gdG P ρ o.op o.dst (gAt all ρ j want) (aVu P all k os)
def pwD (P:Program) (all:List Oper) (k:aV→Prop) (l:List Oper) (_:Tg (all,k,l)) (ρ:aV):Prop:=aVu P all k l ρ
section
variable {P:Program} {nt:Nat} {ρ:aV}
def gOk (o:Oper):Bool:=o.guard.isNone||(dT o.op&&o.dst.isSome)
theorem sG {all:List Oper} {o:Oper} {K:aV→Prop} {j:Nat} {want:Bool} (hg:o.guard=some (j,want)) (hp:(dT o.op&&o.dst.isSome)=true) (h:gdG P ρ o.op o.dst (gAt all ρ j want) K): ∃d,gY P all ρ o d∧K (putD ρ o.dst d):=by
 unfold gdG at h;split at h
 ·exact h.elim
 rename_i g hgj;obtain ⟨h1,h2⟩:=h;have hfree: ∀k,o.dst=some k→bX (ρ k)=false:=fun k hk=>by rw[hk] at h1;exact h1
 have gen:(g=true→(gR P ρ o.op).1)∧lO (gR P ρ o.op).2=true∧K (putD ρ o.dst (.cond g (gR P ρ o.op).2))→(∀f args ts,o.op≠ .call ⟨.value f,args,ts⟩)→ ∃d,gY P all ρ o d∧K (putD ρ o.dst d):=by
  rintro ⟨k1,k2,k3⟩ hn;refine ⟨_,⟨rfl,hfree,?_⟩,k3⟩;rw[hg];refine ⟨g,_,hgj,rfl,k2,fun hgt=>?_⟩;have:=k1 hgt;cases hop:o.op with
  |call c=>
   obtain ⟨cl,args,ts⟩:=c;cases cl with
   |value f=>exact absurd hop (hn f args ts)
   |_=>rw[hop] at this;exact ⟨this,rfl⟩
  |_=>rw[hop] at this;exact ⟨this,rfl⟩
 cases hop:o.op with
 |call c=>
  obtain ⟨cl,args,ts⟩:=c;rw[hop] at h2;cases cl with
  |value f=>
   have h2:gcG P ρ o.dst g (ev ρ f) (gdL ρ args.toList) (callee (un (ev ρ f)) (evL ρ args.toList)) K:=h2;unfold gcG at h2;split at h2
   ·rename_i fid l k hc hk;obtain ⟨r,r1,r2,r3⟩:=h2;refine ⟨.cond g r,⟨rfl,hfree,?_⟩,by rw[hk];exact r3⟩;rw[hg];refine ⟨g,r,hgj,rfl,r1,fun hgt=>?_⟩;rw[hop];obtain ⟨⟨q1,q2,q3⟩,q4⟩:=r2 hgt;exact ⟨q1,q2,fid,l,hc,q3,q4⟩
   exact h2.elim
  |_=>exact gen (by rw[hop];exact h2) (by simp[hop])
 |_=>exact gen (by rw[hop];rw[hop] at h2;exact h2) (by simp[hop])
theorem aAb {all:List Oper} {o:Oper} {K:aV→Prop} (hg:o.guard=none) (h:prG P ρ o.op o.dst K): ∃d,gY P all ρ o d∧K (putD ρ o.dst d):=by
 obtain ⟨h1,h2⟩:=h;have hfree: ∀k,o.dst=some k→bX (ρ k)=false:=fun k hk=>by rw[hk] at h1;exact h1
 have gen:(gR P ρ o.op).1∧bX (gR P ρ o.op).2=false∧K (putD ρ o.dst (gR P ρ o.op).2)→(∀f args ts,o.op≠ .call ⟨.value f,args,ts⟩)→ ∃d,gY P all ρ o d∧K (putD ρ o.dst d):=by
  rintro ⟨k1,k2,k3⟩ hn;refine ⟨_,⟨k2,hfree,?_⟩,k3⟩;rw[hg];cases hop:o.op with
  |call c=>
   obtain ⟨cl,args,ts⟩:=c;cases cl with
   |value f=>exact absurd hop (hn f args ts)
   |_=>rw[hop] at k1;exact ⟨k1,rfl⟩
  |_=>rw[hop] at k1;exact ⟨k1,rfl⟩
 cases hop:o.op with
 |call c=>
  obtain ⟨cl,args,ts⟩:=c;rw[hop] at h2;cases cl with
  |value f=>
   obtain ⟨q1,q2,q3⟩:=h2;unfold pcG at q3;split at q3
   ·rename_i fid l k hc hk;obtain ⟨q3,r,r1,r2,r3⟩:=q3;refine ⟨r,⟨r1,hfree,?_⟩,by rw[hk];exact r3⟩;rw[hg,hop];exact ⟨q1,q2,fid,l,hc,q3,r2⟩
   exact q3.elim
  |_=>exact gen (by rw[hop];exact h2) (by simp[hop])
 |_=>exact gen (by rw[hop];rw[hop] at h2;exact h2) (by simp[hop])
theorem bJr {all:List Oper} {k:aV→Prop} (hr:kH nt all=true) (hgo:all.all gOk=true): ∀(l:List Oper) (ρ:aV),(∀o∈l,o∈all)→pwX P all k l ρ→RW P nt all.toArray k l ρ
 | [],ρ,_,h=>h
 |o::l,ρ,hm,h=>by
  have hrec:=fun ρ'=>bJr (k:=k) hr hgo l ρ' fun o' ho=>hm o' (by simp[ho]);obtain ⟨i,hi⟩:=cAe (hm o b7);obtain ⟨h1,h2⟩:=e9 hr hi;unfold pwX at h;unfold RW;split at h
  ·rename_i hg;exact (cC hg h1 h2 h).mono hrec
  rename_i j want hg;have hgk:=cCk.1 hgo o (hm o b7);unfold gOk at hgk;rw[hg] at hgk;simp only[cAc,cCl] at hgk;obtain ⟨d,k1,k2⟩:=sG hg hgk h;simp only[bZi] at hgk;exact oK (lT hr) h1 h2 hgk.2 k1 (hrec _ k2)
theorem aSk {all:List Oper} {k:aV→Prop} (hr:kH nt all=true) (hgo:all.all gOk=true): ∀(l:List Oper) (ρ:aV),(∀o∈l,o∈all)→aVu P all k l ρ→aKt P nt all k l ρ
 | [],ρ,_,h=>h
 |o::l,ρ,hm,h=>by
  have hrec:=fun ρ'=>aSk (k:=k) hr hgo l ρ' fun o' ho=>hm o' (by simp[ho]);obtain ⟨i,hi⟩:=cAe (hm o b7);obtain ⟨h1,h2⟩:=e9 hr hi;unfold aVu at h;unfold aKt;split at h
  ·rename_i hg;split at h
   ·rename_i hp;rw[if_pos hp];obtain ⟨d,k1,k2⟩:=aAb (all:=all) hg h;exact ⟨d,k1,hrec _ k2⟩
   rename_i hp;rw[if_neg (by rw[hp];simp)];exact (cC hg h1 h2 h).mono hrec
  rename_i j want hg;have hgk:=cCk.1 hgo o (hm o b7);unfold gOk at hgk;rw[hg] at hgk;simp only[cAc,cCl] at hgk;obtain ⟨d,k1,k2⟩:=sG hg hgk h;rw[if_pos hgk];exact ⟨d,k1,hrec _ k2⟩
def gL (nt:Nat) (l:List Oper):Bool:=kH nt l&&l.all gOk
theorem aU (L:List Nat) {id:Nat} {l:List Oper} {Q:Exit→aV→Prop} (hr:gL nt l=true) (h:pw P l (Q .normal) l ⟨⟩ (keepC L ρ)):AW P nt (.region id l.toArray false) Q ρ:=by
 simp only[gL,bZi] at hr;exact dY (Le.keepC L ρ) (rP (bJr hr.1 hr.2 l _ (fun _ h=>h) h))
theorem bIu (L:List Nat) {id:Nat} {l:List Oper} {Q:Exit→aV→Prop} (hm:P.follows .mixedOrders=true) (hr:(gL nt l&&aLe l l.length 0 (Array.replicate l.length false))=true) (h:pwD P l (Q .normal) l ⟨⟩ (keepC L ρ)):AW P nt (.region id l.toArray true) Q ρ:=by
 simp only[gL,bZi] at hr;exact dY (Le.keepC L ρ) (bIl hm hr.1.1 hr.2 (aSk hr.1.1 hr.1.2 l _ (fun _ h=>h) h))
def clG:List (Nat×Nat)→(aV→Prop)→aV→Prop
 | [],K,ρ=>K ρ
 |(d,t)::l,K,ρ=>match ρ d,ρ t with
  | .own s n,.row e z xs=>s=t∧n=xs.length∧clG l K (set (dG d (set (dG t ρ) t .any)) d (eH d (eH t (.row e z xs))))
  | .bp s off,.bx cs=>s=t∧off=0∧clG l K (set (dG d (set (dG t ρ) t .any)) d (eH d (eH t (.bx cs))))
  |_,_=>clG l K ρ
theorem cV.claims: ∀(cl:List (Nat×Nat)) {K:aV→Prop} {ρ:aV} {w:World} {I:Nat→Prop} {A:cY} {a:Act},cV nt w I A ρ a→(cl.all fun p=>decide (p.1<nt)&&decide (p.2<nt)&&p.1 !=p.2)=true→clG cl K ρ→
  ∃A' ρ',cV nt w I A' ρ' a∧e8 w I A w I A'∧K ρ'
 | [],K,ρ,w,I,A,a,hs,_,h=>⟨A,ρ,hs,e8.refl _ _ _,h⟩
 |(d,t)::l,K,ρ,w,I,A,a,hs,hc,h=>by
  simp only[cCm,bZi,cFp,bne_iff_ne] at hc;obtain ⟨⟨⟨h1,h2⟩,h3⟩,h4⟩:=hc;unfold clG at h;split at h
  ·rename_i s n e z xs k1 k2;obtain ⟨rfl,rfl,hk⟩:=h;obtain ⟨A1,q1,q2⟩:=hs.claim h1 h2 (bZv h3) (.inl ⟨e,z,xs,k1,k2⟩);rw[k2] at q1;obtain ⟨A2,ρ2,r1,r2,r3⟩:=cV.claims l q1 h4 hk;exact ⟨A2,ρ2,r1,q2.trans r2,r3⟩
  ·rename_i s off cs k1 k2;obtain ⟨rfl,rfl,hk⟩:=h;obtain ⟨A1,q1,q2⟩:=hs.claim h1 h2 (bZv h3) (.inr ⟨cs,k1,k2⟩);rw[k2] at q1;obtain ⟨A2,ρ2,r1,r2,r3⟩:=cV.claims l q1 h4 hk;exact ⟨A2,ρ2,r1,q2.trans r2,r3⟩
  exact cV.claims l hs h4 h
theorem eC (L:List Nat) (cl:List (Nat×Nat)) {id:Nat} {l:List Oper} {Q:Exit→aV→Prop} (hm:P.follows .mixedOrders=true)
  (hr:(gL nt l&&aLe l l.length 0 (Array.replicate l.length false)&&cl.all fun p=>decide (p.1<nt)&&decide (p.2<nt)&&p.1 !=p.2)=true) (h:pwD P l (clG cl (Q .normal)) l ⟨⟩ (keepC L ρ)):AW P nt (.region id l.toArray true) Q ρ:=by
 rw[bZi] at hr;have h1:=bIu (Q:=fun e ρ=>match e with| .normal=>clG cl (Q .normal) ρ|e=>Q e ρ) (id:=id) L hm hr.1 h;intro ro ds I A a w hs hd;refine wpIn_mono (h1 ro ds I A a w hs hd) ?_;intro e a1 w1 ⟨I1,A1,ρ1,k1,k2,k3,k4⟩;cases e with
 |normal=>
  obtain ⟨A2,ρ2,r1,r2,r3⟩:=cV.claims cl k1 hr.2 k4;exact ⟨I1,A2,ρ2,r1,k2,k3.trans r2,r3⟩
 |exit i=>exact ⟨I1,A1,ρ1,k1,k2,k3,k4⟩
 |goto l=>exact ⟨I1,A1,ρ1,k1,k2,k3,k4⟩
 |ret=>exact ⟨I1,A1,ρ1,k1,k2,k3,k4⟩
 |panic ch=>exact ⟨I1,A1,ρ1,k1,k2,k3,k4⟩
 |outgrown=>exact ⟨I1,A1,ρ1,k1,k2,k3,k4⟩
theorem aT (L:List Nat) {c:Code} {Q:Exit→aV→Prop} (J:Nat→aV→Prop) (n₀:Nat) (h₀:J n₀ (keepC L ρ))
  (round: ∀n ρ,J n ρ→ ∀K:aV→Prop,(∀m ρ',m<n→J m (keepC L ρ')→K ρ')→AW P nt c (aSo K Q) ρ):AW P nt (.loop c) Q ρ:=by
 refine dY (Le.keepC L ρ) (bGe (fun n ρ=> ∃ρ',J n ρ'∧Le ρ ρ') n₀ ⟨_,h₀,Le.refl _⟩ ?_);rintro n ρ1 ⟨ρ2,hJ,hle⟩ K hK;exact dY hle (round n ρ2 hJ K fun m ρ' hm hj=>hK m ρ' hm ⟨_,hj,Le.keepC L ρ'⟩)
theorem aJt {f:FuncId} {fn:Func} {c:Code} {O:aV} {args:List DV} {r:DV} (hf:P.funcs[f]?=some fn) (hb:fn.body=some c)
  (hn:(decide (args.length≤fn.ntmps)&&decide (fn.ntmps≤100000)&&fn.results.toList.all (fun v=>match v with| .tmp t=>decide (t<fn.ntmps)| .cell t _=>decide (t<fn.ntmps)))=true)
  (h:AW P fn.ntmps c (aDl P fn O fun O' r'=>O'=O∧r'=r) (vH O args)):bB P O f args r:=aLn hf hb hn h
theorem aGe {ρ O:aV} (h:hi ρ=g7 O) (s:Nat):ρ (s+100000)=sh (O s):=by
 have:=congrFun h (s+100000);rw[kL] at this;unfold hi at this;rw[if_neg aN] at this;exact this
theorem aAi {fn:Func} {O:aV} {r:DV} (h1:hi ρ=g7 O) (h2:p6 P ρ fn.results.toList r):aDl P fn O (fun O' r'=>O'=O∧r'=r) .ret ρ:=
 ⟨O,r,aGe h1,fun _=>fN.refl _,fun _ h=>h,h2,rfl,rfl⟩
theorem eF {f:FuncId} {l:List DV} {k:aV→DV→Prop} {t:Tg k} (r:DV) (h:bB P ρ f l r) (hk:k ρ r):aRk P ρ f l k t:=⟨_,h,by rintro O' r' ⟨rfl,rfl⟩;exact hk⟩
@[congr] theorem AW_congr {c:Code} {Q:Exit→aV→Prop} {ρ ρ':aV} (h:ρ=ρ'):AW P nt c Q ρ=AW P nt c Q ρ':=by rw[h]
@[congr] theorem CallD_congr {f:FuncId} {l l':List DV} {k:DV→Prop} {t:Tg k} (h:l=l'):aNg P ρ f l k t=aNg P ρ f l' k t:=by rw[h]
@[congr] theorem CallG_congr {f:FuncId} {l l':List DV} {k:aV→DV→Prop} {t:Tg k} (h:l=l'):aRk P ρ f l k t=aRk P ρ f l' k t:=by rw[h]
@[congr] theorem CallC_congr {g g':Bool} {p p':Prop} {f:FuncId} {l l':List DV} {k:DV→Prop} {t:Tg k} (h:l=l') (hp:p=p') (hg:g=g'):aKd P ρ g p f l k t=aKd P ρ g' p' f l' k t:=by rw[h,hp,hg]
@[congr] theorem pw_congr {all l:List Oper} {k:aV→Prop} {t:Tg (all,k,l)} {ρ ρ':aV} (h:ρ=ρ'):pw P all k l t ρ=pw P all k l t ρ':=by rw[h]
@[congr] theorem pwD_congr {all l:List Oper} {k:aV→Prop} {t:Tg (all,k,l)} {ρ ρ':aV} (h:ρ=ρ'):pwD P all k l t ρ=pwD P all k l t ρ':=by rw[h]
section rules
variable (all os:List Oper) (k K:aV→Prop) (d:Option Tmp) (op:Op) (ty:TypeId) (pos:String) (af:Array Edge) (j:Nat) (want:Bool)
theorem cLe:pw P all k [] ⟨⟩ ρ=k ρ:=rfl
theorem cHg:pw P all k (⟨d,op,ty,pos,af,none⟩::os) ⟨⟩ ρ=aEk P ρ op d (pw P all k os ⟨⟩):=rfl
theorem cHd:pw P all k (⟨d,op,ty,pos,af,some (j,want)⟩::os) ⟨⟩ ρ=gdG P ρ op d (gAt all ρ j want) (pw P all k os ⟨⟩):=rfl
theorem cJq:pwD P all k [] ⟨⟩ ρ=k ρ:=rfl
theorem cGy:pwD P all k (⟨d,op,ty,pos,af,none⟩::os) ⟨⟩ ρ=(match dT op&&d.isSome with
   |true=>prG P ρ op d (pwD P all k os ⟨⟩)
   |false=>aEk P ρ op d (pwD P all k os ⟨⟩)):=rfl
theorem cGs:pwD P all k (⟨d,op,ty,pos,af,some (j,want)⟩::os) ⟨⟩ ρ=gdG P ρ op d (gAt all ρ j want) (pwD P all k os ⟨⟩):=rfl
end rules
section rules
variable (K:aV→Prop) (d:Nat) (dd:Option Nat) (x y:Operand) (t t' t'':TypeId) (b:BinOp) (u:UnOp) (f i n:Nat) (a b' c:Operand)
theorem cHv:aEk P ρ (.move x) dd K=(gd (ev ρ x)∧K (putD ρ dd (un (ev ρ x)))):=rfl
theorem cJw:aEk P ρ (.assign (.tmp n)) (some d) K=bEo ρ d n (ρ n) K:=rfl
theorem cHy (v:Value):aEk P ρ (.assign (.const v)) dd K=(gd (ev ρ (.const v))∧K (putD ρ dd (un (ev ρ (.const v))))):=rfl
theorem cHb:aEk P ρ (.assign (.func f)) dd K=(gd (ev ρ (.func f))∧K (putD ρ dd (un (ev ρ (.func f))))):=rfl
theorem cIc:aEk P ρ (.pick c a b') dd K=((aMk (ev ρ c) (ev ρ a) (ev ρ b')).1∧K (putD ρ dd (aMk (ev ρ c) (ev ρ a) (ev ρ b')).2)):=rfl
theorem cHu:aEk P ρ (.load t x) dd K=((gd (ev ρ x)∧(l7 ρ (cW P t) (un (ev ρ x))).1)∧K (putD ρ dd (l7 ρ (cW P t) (un (ev ρ x))).2)):=rfl
theorem cIn:aEk P ρ (.nilCheck x) dd K=((gd (ev ρ x)∧(aXm (un (ev ρ x))).1)∧K (putD ρ dd (aXm (un (ev ρ x))).2)):=rfl
theorem cIq:aEk P ρ (.binOp b t x y t') dd K=bIn P ρ b t x y dd K:=rfl
theorem cKq:aEk P ρ (.unOp u t x) dd K=((gd (ev ρ x)∧(unP u (un (ev ρ x))).1)∧K (putD ρ dd (unP u (un (ev ρ x))).2)):=rfl
theorem cHq:aEk P ρ (.convert t t' x) dd K=(((gd (ev ρ x)∧(P.underlying t).isSome=true)∧(aGc (aMt P t') (un (ev ρ x))).1)∧K (putD ρ dd (aGc (aMt P t') (un (ev ρ x))).2)):=rfl
theorem cJk:aEk P ρ (.fieldAddr t x f) dd K=((gd (ev ρ x)∧(aOn (bG P t f) (un (ev ρ x))).1)∧K (putD ρ dd (aOn (bG P t f) (un (ev ρ x))).2)):=rfl
theorem cJh:aEk P ρ (.indexAddr t x y) dd K=(((gd (ev ρ x)∧gd (ev ρ y))∧(tE ρ (d4 P t) (un (ev ρ x)) (un (ev ρ y))).1)∧K (putD ρ dd (tE ρ (d4 P t) (un (ev ρ x)) (un (ev ρ y))).2)):=rfl
theorem cKn:aEk P ρ (.index t x y) dd K=(((gd (ev ρ x)∧gd (ev ρ y))∧(atP (d4 P t) (cW P t) (tk P t) (un (ev ρ x)) (un (ev ρ y))).1)∧K (putD ρ dd (atP (d4 P t) (cW P t) (tk P t) (un (ev ρ x)) (un (ev ρ y))).2)):=rfl
theorem cJv (lo h':Option Operand):aEk P ρ (.slice t x lo h' none) dd K=(((gd (ev ρ x)∧(∀y∈lo,gd (ev ρ y))∧ ∀y∈h',gd (ev ρ y))∧(zV ρ (d4 P t) (tk P t) (un (ev ρ x)) (lo.map fun y=>un (ev ρ y)) (h'.map fun y=>un (ev ρ y))).1)∧
   K (putD ρ dd (zV ρ (d4 P t) (tk P t) (un (ev ρ x)) (lo.map fun y=>un (ev ρ y)) (h'.map fun y=>un (ev ρ y))).2)):=rfl
theorem cIh:aEk P ρ (.extract x i) dd K=((gd (ev ρ x)∧(bCf (un (ev ρ x)) i).1)∧K (putD ρ dd (bCf (un (ev ρ x)) i).2)):=rfl
theorem cKp (fn:Fn) (l m:Array Operand):aEk P ρ (.makeFunc fn l m) dd K=((fnP ρ fn l.toList m.toList).1∧K (putD ρ dd (fnP ρ fn l.toList m.toList).2)):=rfl
theorem cJt:aEk P ρ (.box t x) (some d) K=bRo ρ d (ev ρ x) K:=rfl
theorem cGk:aEk P ρ (.alloc t) (some d) K=aIu ρ d (eE P t) K:=rfl
theorem cGn:aEk P ρ (.store t x y) none K=stG ρ (gQ P t) (ev ρ x) (ev ρ y) K:=rfl
theorem cLh:aEk P ρ (.makeSlice t x y) (some d) K=mkG P ρ d (pT P t) (ev ρ x) (ev ρ y) K:=rfl
theorem cIt (parts:Array (Nat×Operand)):aEk P ρ (.buildSlice t n parts) (some d) K=bEn P ρ d (pT P t) n parts.toList K:=rfl
theorem cKb:aEk P ρ (.lookup t x y false) dd K=lkG ρ dd (aVs P t) (ev ρ x) (ev ρ y) K:=rfl
theorem cLg:aEk P ρ (.mapUpdate t x y c) none K=upG ρ (aVs P t) (ev ρ x) (ev ρ y) (ev ρ c) K:=rfl
theorem cIx:aEk P ρ (.makeMap t none) (some d) K=K (set (dG d ρ) d (.mo [])):=rfl
theorem cIu:aEk P ρ (.call ⟨.builtin .len,#[x],#[t]⟩) dd K=((gd (ev ρ x)∧(aUz (tk P t) (un (ev ρ x))).1)∧K (putD ρ dd (aUz (tk P t) (un (ev ρ x))).2)):=rfl
theorem cJf:aEk P ρ (.call ⟨.builtin .max,#[x,y],#[t,t']⟩) dd K=(((gd (ev ρ x)∧gd (ev ρ y))∧(bCy [un (ev ρ x),un (ev ρ y)]).1)∧K (putD ρ dd (bCy [un (ev ρ x),un (ev ρ y)]).2)):=rfl
theorem cIs:aEk P ρ (.call ⟨.builtin .min,#[x,y],#[t,t']⟩) dd K=(((gd (ev ρ x)∧gd (ev ρ y))∧(aYy [un (ev ρ x),un (ev ρ y)]).1)∧K (putD ρ dd (aYy [un (ev ρ x),un (ev ρ y)]).2)):=rfl
theorem cIy:aEk P ρ (.call ⟨.builtin .append,#[x,y],#[t,t']⟩) (some d) K=(t=t'∧aOj P ρ d (pT P t) (ev ρ x) (ev ρ y) K):=rfl
theorem cHw (args:Array Operand) (ts:Array TypeId):aEk P ρ (.call ⟨.value x,args,ts⟩) (some d) K=
  (gd (ev ρ x)∧gdL ρ args.toList∧aPe P (callee (un (ev ρ x)) (evL ρ args.toList))∧bNj P ρ d (callee (un (ev ρ x)) (evL ρ args.toList)) K):=rfl
theorem cIj (args:Array Operand) (ts:Array TypeId):prG P ρ (.call ⟨.value x,args,ts⟩) dd K=(aIe ρ dd∧gd (ev ρ x)∧gdL ρ args.toList∧pcG P ρ dd (callee (un (ev ρ x)) (evL ρ args.toList)) K):=rfl
theorem cKl (parts:Array (Nat×Operand)):prG P ρ (.buildSlice t n parts) dd K=(aIe ρ dd∧(aTw P ρ (pT P t) n parts.toList).1∧bX (aTw P ρ (pT P t) n parts.toList).2=false∧K (putD ρ dd (aTw P ρ (pT P t) n parts.toList).2)):=rfl
theorem cIz (g:Bool) (args:Array Operand) (ts:Array TypeId):gdG P ρ (.call ⟨.value x,args,ts⟩) dd (some g) K=(aIe ρ dd∧gcG P ρ dd g (ev ρ x) (gdL ρ args.toList) (callee (un (ev ρ x)) (evL ρ args.toList)) K):=rfl
end rules
theorem cJy {b:Builtin} {args:Array Operand} {ts:Array TypeId} {dd:Option Nat} {K:aV→Prop}:prG P ρ (.call ⟨.builtin b,args,ts⟩) dd K=(aIe ρ dd∧(aNm P ρ b args.toList ts.toList).1∧bX (aNm P ρ b args.toList ts.toList).2=false∧K (putD ρ dd (aNm P ρ b args.toList ts.toList).2)):=rfl
theorem cKg {b:Builtin} {args:Array Operand} {ts:Array TypeId} {dd:Option Nat} {g:Bool} {K:aV→Prop}:gdG P ρ (.call ⟨.builtin b,args,ts⟩) dd (some g) K=
  (aIe ρ dd∧(g=true→(aNm P ρ b args.toList ts.toList).1)∧lO (aNm P ρ b args.toList ts.toList).2=true∧K (putD ρ dd (.cond g (aNm P ρ b args.toList ts.toList).2))):=rfl
section rules
variable (x y a b' c:Operand) (t t':TypeId) (b:BinOp) (u:UnOp) (f i:Nat)
theorem cHe:gR P ρ (.move x)=(gd (ev ρ x),un (ev ρ x)):=rfl
theorem cJn:gR P ρ (.assign x)=(gd (ev ρ x),un (ev ρ x)):=rfl
theorem cHp:gR P ρ (.pick c a b')=aMk (ev ρ c) (ev ρ a) (ev ρ b'):=rfl
theorem cIa:gR P ρ (.load t x)=(gd (ev ρ x)∧(l7 ρ (cW P t) (un (ev ρ x))).1,(l7 ρ (cW P t) (un (ev ρ x))).2):=rfl
theorem cJr:gR P ρ (.nilCheck x)=(gd (ev ρ x)∧(aXm (un (ev ρ x))).1,(aXm (un (ev ρ x))).2):=rfl
theorem cJu:gR P ρ (.binOp b t x y t')=((gd (ev ρ x)∧gd (ev ρ y))∧(aCz (qR P t) (tk P t) b (un (ev ρ x)) (un (ev ρ y))).1,(aCz (qR P t) (tk P t) b (un (ev ρ x)) (un (ev ρ y))).2):=rfl
theorem cKc:gR P ρ (.unOp u t x)=(gd (ev ρ x)∧(unP u (un (ev ρ x))).1,(unP u (un (ev ρ x))).2):=rfl
theorem cHm:gR P ρ (.convert t t' x)=((gd (ev ρ x)∧(P.underlying t).isSome=true)∧(aGc (aMt P t') (un (ev ρ x))).1,(aGc (aMt P t') (un (ev ρ x))).2):=rfl
theorem cIp:gR P ρ (.fieldAddr t x f)=(gd (ev ρ x)∧(aOn (bG P t f) (un (ev ρ x))).1,(aOn (bG P t f) (un (ev ρ x))).2):=rfl
theorem cJg:gR P ρ (.indexAddr t x y)=((gd (ev ρ x)∧gd (ev ρ y))∧(tE ρ (d4 P t) (un (ev ρ x)) (un (ev ρ y))).1,(tE ρ (d4 P t) (un (ev ρ x)) (un (ev ρ y))).2):=rfl
theorem cKf:gR P ρ (.index t x y)=((gd (ev ρ x)∧gd (ev ρ y))∧(atP (d4 P t) (cW P t) (tk P t) (un (ev ρ x)) (un (ev ρ y))).1,(atP (d4 P t) (cW P t) (tk P t) (un (ev ρ x)) (un (ev ρ y))).2):=rfl
theorem cJp (lo h':Option Operand):gR P ρ (.slice t x lo h' none)=((gd (ev ρ x)∧(∀y∈lo,gd (ev ρ y))∧ ∀y∈h',gd (ev ρ y))∧(zV ρ (d4 P t) (tk P t) (un (ev ρ x)) (lo.map fun y=>un (ev ρ y)) (h'.map fun y=>un (ev ρ y))).1,
   (zV ρ (d4 P t) (tk P t) (un (ev ρ x)) (lo.map fun y=>un (ev ρ y)) (h'.map fun y=>un (ev ρ y))).2):=rfl
theorem cIf:gR P ρ (.extract x i)=(gd (ev ρ x)∧(bCf (un (ev ρ x)) i).1,(bCf (un (ev ρ x)) i).2):=rfl
theorem cKj (fn:Fn) (l m:Array Operand):gR P ρ (.makeFunc fn l m)=fnP ρ fn l.toList m.toList:=rfl
end rules
section rules
variable (x y a b' c:Operand) (t t':TypeId) (b:BinOp) (u:UnOp) (f i:Nat) (lo h':Option Operand) (fn:Fn) (l m:Array Operand) (dd:Option Nat) (g:Bool) (K:aV→Prop)
theorem cJi:prG P ρ (.move x) dd K=(aIe ρ dd∧(gR P ρ (.move x)).1∧bX (gR P ρ (.move x)).2=false∧K (putD ρ dd (gR P ρ (.move x)).2)):=rfl
theorem cJb:gdG P ρ (.move x) dd (some g) K=(aIe ρ dd∧(g=true→(gR P ρ (.move x)).1)∧lO (gR P ρ (.move x)).2=true∧K (putD ρ dd (.cond g (gR P ρ (.move x)).2))):=rfl
theorem cKu:prG P ρ (.assign x) dd K=(aIe ρ dd∧(gR P ρ (.assign x)).1∧bX (gR P ρ (.assign x)).2=false∧K (putD ρ dd (gR P ρ (.assign x)).2)):=rfl
theorem cKk:gdG P ρ (.assign x) dd (some g) K=(aIe ρ dd∧(g=true→(gR P ρ (.assign x)).1)∧lO (gR P ρ (.assign x)).2=true∧K (putD ρ dd (.cond g (gR P ρ (.assign x)).2))):=rfl
theorem cIe:prG P ρ (.pick c a b') dd K=(aIe ρ dd∧(gR P ρ (.pick c a b')).1∧bX (gR P ρ (.pick c a b')).2=false∧K (putD ρ dd (gR P ρ (.pick c a b')).2)):=rfl
theorem cIk:gdG P ρ (.pick c a b') dd (some g) K=(aIe ρ dd∧(g=true→(gR P ρ (.pick c a b')).1)∧lO (gR P ρ (.pick c a b')).2=true∧K (putD ρ dd (.cond g (gR P ρ (.pick c a b')).2))):=rfl
theorem cIm:prG P ρ (.load t x) dd K=(aIe ρ dd∧(gR P ρ (.load t x)).1∧bX (gR P ρ (.load t x)).2=false∧K (putD ρ dd (gR P ρ (.load t x)).2)):=rfl
theorem cJj:gdG P ρ (.load t x) dd (some g) K=(aIe ρ dd∧(g=true→(gR P ρ (.load t x)).1)∧lO (gR P ρ (.load t x)).2=true∧K (putD ρ dd (.cond g (gR P ρ (.load t x)).2))):=rfl
theorem cKv:prG P ρ (.nilCheck x) dd K=(aIe ρ dd∧(gR P ρ (.nilCheck x)).1∧bX (gR P ρ (.nilCheck x)).2=false∧K (putD ρ dd (gR P ρ (.nilCheck x)).2)):=rfl
theorem cKw:gdG P ρ (.nilCheck x) dd (some g) K=(aIe ρ dd∧(g=true→(gR P ρ (.nilCheck x)).1)∧lO (gR P ρ (.nilCheck x)).2=true∧K (putD ρ dd (.cond g (gR P ρ (.nilCheck x)).2))):=rfl
theorem cLd:prG P ρ (.binOp b t x y t') dd K=(aIe ρ dd∧(gR P ρ (.binOp b t x y t')).1∧bX (gR P ρ (.binOp b t x y t')).2=false∧K (putD ρ dd (gR P ρ (.binOp b t x y t')).2)):=rfl
theorem cKe:gdG P ρ (.binOp b t x y t') dd (some g) K=(aIe ρ dd∧(g=true→(gR P ρ (.binOp b t x y t')).1)∧lO (gR P ρ (.binOp b t x y t')).2=true∧K (putD ρ dd (.cond g (gR P ρ (.binOp b t x y t')).2))):=rfl
theorem cLq:prG P ρ (.unOp u t x) dd K=(aIe ρ dd∧(gR P ρ (.unOp u t x)).1∧bX (gR P ρ (.unOp u t x)).2=false∧K (putD ρ dd (gR P ρ (.unOp u t x)).2)):=rfl
theorem cLn:gdG P ρ (.unOp u t x) dd (some g) K=(aIe ρ dd∧(g=true→(gR P ρ (.unOp u t x)).1)∧lO (gR P ρ (.unOp u t x)).2=true∧K (putD ρ dd (.cond g (gR P ρ (.unOp u t x)).2))):=rfl
theorem cJm:prG P ρ (.convert t t' x) dd K=(aIe ρ dd∧(gR P ρ (.convert t t' x)).1∧bX (gR P ρ (.convert t t' x)).2=false∧K (putD ρ dd (gR P ρ (.convert t t' x)).2)):=rfl
theorem cJs:gdG P ρ (.convert t t' x) dd (some g) K=(aIe ρ dd∧(g=true→(gR P ρ (.convert t t' x)).1)∧lO (gR P ρ (.convert t t' x)).2=true∧K (putD ρ dd (.cond g (gR P ρ (.convert t t' x)).2))):=rfl
theorem cKx:prG P ρ (.fieldAddr t x f) dd K=(aIe ρ dd∧(gR P ρ (.fieldAddr t x f)).1∧bX (gR P ρ (.fieldAddr t x f)).2=false∧K (putD ρ dd (gR P ρ (.fieldAddr t x f)).2)):=rfl
theorem cLf:gdG P ρ (.fieldAddr t x f) dd (some g) K=(aIe ρ dd∧(g=true→(gR P ρ (.fieldAddr t x f)).1)∧lO (gR P ρ (.fieldAddr t x f)).2=true∧K (putD ρ dd (.cond g (gR P ρ (.fieldAddr t x f)).2))):=rfl
theorem cKo:prG P ρ (.indexAddr t x y) dd K=(aIe ρ dd∧(gR P ρ (.indexAddr t x y)).1∧bX (gR P ρ (.indexAddr t x y)).2=false∧K (putD ρ dd (gR P ρ (.indexAddr t x y)).2)):=rfl
theorem cLb:gdG P ρ (.indexAddr t x y) dd (some g) K=(aIe ρ dd∧(g=true→(gR P ρ (.indexAddr t x y)).1)∧lO (gR P ρ (.indexAddr t x y)).2=true∧K (putD ρ dd (.cond g (gR P ρ (.indexAddr t x y)).2))):=rfl
theorem cLk:prG P ρ (.index t x y) dd K=(aIe ρ dd∧(gR P ρ (.index t x y)).1∧bX (gR P ρ (.index t x y)).2=false∧K (putD ρ dd (gR P ρ (.index t x y)).2)):=rfl
theorem cLl:gdG P ρ (.index t x y) dd (some g) K=(aIe ρ dd∧(g=true→(gR P ρ (.index t x y)).1)∧lO (gR P ρ (.index t x y)).2=true∧K (putD ρ dd (.cond g (gR P ρ (.index t x y)).2))):=rfl
theorem cKa:prG P ρ (.slice t x lo h' none) dd K=(aIe ρ dd∧(gR P ρ (.slice t x lo h' none)).1∧bX (gR P ρ (.slice t x lo h' none)).2=false∧K (putD ρ dd (gR P ρ (.slice t x lo h' none)).2)):=rfl
theorem cKd:gdG P ρ (.slice t x lo h' none) dd (some g) K=(aIe ρ dd∧(g=true→(gR P ρ (.slice t x lo h' none)).1)∧lO (gR P ρ (.slice t x lo h' none)).2=true∧K (putD ρ dd (.cond g (gR P ρ (.slice t x lo h' none)).2))):=rfl
theorem cKs:prG P ρ (.extract x i) dd K=(aIe ρ dd∧(gR P ρ (.extract x i)).1∧bX (gR P ρ (.extract x i)).2=false∧K (putD ρ dd (gR P ρ (.extract x i)).2)):=rfl
theorem cLc:gdG P ρ (.extract x i) dd (some g) K=(aIe ρ dd∧(g=true→(gR P ρ (.extract x i)).1)∧lO (gR P ρ (.extract x i)).2=true∧K (putD ρ dd (.cond g (gR P ρ (.extract x i)).2))):=rfl
theorem cLr:prG P ρ (.makeFunc fn l m) dd K=(aIe ρ dd∧(gR P ρ (.makeFunc fn l m)).1∧bX (gR P ρ (.makeFunc fn l m)).2=false∧K (putD ρ dd (gR P ρ (.makeFunc fn l m)).2)):=rfl
theorem cLo:gdG P ρ (.makeFunc fn l m) dd (some g) K=(aIe ρ dd∧(g=true→(gR P ρ (.makeFunc fn l m)).1)∧lO (gR P ρ (.makeFunc fn l m)).2=true∧K (putD ρ dd (.cond g (gR P ρ (.makeFunc fn l m)).2))):=rfl
theorem cHz (parts:Array (Nat×Operand)):prG P ρ (.build t parts) dd K=(aIe ρ dd∧(wD P ρ t parts.toList).1∧bX (wD P ρ t parts.toList).2=false∧K (putD ρ dd (wD P ρ t parts.toList).2)):=rfl
theorem cHi (parts:Array (Nat×Operand)):gdG P ρ (.build t parts) dd (some g) K=(aIe ρ dd∧(g=true→(wD P ρ t parts.toList).1)∧lO (wD P ρ t parts.toList).2=true∧K (putD ρ dd (.cond g (wD P ρ t parts.toList).2))):=rfl
theorem cGr (parts:Array (Nat×Operand)):aEk P ρ (.build t parts) dd K=((wD P ρ t parts.toList).1∧K (putD ρ dd (wD P ρ t parts.toList).2)):=rfl
theorem aZq (i:Nat) (x:Operand) (l:List (Nat×Operand)) (cs:List DV):kN P ρ t ((i,x)::l) cs=(match fV P t i with
  |some (off,s)=>(gd (ev ρ x)∧(cE (un (ev ρ x))).length=s∧0<s∧off+s≤cs.length∧(kN P ρ t l (spl off (cE (un (ev ρ x))) cs)).1,(kN P ρ t l (spl off (cE (un (ev ρ x))) cs)).2)
  |none=>(False,cs)):=rfl
theorem cLp:prG P ρ (.makeSlice t x y) dd K=(aIe ρ dd∧(mkP P (pT P t) (ev ρ x) (ev ρ y)).1∧bX (mkP P (pT P t) (ev ρ x) (ev ρ y)).2=false∧K (putD ρ dd (mkP P (pT P t) (ev ρ x) (ev ρ y)).2)):=rfl
theorem cLm:gdG P ρ (.makeSlice t x y) dd (some g) K=(aIe ρ dd∧(g=true→(mkP P (pT P t) (ev ρ x) (ev ρ y)).1)∧lO (mkP P (pT P t) (ev ρ x) (ev ρ y)).2=true∧K (putD ρ dd (.cond g (mkP P (pT P t) (ev ρ x) (ev ρ y)).2))):=rfl
theorem cLa (n:Nat) (parts:Array (Nat×Operand)):gdG P ρ (.buildSlice t n parts) dd (some g) K=(aIe ρ dd∧(g=true→(aTw P ρ (pT P t) n parts.toList).1)∧lO (aTw P ρ (pT P t) n parts.toList).2=true∧K (putD ρ dd (.cond g (aTw P ρ (pT P t) n parts.toList).2))):=rfl
end rules
theorem cHc (O:aV) (l:List DV):vH O l=rZ 0 l (g7 O):=rfl
theorem cGa (K:aV→Prop) (Q:Exit→aV→Prop) (ρ:aV):aSo K Q .normal ρ=K ρ:=rfl
theorem cGx (K:aV→Prop) (Q:Exit→aV→Prop) (ρ:aV):aSo K Q .ret ρ=Q .ret ρ:=rfl
theorem cGe (K:aV→Prop) (Q:Exit→aV→Prop) (i:Nat) (ρ:aV):aSo K Q (.exit i) ρ=Q (.exit i) ρ:=rfl
theorem cFy (i:Nat) (Q:Exit→aV→Prop) (ρ:aV):aXl i Q .normal ρ=Q .normal ρ:=rfl
theorem cGh (i:Nat) (Q:Exit→aV→Prop) (ρ:aV):aXl i Q .ret ρ=Q .ret ρ:=rfl
theorem cGd (i j:Nat) (Q:Exit→aV→Prop) (ρ:aV):aXl i Q (.exit j) ρ=if j=i then Q .normal ρ else Q (.exit j) ρ:=rfl
end
attribute [go_sem] cKb cLg cIx lkG upG cLe cHg cHd cJq cGy cGs cHv cJw cHy cHb cIc cHu cIn cIq cKq cHq cJk cJh cKn cJv cIh cKp cJt cGk cGn cLh cIt cIu cJf cIs cIy cHw cIj cKl cIz cJi cJb cKu cKk cIe cIk cIm cJj cKv cKw cLd cKe cLq cLn cJm cJs cKx cLf cKo cLb cLk cLl cKa cKd cKs cLc cLr cLo cLa cLp cLm mkP cHz cHi cGr cGu aZq wD cJy cKg cHe cJn cHp cIa cJr cJu cKc cHm cIp cJg cKf cJp cIf cKj dT p9 aLs cIo wI cv rd un gd bC cD cGv tK pR eH dI eQ bX lO aIe clG bEo bRo aIu stG stB stR mkG bEn aOj aEq vM iS aAv bsL cE spl gAt gW bIn bTh aHn bAn aCz aOm eqL aLi aNy aWi unP aUz aMk aYk cut aFy tA l7 aOn tE atP zV aGc bCf aXm bCy aYy aNm fnP gdL evL callee aPe bNj pcG gcG aTw bCa yH o0 bNh bJd aZs bTz aTz cHc yO vY wT nM cGa cGx cGe cFy cGh cGd cFt bZk imp_self implies_true forall_const cAa List.getElem?_cons_zero List.getElem?_nil cFm cBe cEb cDk cDx cCz cBv List.drop_succ_cons List.take_zero cDc List.set_cons_zero List.set_cons_succ cEw cEz cEd List.headD_cons cBj Option.map_none Option.isSome_some Option.isSome_none Bool.and_true cDm cBw cBl beq_self_eq_true Bool.cond_true Bool.cond_false cAh cFa Option.mem_def cAx forall_eq' cDp aTw cDt false_implies
end Go.Sg
