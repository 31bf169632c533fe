/- Several texts as one. -/
import Derived.Test.YtdgbckchckaagaaGreatDoorP10
import Derived.RecoverIn
set_option linter.unusedSectionVars false
set_option linter.unusedVariables false
set_option linter.unusedSimpArgs false
set_option maxHeartbeats 16000000
namespace Go.Rv
open Go.RowKit Go.Sg
noncomputable section
section
variable {P:Program} {nt lo:Nat} {ops:List Oper} {call:lG} {cX:FuncId→Bool}
theorem aFo: ∀(l:List Oper) (acc:List Nat),(fO l acc).length=acc.length+l.length
 | [],acc=>rfl
 |o::l,acc=>by unfold fO;rw[aFo l];simp;omega
theorem aUw {i:Nat} (h:ops.length≤i):(fO ops []).getD i 0=0:=by
 rw[cFk,cAw (by rw[aFo];simpa using h)];rfl
theorem yF (hc:eO P call) (hreg:nE nt ops=true) (hd:tN ops (fO ops [])=true): ∀(f k:Nat) (HL:List (Nat×Nat)) (l:List Oper) (s s':St),aBe P call lo ops (fO ops []) cX f k HL l s=some s'→(∀j,l[j]?=ops[k+j]?)→k+l.length=ops.length→lo≤s.n→KH lo s.h s'.h s.n s'.n∧
  ∀(ro:Option Nat) (m:Nat) (Q':Exit→Act→World→Prop) (fuel:Nat) (listed:Array Bool) (E:dX) (a:Act) (w:World),s'.n≤m→listed.size=ops.length→Cl ops listed→(∀j,j<ops.length→listed.getD j true=decide (j<k))→aEy ops listed fuel→SS nt E s.t a→HS E s.h.get s.n m w→
   (∀E' a' w',SS nt E' s'.t a'→a'.defers=a.defers→HS E' s'.h.get s'.n m w'→RX lo E s.h.get s.n w E' s'.h.get s'.n w'→Q' .normal a' w')→wpAnyIn (FR ro) 0 P .any ops.toArray Q' fuel listed a w
 |0,k,HL,l,s,s',h,_,_,_=>by cases h
 |f+1,k,HL,l,s,s',h,hl,hlen,hlo=>by
  obtain ⟨hnt,hall⟩:=jY hreg;have hmem: ∀o∈l,o∈ops:=fun o ho=>by
   obtain ⟨j,hj⟩:=cAe ho;rw[hl j] at hj;exact cDb hj
  have hdu: ∀o∈l,∀d,o.dst=some d→d<ub:=fun o ho d hdd=>cDi (kU (hall o (hmem o ho)).2 d hdd) hnt;unfold aBe at h;obtain ⟨hHLb,h⟩:=bY h;simp only[bZi,cCk,cFp] at hHLb;obtain ⟨hHL,hsub⟩:=hHLb;have hbits: ∀i j,((fO ops []).getD i 0).testBit j=true→j<i:=fun i j hb=>by
   rcases cBd i ops.length with h1|h1
   ·exact aOc hd i h1 j hb
   rw[aUw h1] at hb;simp at hb
  have phase: ∀k' s1 rest,phR P call lo ops (fO ops []) HL cX s.n k l [] s=some (k',s1,rest)→(rest≠[]→aFq (fO ops []) k' ops.length=true)→k'+rest.length=ops.length∧(∀j,rest[j]?=ops[k'+j]?)∧KH lo s.h s1.h s.n s1.n∧
    ∀(ro:Option Nat) (m:Nat) (Q':Exit→Act→World→Prop) (fuel:Nat) (listed:Array Bool) (E:dX) (a:Act) (w:World),s1.n≤m→listed.size=ops.length→Cl ops listed→(∀j,j<ops.length→listed.getD j true=decide (j<k))→aEy ops listed fuel→SS nt E s.t a→HS E s.h.get s.n m w→
     (∀fuel listed E' a' w',listed.size=ops.length→Cl ops listed→(∀j,j<ops.length→listed.getD j true=decide (j<k'))→aEy ops listed fuel→SS nt E' s1.t a'→a'.defers=a.defers→HS E' s1.h.get s1.n m w'→RX lo E s.h.get s.n w E' s1.h.get s1.n w'→wpAnyIn (FR ro) 0 P .any ops.toArray Q' fuel listed a' w')→
     wpAnyIn (FR ro) 0 P .any ops.toArray Q' fuel listed a w:=fun k' s1 rest hph heff=>by
   obtain ⟨rcs,j1,j2,j3,j4,j6,j7,j5⟩:=bCk hc hbits (fun x hx=>(hHL x hx).2) hlo hsub l k [] s k' s1 rest hph (fun x hx=>by cases hx) (fun x hx=>by cases hx) (fun b h1 h2=>by omega) (cCq _) hdu;have hll:l.length=rcs.length+rest.length:=by rw[j1];simp
   obtain ⟨hnn,hkeep0⟩:=j3;have hkeep: ∀b,b<lo∨s1.n≤b→s1.h.get b=s.h.get b:=fun b hb=>hkeep0 b (hb.imp (fun h=>⟨by omega,fun x hx e=>by have:=(hHL x hx).1;omega⟩) id);refine ⟨by omega,fun j=>?_,⟨hnn,fun b hb=>hkeep b hb⟩,fun ro m Q' fuel listed E a w hm hsz hcl hpre hleft hss hs hend=>?_⟩
   ·have:=hl (rcs.length+j);rw[j1,cAq b7] at this;rw[j2,cCa,← this];simp
   have hout: ∀b,s1.n≤b∨b<s.n→ ∀(p:Nat) (rc:Rc),rcs[p]?=some rc→ ¬(rc.n≤b∧b<rc.n'):=fun b hb p rc hp hr=>by
    have R:=j5 p rc hp;have:=R.n1;have:=R.n2;have:=R.n3;omega
   have hun: ∀p rc,rcs[p]?=some rc→listed.getD (k+p) false=false:=fun p rc hp=>by
    have hlt:p<rcs.length:=by
     rcases cBd p rcs.length with h|h
     ·exact h
     rw[cAw h] at hp;cases hp
    rw[← kE aN,hpre _ aN];exact cFs aN
   have hnl: ∀b,s.n≤b→HD listed k s.n rcs s1.h.get b=none:=fun b hb=>aHw hb fun p rc hp hl=>by rw[hun p rc hp] at hl;cases hl
   have hbase: ∀b,b<s.n→HD listed k s.n rcs s1.h.get b=s.h.get b:=fun b hb=>aWf (.inl hb) (j7 b hb) (fun p2 rc2 _ _ hlt=>absurd hlt (cBg _)) fun p2 rc2 h1 _ _=>hun p2 rc2 h1;have hHD: ∀b,HD listed k s.n rcs s1.h.get b≠none→HD listed k s.n rcs s1.h.get b=s.h.get b:=fun b hb=>by
    rcases cBd b s.n with h|h
    ·exact hbase b h
    exact absurd (hnl b h) hb
   have hsn: ∀b,s.n≤b→s.h.get b=none:=fun b hb=>hs.none_of hb;have hs1:=hs.sub hHD
   refine bOi ro hreg hd (k:=k) (s:=s) (s':=s1) (rcs:=rcs) (fun p rc hp=>?_) aN (fun hlt=>?_) j5 (fun b hb hr=>j6 b hb (fun x hx=>by cases hx) hr) j4 hm hsn hlo hs.ng (lo:=lo) (E0:=E) (w0:=w) (d0:=a.defers) (fun fuel listed E' a' w' h1 h2 h3 h4 h5 h6 h7 h8=>hend fuel listed E' a' w' h1 h2 (by rw[j2];exact h3) h4 h5 h6 h7 h8)
    fuel listed E a w hsz hcl (fun j hj=>?_) (fun j hj hjN=>?_) hleft hss.size (fun q hq=>⟨fun _=>hss.slot q hq,fun hno=>?_⟩) rfl ⟨hs1.blk,hs1.inj,hs1.old,fun b hb1 hb2=>hs.free b aN hb2,hs1.top,cBc hs.ng hnn,hs1.glob⟩ (fun p rc hp _ b hb1 hb2=>?_)
    ⟨rfl,⟨rfl,cCq _⟩,rfl,cCq _,hnn,fun _ _=>rfl,fun g hg hf=>⟨rfl,fun b s2 hb=>hf b s2 (by rw[← hHD b hb];exact hb)⟩,fun b hb=>⟨?_,fun _ _ _ _=>rfl⟩,fun b hb=>?_⟩
   ·have hlt:p<rcs.length:=by
     rcases cBd p rcs.length with h|h
     ·exact h
     rw[cAw h] at hp;cases hp
    rw[← hl p,j1,cAf (by simpa using hlt),cDj,hp];rfl
   ·rw[← j2];refine heff fun e=>?_;subst e;simp at hll;omega
   ·rw[← kE aN,hpre j aN];exact cFr hj
   ·rw[← kE aN,hpre j hjN];exact cFs aN
   ·have:s1.t.get q=s.t.get q:=j4 q fun rc hrc=>by
     obtain ⟨p,hp⟩:=cAe hrc;exact hno p rc hp (hun p rc hp)
    rw[this];exact hss.slot q hq
   ·have R:=j5 p rc hp;have:=R.n1;have:=R.n3;exact hs.free b aN aN
   ·exact hbase b aN
   rw[hnl b aN,hsn b aN]
  split at h
  ·cases h
  ·rename_i k' s1 hph;cases h;obtain ⟨p1,p2,p3,p4⟩:=phase _ _ _ hph b7;refine ⟨p3,fun ro m Q' fuel listed E a w hm hsz hcl hpre hleft hss hs hend=>p4 ro m Q' fuel listed E a w hm hsz hcl hpre hleft hss hs fun fuel listed E' a' w' h1 h2 h3 h4 h5 h6 h7 h8=>?_⟩;have hready:Region.ready .any ops.toArray listed=[]:=by
    cases hr:Region.ready .any ops.toArray listed with
    |nil=>rfl
    |cons i r=>
     obtain ⟨q1,o,q2,_⟩:=mem_ready.1 (show i∈Region.ready .any ops.toArray listed by rw[hr];simp);have hiN:i<ops.length:=by
      rcases cBd i ops.length with h|h
      ·exact h
      rw[cEu,cAw h] at q2;cases q2
     rw[h3 i hiN,cFr (by simp at p1;omega)] at q1;cases q1
   cases fuel with
   |zero=>exact ⟨hready,hend E' a' w' h5 h6 h7 h8⟩
   |succ fuel=>exact ⟨fun _=>hend E' a' w' h5 h6 h7 h8,fun i hi=>by rw[hready] at hi;cases hi⟩
  rename_i k' t1 h1' n1 o l' hph;cases heff:aFq (fO ops []) k' ops.length with
  |false=>
   rw[heff] at h;simp only[cDq] at h;split at h<;>try cases h
   exact yF hc hreg hd f k _ l s s' h hl hlen hlo
  |true=>
  rw[heff] at h;simp only[bZn] at h;split at h<;>try cases h
  rename_i v h2' n2 hv;obtain ⟨p1,p2,p3,p4⟩:=phase _ _ _ hph (fun _=>heff);have hn1:lo≤n1:=cBc hlo p3.nn;obtain ⟨k1,k2⟩:=aIy hc hn1 hv;have ho:ops[k']?=some o:=by have:=p2 0;simpa using this.symm
  have hkN:k'<ops.length:=by simp at p1;omega
  obtain ⟨i1,i2⟩:=yF hc hreg hd f (k'+1) [] l' _ s' h (fun j=>by have:=p2 (j+1);simpa[cCa,bZj 1 j] using this) (by simp at p1 ⊢;omega) (cBc hn1 k1.nn);have hmo:=hall o (cDb ho);refine ⟨p3.trans (k1.trans i1),fun ro m Q' fuel listed E a w hm hsz hcl hpre hleft hss hs hend=>p4 ro m Q' fuel listed E a w (cBc (cBc k1.nn i1.nn) hm) hsz hcl hpre hleft hss hs fun fuel listed E' a' w' h1 h2 h3 h4 h5 h6 h7 h8=>?_⟩;have hkl:listed.getD k' true=false:=by rw[h3 k' hkN];exact cFs aN
  cases fuel with
  |zero=>exact (h4.pos hkN hkl).elim
  |succ fuel=>
   refine ⟨fun hr=>absurd hr (qA hd h1 k' hkN hkl),fun i hi=>?_⟩;have hrc:=aDj h2 hi;obtain ⟨hiu,oi,hoi,_⟩:=mem_ready.1 hi;have hiN:i<ops.length:=by
    rcases cBd i ops.length with h|h
    ·exact h
    rw[cEu,cAw h] at hoi;cases hoi
   have hik:i=k':=by
    rw[h3 i hiN] at hiu;have hge: ¬i<k':=cFx hiu;rcases cEs (Nat.le_of_not_lt hge) with hlt|he
    ·unfold aFq at heff;simp only[bZi,cCk,cCc,cEx,cFp] at heff;rcases heff.2 i hiN with h4|h4
     ·omega
     have:=hrc _ h4;rw[← kE aN,hkl] at this;cases this
    exact he.symm
   subst hik;have run:=k2 ro m E' a' w' (cBc i1.nn hm) (h5.opds hmo.1) (h5.gslot fun o ho=>(hall o ho).2) h7 (wpAnyIn (FR ro) 0 P .any ops.toArray Q' fuel (listed.setIfInBounds i true)) Q' fun E2 y w2 q1 q2 q3=>by
    have hm1:n2≤m:=cBc i1.nn hm;refine i2 ro m Q' fuel (listed.setIfInBounds i true) E2 _ w2 hm (by simp[h1]) (h2.set hi) (fun j hj=>?_) (h4.set hiN h1 hkl) ((h5.mono (h7.up q2 hm1)).putD hnt (kU hmo.2) q3) q1 fun E3 a3 w3 r1 r2 r3 r4=>hend E3 a3 w3 r1 (by rw[r2,d7,h6]) r3 (h8.trans (q2.trans r4 h7 hm1 hn1) hs (cBc k1.nn hm1) hlo);by_cases e:j=i
    ·subst e;rw[sV aN true];exact (cFr aN).symm
    rw[getD_set_ne true (bZv e),h3 j hj];by_cases e2:j<i
    ·rw[cFr e2,cFr aN]
    rw[cFs e2,cFs aN]
   unfold wpOpIn;simp only[cEu,ho];exact run
def evC (P:Program) (call:lG) (cX:FuncId→Bool) (rd:Bool) (lo nt:Nat):Nat→Option Code→Code→St→Option (Exit×St)
 |0,_,_,_=>none
 |f+1,some c0,c,s=>(match evC P call cX rd lo nt f none c s with
  |some (.goto l,s1)=>(match findLabel c0 l with
   |some rest=>evC P call cX rd lo nt f (some c0) rest s1
   |none=>some (.goto l,s1))
  |r=>r)
 |f+1,none,c,s=>match c with
  | .skip=>some (.normal,s)
  | .exit i=>some (.exit i,s)
  | .ret=>some (.ret,s)
  | .label _=>some (.normal,s)
  | .goto l=>some (.goto l,s)
  | .scope c=>evC P call cX rd lo nt f (some c) c s
  | .seq x y=>match evC P call cX rd lo nt f none x s with
   |some (.normal,s1)=>evC P call cX rd lo nt f none y s1
   |r=>r
  | .block id b=>match evC P call cX rd lo nt f none b s with
   |some (.exit i,s1)=>bif i==id then some (.normal,s1) else some (.exit i,s1)
   |r=>r
  | .cond x a b=>match eN s.t x with
   | .bool t=>bif iE nt x then (bif t then evC P call cX rd lo nt f none a s else evC P call cX rd lo nt f none b s) else none
   |_=>none
  | .loop b=>match evC P call cX rd lo nt f none b s with
   |some (.normal,s1)=>evC P call cX rd lo nt f none (.loop b) s1
   |r=>r
  | .region _ ops false=>bif nE nt ops.toList then (aMs P call lo ops.toList ops.toList s).map fun s=>(.normal,s) else none
  | .region _ ops true=>bif nE nt ops.toList&&tN ops.toList (fO ops.toList []) then (aBe P call lo ops.toList (fO ops.toList []) cX (2*ops.toList.length+2) 0 [] ops.toList s).map fun s=>(.normal,s) else none
  | .rangeFunc g ps asg body=>(match eN s.t g with
   | .fn fid fs cs=>bif !rd&&(iE nt g&&(aO P fid&&decide (s.n<ub))) then
     (match call lo (.inl fid) (fs++[.yl s.n]++cs) (s.h.set s.n (some (.lp .ready none s.t nt ps.toList asg body))) (s.n+1) with
     |some (_,h2,n2)=>(match h2.get s.n with
      |some (.lp st pe t1 nt1 ps1 asg1 body1)=>bif decide (st=.busy) then none else (match pe with
       |none=>some (.normal,⟨s.t,h2.set s.n (some (.lp .exhausted pe t1 nt1 ps1 asg1 body1)),n2⟩)
       |some .ret=>some (.ret,⟨s.t,h2.set s.n (some (.lp .exhausted pe t1 nt1 ps1 asg1 body1)),n2⟩)
       |some (.exit i)=>some (.exit i,⟨s.t,h2.set s.n (some (.lp .exhausted pe t1 nt1 ps1 asg1 body1)),n2⟩)
       |_=>none)
      |_=>none)
     |none=>none) else none
   |_=>none)
  |_=>none
theorem qY {fid:FuncId} (hbd:aO P fid=true) (vals:Array Value) (w:World):(callFunc fid vals).run P w=.ok (.enter fid vals) w:=by
 unfold aO at hbd;cases hP:P.funcs[fid]? with
 |none=>rw[hP] at hbd;cases hbd
 |some fn=>
  rw[hP] at hbd;simp only[bZi,cAz] at hbd;have hn:fn.body.isNone=false:=by cases h:fn.body<;>simp_all
  simp only[callFunc,Sem.run_bind,run_program,Result.andThen_ok,hP,hbd.2,hn,cEy,cFv,Sem.run_pure]
theorem HS.drew {E:dX} {h:Hp} {n m:Nat} {w:World} (hs:HS E h n m w):HS E h n m w.drew:=⟨fun b k hk=>by
 obtain ⟨g,s,h1,h2⟩:=hs.blk b k hk;exact ⟨g,s,h1,h2.mono (fun _ _ h=>h) rfl⟩,hs.inj,hs.old,hs.free,hs.top,hs.ng,hs.glob⟩
theorem RX.drew {lo:Nat} {E:dX} {h:Hp} {n:Nat} {w:World} {E':dX} {h':Hp} {n':Nat} {w':World} (hx:RX lo E h n w.drew E' h' n' w'):RX lo E h n w E' h' n' w':=⟨hx.os,⟨hx.tape.1,cBc (cEq _) hx.tape.2⟩,hx.output,hx.size,hx.nn,hx.emb,hx.frame,hx.keep,hx.beyond⟩
theorem HS.laid {E:dX} {h:Hp} {n m:Nat} {w:World} (hs:HS E h n m w) (o:Obj):HS E h n m (w.alloc o):=by
 have hold: ∀g,g<w.heap.size→(w.alloc o).heap[g]?=w.heap[g]?:=fun g hg=>by
  show (w.heap.push o)[g]?=w.heap[g]?;rw[cFi,if_neg aN]
 refine ⟨fun b k hk=>?_,hs.inj,fun b g s hb=>by rw[World.size_alloc];have:=hs.old b g s hb;omega,hs.free,hs.top,hs.ng,hs.glob⟩;obtain ⟨g,s,h1,h2⟩:=hs.blk b k hk;exact ⟨g,s,h1,h2.mono (fun _ _ h=>h) (hold g (hs.old b g s h1))⟩
theorem RX.laid {lo:Nat} {E:dX} {h:Hp} {n:Nat} {w:World} {E':dX} {h':Hp} {n' m:Nat} {w':World} (hs:HS E h n m w) (o:Obj) (hx:RX lo E h n (w.alloc o) E' h' n' w'):RX lo E h n w E' h' n' w':=by
 have hold: ∀g,g<w.heap.size→(w.alloc o).heap[g]?=w.heap[g]?:=fun g hg=>by
  show (w.heap.push o)[g]?=w.heap[g]?;rw[cFi,if_neg aN]
 have hsz:(w.alloc o).heap.size=w.heap.size+1:=World.size_alloc _ _;refine ⟨hx.os,hx.tape,hx.output,by have:=hx.size;omega,hx.nn,hx.emb,fun g hg hf=>?_,fun b hb=>?_,hx.beyond⟩
 ·obtain ⟨h1,h2⟩:=hx.frame g aN hf;exact ⟨h1.trans (hold g hg),h2⟩
 obtain ⟨h1,h2⟩:=hx.keep b hb;exact ⟨h1,fun g s hn he=>(h2 g s hn he).trans (hold g (hs.old b g s he))⟩
theorem HS.aside {E:dX} {h:Hp} {n m:Nat} {w:World} (hs:HS E h n m w) {r:Nat} (hr: ∀b z,h b≠none→E b≠some (r,z)) (o:Obj):HS E h n m (w.putObj r o):=by
 refine ⟨fun b k hk=>?_,hs.inj,fun b g s hb=>by rw[World.putObj_size];exact hs.old b g s hb,hs.free,hs.top,hs.ng,hs.glob⟩;obtain ⟨g,s,h1,h2⟩:=hs.blk b k hk;exact ⟨g,s,h1,h2.mono (fun _ _ h=>h) (World.putObj_heap_other fun e=>hr b s (by rw[hk];simp) (by rw[h1,e]))⟩
theorem y8 {F:Fence} {c:Code} {Q Q':Exit→Act→World→Prop} (hq: ∀e a w,Q e a w→Q' e a w): ∀(m:Nat) (a:Act) (w:World),Code.roundsIn F 0 P c Q m a w→Code.roundsIn F 0 P c Q' m a w
 |0,_,_,h=>h
 |m+1,a,w,h=>by
  rw[roundsIn_succ] at h ⊢;refine wpIn_mono h fun e a' w' q=>?_;cases e with
  |normal=>exact y8 hq m a' w' q
  |_=>exact hq _ _ _ q
def s7 (F:Fence) (P:Program) (c0:Code) (Q:Exit→Act→World→Prop):Nat→Code→Act→World→Prop
 |0,_,_,_=>False
 |k+1,c,a,w=>c.wpIn F 0 P (fun e a' w'=>match e with
  | .goto l=>(match findLabel c0 l with
   |some rest=>s7 F P c0 Q k rest a' w'
   |none=>Q (.goto l) a' w')
  |e=>Q e a' w') a w
theorem aMl {b:Frame} {a:Act} {k:List Item} {cs:List Frame} {w:World} {c:Code}:step P (lone (b.atR a (.code (.scope c)::k)) cs w)=.next (lone (b.atR a (.code c:: .inScope c::k)) cs w):=
 step_lone_go (by simp[stepG,stepG.exec,Frame.atR])
theorem aEn {b:Frame} {a:Act} {k:List Item} {cs:List Frame} {w:World} {c:Code}:step P (lone (b.atR a (.inScope c::k)) cs w)=.next (lone (b.atR a k) cs w):=
 step_lone_go (by simp[stepG,stepG.exec,Frame.atR])
theorem s0 {F:Fence} {c0:Code} {Q:Exit→Act→World→Prop}: ∀(m:Nat) (c:Code) (a:Act) (w:World),s7 F P c0 Q m c a w→ ∀(b:Frame) (k:List Item) (cs:List Frame),b.roundOf=F.round→F.fn b.fn→F.room (cs.length+1+0)→
  ∃e a' w',Q e a' w'∧ArrivesIn (Machine.fenced P F) P (lone (b.atR a (.code c:: .inScope c0::k)) cs w) b k cs e a' w'
 |0,_,_,_,h=>h.elim
 |m+1,c,a,w,h=>fun b k cs hro hb hr=>by
  obtain ⟨e,a1,w1,hq,harr⟩:=h b (.inScope c0::k) cs hro hb hr;cases e with
  |normal=>exact ⟨.normal,a1,w1,hq,StepsIn.trans harr (.one (fenced_calm hb hr rfl) aEn)⟩
  |exit id=>exact ⟨.exit id,a1,w1,hq,fun k' hk=>harr.1 k' (by simp[exitTo,hk]),fun h1 h2=>harr.2 h1 (by simp[exitTo,h2])⟩
  |ret=>exact ⟨.ret,a1,w1,hq,harr⟩
  |panic ch=>exact ⟨.panic ch,a1,w1,hq,harr⟩
  |outgrown=>exact ⟨.outgrown,a1,w1,hq,harr⟩
  |goto l=>
   cases hf:findLabel c0 l with
   |none=>
    simp only[hf] at hq;exact ⟨.goto l,a1,w1,hq,fun k' hk=>harr.1 k' (by simp[gotoIn,hf,hk]),fun h1 h2=>harr.2 h1 (by simp[gotoIn,hf,h2])⟩
   |some rest=>
    simp only[hf] at hq;obtain ⟨e2,a2,w2,hq2,harr2⟩:=s0 m rest a1 w1 hq b k cs hro hb hr;exact ⟨e2,a2,w2,hq2,.of_steps (harr.1 _ (by simp[gotoIn,hf])) harr2⟩
theorem aOb {F:Fence} {c:Code} {Q:Exit→Act→World→Prop} {a:Act} {w:World} (m:Nat) (h:s7 F P c Q m c a w):(Code.scope c).wpIn F 0 P Q a w:=fun b k cs hro hb hr=>by
 obtain ⟨e,a1,w1,hq,harr⟩:=s0 m c a w h b k cs hro hb hr;exact ⟨e,a1,w1,hq,.of_steps (.one (fenced_calm hb hr rfl) aMl) harr⟩
theorem aDd {F:Fence} {c0:Code} {Q Q':Exit→Act→World→Prop} (hq: ∀e a w,Q e a w→Q' e a w): ∀(m:Nat) (c:Code) (a:Act) (w:World),s7 F P c0 Q m c a w→s7 F P c0 Q' m c a w
 |0,_,_,_,h=>h
 |m+1,c,a,w,h=>by
  unfold s7 at h ⊢;refine wpIn_mono h fun e a' w' q=>?_;cases e with
  |goto l=>
   cases hf:findLabel c0 l with
   |none=>simp only[hf] at q ⊢;exact hq _ _ _ q
   |some rest=>simp only[hf] at q ⊢;exact aDd hq m rest a' w' q
  |_=>exact hq _ _ _ q
abbrev rK (g:Nat):Deferred:={target:=.collected g,args:= #[]}
structure iJ (D:List Nat) (w w':World) (E':dX) (h':Hp):Prop where
 nodup:D.Nodup
 late: ∀g∈D,w.heap.size≤g
 held: ∀g∈D,w'.heap[g]?=some (.deferred (some []))
 free: ∀g∈D,∀b z,h' b≠none→E' b≠some (g,z)
theorem iJ.nil (w w':World) (E':dX) (h':Hp):iJ [] w w' E' h':=⟨.nil,by simp,by simp,by simp⟩
theorem mT {w:World} {g:Nat} {o:Obj} (h:w.heap[g]?=some o):g<w.heap.size:=(cFj.1 h).1
theorem iJ.next {D:List Nat} {w w1 w2:World} {E1 E2:dX} {h1 h2:Hp} {n1 n2:Nat} (k:iJ D w w1 E1 h1) (hx:RX lo E1 h1 n1 w1 E2 h2 n2 w2):iJ D w w2 E2 h2:=
 ⟨k.nodup,k.late,fun g hg=>((hx.frame g (mT (k.held g hg)) fun b s hb=>k.free g hg b s hb).1).trans (k.held g hg),fun g hg b z hb=>(hx.frame g (mT (k.held g hg)) fun b s hb=>k.free g hg b s hb).2 b z hb⟩
theorem iJ.app {D1 D2:List Nat} {w w1 w2:World} {E1 E2:dX} {h1 h2:Hp} {n1 n2:Nat} (k:iJ D1 w w1 E1 h1) (hx:RX lo E1 h1 n1 w1 E2 h2 n2 w2) (j:iJ D2 w1 w2 E2 h2) (hsz:w.heap.size≤w1.heap.size):iJ (D2++D1) w w2 E2 h2:=by
 have k':=k.next hx
 refine ⟨?_,fun g hg=>?_,fun g hg=>?_,fun g hg=>?_⟩
 ·rw[cCx];refine ⟨j.nodup,k.nodup,fun a ha b hb e=>?_⟩;subst e;have:=j.late a ha;have:=mT (k.held a hb);omega
 ·rcases cEh.1 hg with h|h
  ·exact cBc hsz (j.late g h)
  exact k.late g h
 ·rcases cEh.1 hg with h|h
  ·exact j.held g h
  exact k'.held g h
 rcases cEh.1 hg with h|h
 ·exact j.free g h
 exact k'.free g h
def jK (rd:Bool) (nt lo:Nat) (m:Nat) (E:dX) (s s':St) (e:Exit) (a:Act) (w:World) (e':Exit) (a':Act) (w':World):Prop:=e'=e∧ ∃E' D,SS nt E' s'.t a'∧(a'.defers=List.map rK D++a.defers∧iJ D w w' E' s'.h.get∧(rd=true→D=[]))∧HS E' s'.h.get s'.n m w'∧RX lo E s.h.get s.n w E' s'.h.get s'.n w'
theorem jK.trans {rd:Bool} {m:Nat} {E E1:dX} {s s1 s2:St} {e:Exit} {a a1:Act} {w w1:World} {D:List Nat} (hs:HS E s.h.get s.n m w) (hm:s1.n≤m) (hlo:lo≤s.n) (hd:a1.defers=List.map rK D++a.defers∧iJ D w w1 E1 s1.h.get∧(rd=true→D=[])) (hx:RX lo E s.h.get s.n w E1 s1.h.get s1.n w1) {e':Exit} {a':Act} {w':World}
  (h:jK rd nt lo m E1 s1 s2 e a1 w1 e' a' w'):jK rd nt lo m E s s2 e a w e' a' w':=by
 obtain ⟨h1,E',D2,h2,h3,h4,h5⟩:=h;exact ⟨h1,E',D2++D,h2,⟨by rw[h3.1,hd.1];simp,hd.2.1.app h5 h3.2.1 hx.size,fun hr=>by rw[hd.2.2 hr,h3.2.2 hr];rfl⟩,h4,hx.trans h5 hs hm hlo⟩
theorem oR (hmx:P.follows .mixedOrders=true) (hc:eO P call) (rd:Bool): ∀(f:Nat) (sc:Option Code) (c:Code) (s:St) (e:Exit) (s':St),evC P call cX rd lo nt f sc c s=some (e,s')→lo≤s.n→KH lo s.h s'.h s.n s'.n∧ ∃k:Nat,
  ∀(ro:Option Nat) (m:Nat) (E:dX) (a:Act) (w:World),(rd=false→ro=none)→s'.n≤m→SS nt E s.t a→HS E s.h.get s.n m w→match sc with
   |none=>c.wpIn (FR ro) 0 P (jK rd nt lo m E s s' e a w) a w∧ ∀b,c=.loop b→Code.roundsIn (FR ro) 0 P b (jK rd nt lo m E s s' e a w) k a w
   |some c0=>s7 (FR ro) P c0 (jK rd nt lo m E s s' e a w) k c a w
 |0,_,_,_,_,_,h,_=>by cases h
 |f+1,some c0,c,s,e,s',h,hlo=>by
  unfold evC at h;split at h
  ·rename_i l s1 h1;obtain ⟨k1,kn,k2⟩:=oR hmx hc rd f none c s _ s1 h1 hlo;cases hf:findLabel c0 l with
   |none=>
    rw[hf] at h;cases h;refine ⟨k1,1,fun ro m E a w hro hm hss hs=>?_⟩;unfold s7;refine wpIn_mono (k2 ro m E a w hro hm hss hs).1 ?_;rintro e1 a1 w1 ⟨rfl,r⟩;simp only[hf];exact ⟨rfl,r⟩
   |some rest=>
    rw[hf] at h;obtain ⟨j1,jn,j2⟩:=oR hmx hc rd f (some c0) rest s1 e s' h (cBc hlo k1.nn);refine ⟨k1.trans j1,jn+1,fun ro m E a w hro hm hss hs=>?_⟩;unfold s7;refine wpIn_mono (k2 ro m E a w hro (cBc j1.nn hm) hss hs).1 ?_;rintro e1 a1 w1 ⟨rfl,E1,D1,q1,q2,q3,q4⟩;simp only[hf];exact aDd (fun e2 a2 w2 r=>jK.trans hs (cBc j1.nn hm) hlo q2 q4 r) jn rest a1 w1 (j2 ro m E1 a1 w1 hro hm q1 q3)
  rename_i h1;obtain ⟨k1,kn,k2⟩:=oR hmx hc rd f none c s e s' h hlo;refine ⟨k1,1,fun ro m E a w hro hm hss hs=>?_⟩;unfold s7;refine wpIn_mono (k2 ro m E a w hro hm hss hs).1 ?_;rintro e1 a1 w1 ⟨rfl,r⟩;cases e1 with
  |goto l=>exact absurd h (h1 l s')
  |_=>exact ⟨rfl,r⟩
 |f+1,none,c,s,e,s',h,hlo=>by
  have ih:=fun (c:Code) (s:St) (e:Exit) (s':St) (h:evC P call cX rd lo nt f none c s=some (e,s')) (hlo:lo≤s.n)=>oR hmx hc rd f none c s e s' h hlo;have nl: ∀{ro:Option Nat} {c:Code} {s s':St} {e:Exit} {m:Nat} {E:dX} {a:Act} {w:World},(∀b,c≠ .loop b)→c.wpIn (FR ro) 0 P (jK rd nt lo m E s s' e a w) a w→c.wpIn (FR ro) 0 P (jK rd nt lo m E s s' e a w) a w∧ ∀b,c=.loop b→Code.roundsIn (FR ro) 0 P b (jK rd nt lo m E s s' e a w) 0 a w:=fun hn h=>⟨h,fun b hb=>absurd hb (hn b)⟩;have triv: ∀{m:Nat} {E:dX} {a:Act} {w:World} {e:Exit},SS nt E s.t a→HS E s.h.get s.n m w→jK rd nt lo m E s s e a w e a w:=fun hss hs=>⟨rfl,_,[],hss,⟨rfl,.nil _ _ _ _,fun _=>rfl⟩,hs,RX.refl _ _ _ _ _⟩;unfold evC at h;split at h
  ·cases h;exact ⟨KH.refl _ _ _,0,fun ro m E a w hro hm hss hs=>nl b7 (wpIn_skip (triv hss hs))⟩
  ·cases h;exact ⟨KH.refl _ _ _,0,fun ro m E a w hro hm hss hs=>nl b7 (wpIn_exit (triv hss hs))⟩
  ·cases h;exact ⟨KH.refl _ _ _,0,fun ro m E a w hro hm hss hs=>nl b7 (wpIn_ret (triv hss hs))⟩
  ·cases h;exact ⟨KH.refl _ _ _,0,fun ro m E a w hro hm hss hs=>nl b7 (wpIn_label (triv hss hs))⟩
  ·cases h;exact ⟨KH.refl _ _ _,0,fun ro m E a w hro hm hss hs=>nl b7 (wpIn_goto (triv hss hs))⟩
  ·rename_i c1;obtain ⟨k1,kn,k2⟩:=oR hmx hc rd f (some c1) c1 s e s' h hlo;exact ⟨k1,0,fun ro m E a w hro hm hss hs=>nl b7 (aOb kn (k2 ro m E a w hro hm hss hs))⟩
  ·rename_i x y;split at h
   ·rename_i s1 h1;obtain ⟨k1,kn,k2⟩:=ih x s _ s1 h1 hlo;obtain ⟨j1,jn,j2⟩:=ih y s1 e s' h (cBc hlo k1.nn);refine ⟨k1.trans j1,0,fun ro m E a w hro hm hss hs=>nl b7 (wpIn_seq (wpIn_mono (k2 ro m E a w hro (cBc j1.nn hm) hss hs).1 ?_))⟩;rintro e1 a1 w1 ⟨rfl,E1,D1,q1,q2,q3,q4⟩;exact wpIn_mono (j2 ro m E1 a1 w1 hro hm q1 q3).1 fun e2 a2 w2 r=>jK.trans hs (cBc j1.nn hm) hlo q2 q4 r
   rename_i h1;obtain ⟨k1,kn,k2⟩:=ih x s e s' h hlo;refine ⟨k1,0,fun ro m E a w hro hm hss hs=>nl b7 (wpIn_seq (wpIn_mono (k2 ro m E a w hro hm hss hs).1 ?_))⟩;rintro e1 a1 w1 ⟨rfl,r⟩;cases e1 with
   |normal=>exact absurd h (h1 s')
   |_=>exact ⟨rfl,r⟩
  ·rename_i id b;split at h
   ·rename_i i s1 h1;obtain ⟨k1,kn,k2⟩:=ih b s _ s1 h1 hlo;cases hi:i==id with
    |true=>
     rw[hi] at h;cases h;refine ⟨k1,0,fun ro m E a w hro hm hss hs=>nl b7 (wpIn_block (wpIn_mono (k2 ro m E a w hro hm hss hs).1 ?_))⟩;rintro e1 a1 w1 ⟨rfl,r⟩;simp only[Exit.inBlock];rw[if_pos (by simpa using hi)];exact ⟨rfl,r⟩
    |false=>
     rw[hi] at h;cases h;refine ⟨k1,0,fun ro m E a w hro hm hss hs=>nl b7 (wpIn_block (wpIn_mono (k2 ro m E a w hro hm hss hs).1 ?_))⟩;rintro e1 a1 w1 ⟨rfl,r⟩;simp only[Exit.inBlock];rw[if_neg (by simpa using hi)];exact ⟨rfl,r⟩
   rename_i h1;obtain ⟨k1,kn,k2⟩:=ih b s e s' h hlo;refine ⟨k1,0,fun ro m E a w hro hm hss hs=>nl b7 (wpIn_block (wpIn_mono (k2 ro m E a w hro hm hss hs).1 ?_))⟩;rintro e1 a1 w1 ⟨rfl,r⟩;cases e1 with
   |exit i=>exact absurd h (h1 i s')
   |_=>exact ⟨rfl,r⟩
  ·rename_i x c1 c2;split at h
   ·rename_i t hx;obtain ⟨ho,h⟩:=bY h;have hv: ∀{E:dX} {a:Act},SS nt E s.t a→a.eval x=.bool t:=fun hss=>by
     have:=hss.opd x ho;rw[hx] at this;generalize Act.eval _ x=y at this ⊢;cases this;rfl
    cases t with
    |true=>
     obtain ⟨k1,kn,k2⟩:=ih c1 s e s' h hlo;exact ⟨k1,0,fun ro m E a w hro hm hss hs=>nl b7 (wpIn_cond_true (hv hss) (k2 ro m E a w hro hm hss hs).1)⟩
    |false=>
     obtain ⟨k1,kn,k2⟩:=ih c2 s e s' h hlo;exact ⟨k1,0,fun ro m E a w hro hm hss hs=>nl b7 (wpIn_cond_false (hv hss) (k2 ro m E a w hro hm hss hs).1)⟩
   cases h
  ·rename_i b;split at h
   ·rename_i s1 h1;obtain ⟨k1,kn,k2⟩:=ih b s _ s1 h1 hlo;obtain ⟨j1,jn,j2⟩:=ih (.loop b) s1 e s' h (cBc hlo k1.nn);refine ⟨k1.trans j1,jn+1,fun ro m E a w hro hm hss hs=>?_⟩;have key:Code.roundsIn (FR ro) 0 P b (jK rd nt lo m E s s' e a w) (jn+1) a w:=by
     rw[roundsIn_succ];refine wpIn_mono (k2 ro m E a w hro (cBc j1.nn hm) hss hs).1 ?_;rintro e1 a1 w1 ⟨rfl,E1,D1,q1,q2,q3,q4⟩;exact y8 (fun e2 a2 w2 r=>jK.trans hs (cBc j1.nn hm) hlo q2 q4 r) jn a1 w1 ((j2 ro m E1 a1 w1 hro hm q1 q3).2 b rfl)
    exact ⟨wpIn_loop_rounds _ key,fun b' hb'=>by cases hb';exact key⟩
   rename_i h1;obtain ⟨k1,kn,k2⟩:=ih b s e s' h hlo;refine ⟨k1,1,fun ro m E a w hro hm hss hs=>?_⟩;have key:Code.roundsIn (FR ro) 0 P b (jK rd nt lo m E s s' e a w) 1 a w:=by
    rw[roundsIn_succ];refine wpIn_mono (k2 ro m E a w hro hm hss hs).1 ?_;rintro e1 a1 w1 ⟨rfl,r⟩;cases e1 with
    |normal=>exact absurd h (h1 s')
    |_=>exact ⟨rfl,r⟩
   exact ⟨wpIn_loop_rounds 1 key,fun b' hb'=>by cases hb';exact key⟩
  ·rename_i id ops';obtain ⟨hr,h⟩:=bY h;rw[cBa] at h;obtain ⟨s1,h1,h2⟩:=h;obtain ⟨rfl,rfl⟩:=Prod.mk.inj h2;obtain ⟨k1,k2⟩:=aJo hc hr ops'.toList s s1 (fun _ h=>h) h1 hlo;refine ⟨k1,0,fun ro m E a w hro hm hss hs=>nl b7 ?_⟩;have:=wpIn_region_lit (F:=FR ro) (n:=0) (P:=P) (id:=id) (Q:=jK rd nt lo m E s s1 .normal a w) (l:=ops'.toList) (k2 ro m E a w _ hm hss hs fun E' a' w' q1 q2 q3 q4=>⟨rfl,E',[],q1,⟨q2,.nil _ _ _ _,fun _=>rfl⟩,q3,q4⟩);simpa using this
  ·rename_i id ops';obtain ⟨hr,h⟩:=bY h;rw[bZi] at hr;rw[cBa] at h;obtain ⟨s1,h1,h2⟩:=h;obtain ⟨rfl,rfl⟩:=Prod.mk.inj h2;obtain ⟨k1,k2⟩:=yF hc hr.1 hr.2 _ 0 [] ops'.toList s s1 h1 (fun j=>by rw[cFa]) b7 hlo;refine ⟨k1,0,fun ro m E a w hro hm hss hs=>nl b7 (wpIn_region_any hmx ?_)⟩;have:=k2 ro m (jK rd nt lo m E s s1 .normal a w) ops'.size (Array.replicate ops'.size false) E a w.drew hm b7 (fun i hi hl=>by
     have hi':i<ops'.size:=by simpa using hi
     simp[cBt,hi'] at hl) (fun j hj=>by
     have hj':j<ops'.size:=by simpa using hj
     simp[cBt,hj']) ⟨List.range ops'.size,by simp,fun j hj _=>by simpa using hj⟩ hss hs.drew
    fun E' a' w' q1 q2 q3 q4=>⟨rfl,E',[],q1,⟨q2,.nil _ _ _ _,fun _=>rfl⟩,q3,q4.drew⟩
   simpa using this
  ·rename_i g ps asg body;split at h<;>try cases h
   rename_i fid fs cs hg;obtain ⟨hck,h⟩:=bY h;simp only[bZi,cAz,cFp] at hck;obtain ⟨hrd,hgo,hbd,hub⟩:=hck;split at h<;>try cases h
   rename_i v h2 n2 hcall;split at h<;>try cases h
   rename_i st pe t1 nt1 ps1 asg1 body1 hrec;have hst: ¬st=.busy:=fun e=>by rw[cFr e] at h;cases h
   rw[cFs hst] at h;simp only[cDq] at h;generalize hh1:s.h.set s.n (some (.lp .ready none s.t nt ps.toList asg body))=h1 at hcall;generalize hh3:h2.set s.n (some (.lp .exhausted pe t1 nt1 ps1 asg1 body1))=h3 at h;obtain ⟨q1,q2⟩:=hc _ _ _ _ _ _ _ _ hcall (Nat.le_succ_of_le hlo)
   have q2: ∀(m:Nat) (E:dX) (w:World) (vals:Array Value),n2≤m→HS E h1.get (s.n+1) m w→vals.size=(fs++[RV.yl s.n]++cs).length→(∀(j:Nat) (d:RV) (u:Value),(fs++[RV.yl s.n]++cs)[j]?=some d→vals[j]?=some u→Rr E d u)→
    Calls P fid vals w (hQ lo E h1 (s.n+1) w v h2 n2 m):=fun m E w vals g1 g2 g3 g4=>by
    have:=q2 m E w vals g1 g2 g3 g4;have g5:(if aO P fid=true then Calls P fid vals w (hQ lo E h1 (s.n+1) w v h2 n2 m) else _):=this
    rwa [if_pos hbd] at g5
   have hk1:KH lo s.h h1 s.n (s.n+1):=hh1▸KH.new hlo hub _;have hk3:KH lo h2 h3 n2 n2:=hh3▸KH.turn hlo (Nat.lt_of_succ_le q1.nn) hub _;have hnn:s.n+1≤n2:=q1.nn;have hs':s'=⟨s.t,h3,n2⟩:=by
    split at h<;>first|(cases h;rfl)|cases h
   subst hs';refine ⟨(hk1.trans q1).trans hk3,0,fun ro m E a w hro hm hss hs=>nl b7 (wpIn_rangeFunc fun fn _=>?_)⟩;have hm:n2≤m:=hm;obtain rfl:ro=none:=hro hrd;have hgr:=hss.opd g hgo;rw[hg] at hgr;generalize hgv:a.eval g=gv at hgr;cases hgr with
   |fn _ _ _ us vs hf1 hc1 hfr hcr=>
    have hcf: ∀(vals:Array Value) (w:World),(callFunc fid vals).run P w=.ok (.enter fid vals) w:=fun vals w=>qY hbd vals w;obtain ⟨rec,hrecd⟩: ∃rec:Loop,rec={state:=.ready,pending:=none,fn,tmps:=a.tmps,params:=ps,assign:=asg,body,defers:=w.heap.size}:=⟨_,rfl⟩;obtain ⟨W0,hW0⟩: ∃W0,w.alloc (.deferred (some []))=W0:=⟨_,rfl⟩;obtain ⟨W1,hW1⟩: ∃W1,W0.alloc (.loop rec)=W1:=⟨_,rfl⟩;have hsz0:W0.heap.size=w.heap.size+1:=by rw[← hW0];exact World.size_alloc _ _
    have hsz1:W1.heap.size=w.heap.size+2:=by rw[← hW1,World.size_alloc,hsz0]
    have hs0:HS E s.h.get s.n m W0:=by rw[← hW0];exact hs.laid _
    have hpush:W1.heap=W0.heap.push (.loop rec):=by rw[← hW1];rfl
    have hL1:W1.heap[w.heap.size+1]?=some (.loop rec):=by rw[hpush,← hsz0];simp
    have Z0:W0.heap[w.heap.size]?=some (.deferred (some [])):=by
     rw[← hW0];show (w.heap.push _)[w.heap.size]?=_;simp
    have Z1:W1.heap[w.heap.size]?=some (.deferred (some [])):=by
     rw[hpush,cFi,if_neg aN];exact Z0
    obtain ⟨r1,r2,r3⟩:=hs0.new (lo:=lo) aN hlo (w':=W1) hpush (by rw[← hW1];rfl) (by rw[← hW1];exact ⟨rfl,cCq _⟩) (by rw[← hW1];rfl) (k:=.lp .ready none s.t nt ps.toList asg body) (s:=0)
     ⟨rec,by rw[hsz0];exact hL1,by rw[hrecd],by rw[hrecd],by rw[hrecd],by rw[hrecd],by rw[hrecd],by rw[hrecd];exact hss.size,fun i hi=>by rw[hrecd];exact (hss.slot i hi).mono (pH hs aN _)⟩
    rw[hsz0] at r1 r2 r3;rw[← d2 hub,hh1] at r1 r2;rw[← hW0] at r2;replace r2:=RX.laid hs _ r2;generalize hE1:oW E s.n (some (w.heap.size+1,0))=E1 at r1 r2 r3;have hEn:E1 s.n=some (w.heap.size+1,0):=by rw[← hE1];exact dB _ _ _
    have hun: ∀b z,h1.get b≠none→E1 b≠some (w.heap.size,z):=fun b z hb he=>by
     by_cases e:b=s.n
     ·subst e;rw[hEn] at he;simp at he
     rw[← hE1,eY _ _ e] at he;have:=hs.old b _ z he;omega
    refine ⟨w.heap.size+1,[rK w.heap.size],W1,{target:=.fn (.func fid) vs,args:=us++ #[.func (.yield (w.heap.size+1)) #[] #[]]},W1,fid,us++ #[.func (.yield (w.heap.size+1)) #[] #[]]++vs,W1,?_,?_,fun _ _=>trivial,?_,qD _,?_⟩
    ·rw[← hW1,← hW0,hrecd];exact run_enterLoop_outer _ _ _ _ _
    ·simp only[resolve,hgv];simp[Deferred.ofValue,Act.eval]
    ·simp[invoke,hcf]
    have hcl:Calls P fid (us++ #[.func (.yield (w.heap.size+1)) #[] #[]]++vs) W1 (hQ lo E1 h1 (s.n+1) W1 v h2 n2 m):=q2 m E1 W1 _ hm r1 (by simp only[cAb,cDx,cCz,cDl,cCv];omega) (fun j d u hd hu=>by
     rw[bZq,bZq] at hd;rw[cDw,cDw] at hu;simp only[cAb,cDx,cCz,cDl,cCv] at hd hu;rw[hf1] at hd;split at hd
     ·rename_i h1;rw[if_pos h1] at hu;split at hd
      ·rename_i h2;rw[if_pos h2] at hu;exact (hfr j d u hd hu).mono r3
      rename_i h2;rw[if_neg h2] at hu;obtain ⟨rfl⟩:j=us.size:=by omega
      simp at hd hu;subst hd;subst hu;exact .yl _ _ _ hEn
     rename_i h1;rw[if_neg h1] at hu;exact (hcr _ d u hd hu).mono r3)
    refine tQ (Calls.mono hcl ?_);rintro e2 w2 ⟨y,E2,rfl,p1,p2,p3⟩;obtain ⟨g2,z2,u1,rr,u2,u3,u4,u5,u6,u7,u8,u9⟩:=p1.blk s.n _ hrec;have hE2:E2 s.n=some (w.heap.size+1,0):=by rw[p2.emb s.n (.inl aN)];exact hEn
    rw[hE2] at u1;cases u1;have hfrm:=p2.frame w.heap.size aN fun b z hb=>hun b z hb
    obtain ⟨t1',t2'⟩:=p1.turn (lo:=lo) (b:=s.n) (g:=w.heap.size+1) (s:=0) hlo aN (by rw[hrec];simp) hE2 (w':=w2.putObj (w.heap.size+1) (.loop {rr with state:=.exhausted})) b7 (fun g' hg'=>World.putObj_heap_other hg') rfl ⟨rfl,cCq _⟩ rfl
     (k:=.lp .exhausted pe t1 nt1 ps1 asg1 body1) ⟨{rr with state:=.exhausted},World.putObj_heap_same (mT u2),rfl,u4,u5,u6,u7,u8,u9⟩
    rw[← d2 hub,hh3] at t1' t2';have hpost: ∀e0,jK rd nt lo m E s ⟨s.t,h3,n2⟩ e0 a w e0 {a with defers:=[rK w.heap.size]++a.defers} (w2.putObj (w.heap.size+1) (.loop {rr with state:=.exhausted})):=fun e0=>by
     have hup: ∀b p,E b=some p→E2 b=some p:=fun b p hp=>r1.up p2 hm b p (r3 b p hp);have hkk:=t2'.frame w.heap.size (mT (hfrm.1.trans Z1)) fun b z hb=>hfrm.2 b z hb;refine ⟨rfl,E2,[w.heap.size],(show SS nt E s.t {a with defers:=[rK w.heap.size]++a.defers} from ⟨hss.size,hss.slot⟩).mono hup,⟨rfl,⟨by simp,by simp,by simpa using hkk.1.trans (hfrm.1.trans Z1),by simpa using hkk.2⟩,fun hr=>by rw[hrd] at hr;cases hr⟩,t1',?_⟩;exact (r2.trans p2 hs aN hlo).trans t2' hs hm hlo
    refine ⟨pe,w2.putObj (w.heap.size+1) (.loop {rr with state:=.exhausted}),?_,?_⟩
    ·have:=run_endLoop (P:=P) u2 (by rw[u3];exact hst);rw[← u4];exact this
    split at h<;>cases h
    ·exact hpost _
    ·exact wpIn_ret (hpost _)
    exact wpIn_exit (hpost _)
  cases h
end
end
end Go.Rv
namespace Go.Rv
open Go.RowKit Go.Sg
noncomputable section
def dfR:Code→Option (Oper×Oper×Operand)
 | .region _ ops false=>(match ops.toList with
  | [o1,o2]=>(match o2.op with
   | .defer ⟨.value x,args,_⟩=>bif args.toList.isEmpty&&(o2.guard.isNone&&o2.dst.isNone) then some (o1,o2,x) else none
   |_=>none)
  |_=>none)
 |_=>none
def evT (P:Program) (call:lG) (cX:FuncId→Bool) (lo nt f0:Nat):Nat→Code→St→Option (Exit×St×List RV)
 |0,_,_=>none
 |f+1,c,s=>match c with
  | .seq x y=>(match evT P call cX lo nt f0 f x s with
   |some (.normal,s1,L1)=>(match evT P call cX lo nt f0 f y s1 with
    |some (e,s2,L2)=>some (e,s2,L2++L1)
    |none=>none)
   |r=>r)
  |c=>(match dfR c with
   |some (o1,o2,x)=>bif nE nt [o1,o2]&&iE nt x then (match evO P call lo [o1,o2] s.t s.h s.n o1 with
     |some (v,h',n')=>(match eN (pY s.t o1.dst (v.getD .nov)) x with
      | .fn fid fs cs=>some (.normal,⟨pY s.t o1.dst (v.getD .nov),h',n'⟩,[.fn fid fs cs])
      |_=>none)
     |none=>none) else none
   |none=>(match evC P call cX false lo nt f0 none c s with
    |some (e,s1)=>some (e,s1,[])
    |none=>none))
inductive DI (E:dX):List Nat→List RV→List Deferred→Prop
 |nil:DI E [] [] []
 |mark {g:Nat} {D:List Nat} {L:List RV} {ds:List Deferred} (h:DI E D L ds):DI E (g::D) L (rK g::ds)
 |fn {f:FuncId} {fs cs:List RV} {us vs:Array Value} {D:List Nat} {L:List RV} {ds:List Deferred} (hr:Rr E (.fn f fs cs) (.func (.func f) us vs)) (h:DI E D L ds):DI E D (.fn f fs cs::L) ({target:=.fn (.func f) vs,args:=us}::ds)
theorem DI.mono {E E':dX} (hE: ∀b p,E b=some p→E' b=some p) {D:List Nat} {L:List RV} {ds:List Deferred} (h:DI E D L ds):DI E' D L ds:=by
 induction h with
 |nil=>exact .nil
 |mark _ ih=>exact .mark ih
 |fn hr _ ih=>exact .fn (hr.mono hE) ih
theorem DI.app {E:dX} {D1:List Nat} {L1:List RV} {ds1:List Deferred} (h:DI E D1 L1 ds1) {D2:List Nat} {L2:List RV} {ds2:List Deferred} (h2:DI E D2 L2 ds2):DI E (D1++D2) (L1++L2) (ds1++ds2):=by
 induction h with
 |nil=>exact h2
 |mark _ ih=>exact .mark ih
 |fn hr _ ih=>exact .fn hr ih
theorem DI.marks (E:dX): ∀D:List Nat,DI E D [] (D.map rK)
 | []=>.nil
 |g::D=>.mark (DI.marks E D)
section
variable {P:Program} {nt lo:Nat} {call:lG} {cX:FuncId→Bool}
def bBp (nt lo:Nat) (m:Nat) (E:dX) (s s':St) (L:List RV) (e:Exit) (a:Act) (w:World) (e':Exit) (a':Act) (w':World):Prop:=e'=e∧ ∃E' D ds,SS nt E' s'.t a'∧(a'.defers=ds++a.defers∧DI E' D L ds∧iJ D w w' E' s'.h.get)∧HS E' s'.h.get s'.n m w'∧RX lo E s.h.get s.n w E' s'.h.get s'.n w'
theorem aHk (hmx:P.follows .mixedOrders=true) (hc:eO P call) (f0:Nat): ∀(f:Nat) (c:Code) (s:St) (e:Exit) (s':St) (L:List RV),evT P call cX lo nt f0 f c s=some (e,s',L)→lo≤s.n→KH lo s.h s'.h s.n s'.n∧
  ∀(m:Nat) (E:dX) (a:Act) (w:World),s'.n≤m→SS nt E s.t a→HS E s.h.get s.n m w→c.wpIn (FR none) 0 P (bBp nt lo m E s s' L e a w) a w
 |0,_,_,_,_,_,h,_=>by cases h
 |f+1,c,s,e,s',L,h,hlo=>by
  unfold evT at h;split at h
  ·rename_i x y;split at h
   ·rename_i s1 L1 h1;split at h<;>cases h;rename_i L2 h2;obtain ⟨k1,k2⟩:=aHk hmx hc f0 f x s _ s1 L1 h1 hlo;obtain ⟨j1,j2⟩:=aHk hmx hc f0 f y s1 e s' L2 h2 (cBc hlo k1.nn);refine ⟨k1.trans j1,fun m E a w hm hss hs=>wpIn_seq (wpIn_mono (k2 m E a w (cBc j1.nn hm) hss hs) ?_)⟩;rintro e1 a1 w1 ⟨rfl,E1,D1,ds1,q1,q2,q3,q4⟩;refine wpIn_mono (j2 m E1 a1 w1 hm q1 q3) ?_;rintro e2 a2 w2 ⟨rfl,E2,D2,ds2,p1,p2,p3,p4⟩;exact ⟨rfl,E2,D2++D1,ds2++ds1,p1,⟨by rw[p2.1,q2.1];simp,p2.2.1.app (q2.2.1.mono (q3.up p4 hm)),q2.2.2.app p4 p2.2.2 q4.size⟩,p3,q4.trans p4 hs (cBc j1.nn hm) hlo⟩
   rename_i h1;obtain ⟨k1,k2⟩:=aHk hmx hc f0 f x s e s' L h hlo;refine ⟨k1,fun m E a w hm hss hs=>wpIn_seq (wpIn_mono (k2 m E a w hm hss hs) ?_)⟩;rintro e1 a1 w1 ⟨rfl,r⟩;cases e1 with
   |normal=>exact absurd h (h1 s' L)
   |_=>exact ⟨rfl,r⟩
  split at h
  ·rename_i o1 o2 x hdf;obtain ⟨hck,h⟩:=bY h;rw[bZi] at hck;split at h<;>try cases h
   rename_i v h' n' hv;split at h<;>cases h;rename_i fid fs cs hx;obtain ⟨k1,k2⟩:=aIy hc hlo hv;obtain ⟨hnt,hall⟩:=jY hck.1;obtain ⟨ho1,ho2⟩:=hall o1 b7;refine ⟨k1,fun m E a w hm hss hs=>?_⟩;unfold dfR at hdf;split at hdf<;>try cases hdf
   rename_i id ops _;split at hdf<;>try cases hdf
   rename_i p1 p2 hl;split at hdf<;>try cases hdf
   rename_i x' args ts hop;obtain ⟨hck2,hdf⟩:=bY hdf;cases hdf;simp only[bZi,List.isEmpty_iff] at hck2;have hargs:args= #[]:=by simpa using hck2.1
   have hg2:o2.guard=none:=by simpa using hck2.2.1
   have hd2:o2.dst=none:=by simpa using hck2.2.2
   have key:wpListIn (FR none) 0 P [o1,o2].toArray (bBp nt lo m E s ⟨pY s.t o1.dst (v.getD .nov),h',n'⟩ [.fn fid fs cs] .normal a w) [o1,o2] a w:=by
    refine wpListIn_step fun K hK=>?_;refine k2 none m E a w hm (hss.opds ho1) (hss.gslot fun o ho=>(hall o ho).2) hs K _ fun E' y w' q1 q2 q3=>hK _ _ ?_;have hss':=(hss.mono (hs.up q2 hm)).putD hnt (kU ho2) q3;refine wpListIn_step fun _ Z2=>?_;rw[if_pos (by simp[Region.wanted,hg2])];refine ⟨fun _ _=>trivial,?_⟩;have hxr:=hss'.opd x hck.2;rw[hx] at hxr;generalize hgv:(a.put o1.dst y).eval x=gv at hxr;cases hxr with
    |fn _ _ _ us vs hf1 hc1 hfr hcr=>
    have hrun:(o2.semAt (FR none).round (a.put o1.dst y).eval).run P w'=.ok (.defer {target:=.fn (.func fid) vs,args:=us}) w':=by
     show (execOp (a.put o1.dst y).eval o2).run P w'=_;rw[hargs] at hop;simp[execOp,hop,resolve,hgv,Deferred.ofValue]
    rw[hrun,Oper.uponIn_defer,hd2];refine Z2 _ _ (wpListIn_nil ?_);exact ⟨rfl,E',[],[{target:=.fn (.func fid) vs,args:=us}],⟨hss'.size,hss'.slot⟩,⟨by simp[Act.put];cases o1.dst<;>rfl,.fn (.fn fid fs cs us vs hf1 hc1 hfr hcr) .nil,.nil _ _ _ _⟩,q1,q2⟩
   have:=wpIn_region_lit (F:=FR none) (n:=0) (P:=P) (id:=id) (Q:=bBp nt lo m E s ⟨pY s.t o1.dst (v.getD .nov),h',n'⟩ [.fn fid fs cs] .normal a w) (l:=[o1,o2]) key;rw[← hl] at this;simpa using this
  split at h<;>cases h;rename_i hev;obtain ⟨k1,k,k2⟩:=oR hmx hc false f0 none c s e s' hev hlo;refine ⟨k1,fun m E a w hm hss hs=>wpIn_mono (k2 none m E a w (fun _=>rfl) hm hss hs).1 ?_⟩;rintro e1 a1 w1 ⟨rfl,E1,D1,q1,q2,q3,q4⟩;exact ⟨rfl,E1,D1,D1.map rK,q1,⟨q2.1,DI.marks E1 D1,q2.2.1⟩,q3,q4⟩
def aMp (P:Program):List Oper→St→Option St
 | [],s=>some s
 |o::l,s=>bif o.guard.isNone then (match puR P s.t s.h.get o.op with
  |some v=>aMp P l ⟨pY s.t o.dst v,s.h,s.n⟩
  |none=>none) else none
def rcR:Code→Option (List Oper×Oper×List Oper)
 | .region _ ops false=>(match ops.toList with
  |o::l=>(match o.op with
   | .call ⟨.builtin .recover,args,_⟩=>bif args.toList.isEmpty&&o.guard.isNone then some (o::l,o,l) else none
   |_=>none)
  |_=>none)
 |_=>none
def evS (P:Program) (call:lG) (cX:FuncId→Bool) (lo nt f0:Nat):Nat→Code→St→Option (Exit×St)
 |0,_,_=>none
 |f+1,c,s=>match c with
  | .seq x y=>(match evS P call cX lo nt f0 f x s with
   |some (.normal,s1)=>evS P call cX lo nt f0 f y s1
   |r=>r)
  |c=>(match rcR c with
   |some (all,o,l)=>bif nE nt all then (match aMp P l ⟨pY s.t o.dst .nili,s.h,s.n⟩ with
     |some s1=>some (.normal,s1)
     |none=>none) else none
   |none=>evC P call cX true lo nt f0 none c s)
def bUi (nt lo:Nat) (m:Nat) (E:dX) (s s':St) (e:Exit) (a:Act) (cs:List Frame) (w:World) (e':Exit) (a':Act) (cs':List Frame) (w':World):Prop:=e'=e∧cs'=cs∧ ∃E',SS nt E' s'.t a'∧a'.defers=a.defers∧HS E' s'.h.get s'.n m w'∧RX lo E s.h.get s.n w E' s'.h.get s'.n w'
theorem aRa: ∀(l:List Oper) (s s':St),aMp P l s=some s'→s'.h=s.h∧s'.n=s.n
 | [],s,s',h=>by unfold aMp at h;cases h;exact ⟨rfl,rfl⟩
 |o::l,s,s',h=>by
  unfold aMp at h;obtain ⟨_,h⟩:=bY h;split at h
  ·have:=aRa l _ s' h;exact this
  cases h
theorem aRu {ops:Array Oper} (hreg:nE nt ops.toList=true) {Q:Exit→Act→List Frame→World→Prop} {cs:List Frame} {w:World} {E:dX} {m:Nat} {s':St} {ds:List Deferred} (hq: ∀a',SS nt E s'.t a'→a'.defers=ds→Q .normal a' cs w):
  ∀(l:List Oper) (k:Nat) (s:St) (a:Act),(∀j,l[j]?=ops[k+j]?)→aMp P l s=some s'→SS nt E s.t a→a.defers=ds→HS E s.h.get s.n m w→wpOpsSIn (FR none) 0 P ops Q (List.range' k l.length) a cs w
 | [],k,s,a,_,h,hss,hdf,hs=>by
  unfold aMp at h;cases h;exact hq a hss hdf
 |o::l,k,s,a,hl,h,hss,hdf,hs=>by
  obtain ⟨hnt,hall⟩:=jY hreg;unfold aMp at h;obtain ⟨hg,h⟩:=bY h;have hg:o.guard=none:=by simpa using hg
  split at h<;>try cases h
  rename_i v hv;have ho:ops[k]?=some o:=by have:=hl 0;simpa using this.symm
  have hmem:o∈ops.toList:=by rw[cFg];exact cBu ho
  obtain ⟨ho1,ho2⟩:=hall o hmem;obtain ⟨y,hy,hry⟩:=aZc hs o (hss.opds ho1) hv;rw[cDx,List.range'_succ];unfold wpOpsSIn;simp only[ho];refine ⟨fun _ _=>trivial,?_⟩;rw[if_pos (by simp[Region.wanted,hg]),hy];exact aRu hreg hq l (k+1) ⟨pY s.t o.dst v,s.h,s.n⟩ _ (fun j=>by have:=hl (j+1);simpa[cCa,bZj 1 j] using this) h (hss.putD hnt (kU ho2) hry) (by rw[d7];exact hdf) hs
theorem aHh (hmx:P.follows .mixedOrders=true) (hc:eO P call) (f0:Nat): ∀(f:Nat) (c:Code) (s:St) (e:Exit) (s':St),evS P call cX lo nt f0 f c s=some (e,s')→lo≤s.n→KH lo s.h s'.h s.n s'.n∧
  ∀(m:Nat) (E:dX) (a:Act) (cs:List Frame) (w:World),s'.n≤m→recoverD cs=none→SS nt E s.t a→HS E s.h.get s.n m w→c.wpSIn (FR none) 0 P (bUi nt lo m E s s' e a cs w) a cs w
 |0,_,_,_,_,h,_=>by cases h
 |f+1,c,s,e,s',h,hlo=>by
  unfold evS at h;split at h
  ·rename_i x y;split at h
   ·rename_i s1 h1;obtain ⟨k1,k2⟩:=aHh hmx hc f0 f x s _ s1 h1 hlo;obtain ⟨j1,j2⟩:=aHh hmx hc f0 f y s1 e s' h (cBc hlo k1.nn);refine ⟨k1.trans j1,fun m E a cs w hm hrc hss hs=>wpSIn_seq ?_⟩;have hx:=k2 m E a cs w (cBc j1.nn hm) hrc hss hs;intro b k hb hr hF hroom;obtain ⟨e1,a1,cs1,w1,hl1,⟨he1,rfl,E1,q1,q2,q3,q4⟩,harr⟩:=hx b k hb hr hF hroom;subst he1;refine ⟨.normal,a1,cs1,w1,hl1,?_,harr⟩;show y.wpSIn (FR none) 0 P _ a1 cs1 w1;have hy:=j2 m E1 a1 cs1 w1 hm hrc q1 q3;intro b k hb hr hF hroom;obtain ⟨e2,a2,cs2,w2,hl2,⟨rfl,rfl,E2,p1,p2,p3,p4⟩,harr2⟩:=hy b k hb hr hF hroom;exact ⟨e2,a2,cs2,w2,hl2,⟨rfl,rfl,E2,p1,p2.trans q2,p3,q4.trans p4 hs (cBc j1.nn hm) hlo⟩,harr2⟩
   rename_i h1;obtain ⟨k1,k2⟩:=aHh hmx hc f0 f x s e s' h hlo;refine ⟨k1,fun m E a cs w hm hrc hss hs=>wpSIn_seq ?_⟩;have hx:=k2 m E a cs w hm hrc hss hs;intro b k hb hr hF hroom;obtain ⟨e1,a1,cs1,w1,hl1,⟨rfl,r⟩,harr⟩:=hx b k hb hr hF hroom;refine ⟨e1,a1,cs1,w1,hl1,?_,harr⟩;cases e1 with
   |normal=>exact absurd h (h1 s')
   |_=>exact ⟨rfl,r⟩
  split at h
  ·rename_i all o l hrcr;obtain ⟨hck,h⟩:=bY h;split at h<;>cases h;rename_i hrd;obtain ⟨hh1,hn1⟩:=aRa l _ s' hrd;have hh1:s'.h=s.h:=hh1;have hn1:s'.n=s.n:=hn1;refine ⟨by rw[hh1,hn1];exact KH.refl _ _ _,fun m E a cs w hm hrc hss hs=>?_⟩;unfold rcR at hrcr;split at hrcr<;>try cases hrcr
   rename_i id ops _;split at hrcr<;>try cases hrcr
   rename_i o' l' hl;split at hrcr<;>try cases hrcr
   rename_i args ts hop;obtain ⟨hck2,hrcr⟩:=bY hrcr;cases hrcr;simp only[bZi,List.isEmpty_iff] at hck2;have hargs:args= #[]:=by simpa using hck2.1
   have hg:o.guard=none:=by simpa using hck2.2
   obtain ⟨hnt,hall⟩:=jY hck;obtain ⟨ho1,ho2⟩:=hall o b7;refine wpSIn_region ?_;have hsz:ops.size=l.length+1:=by
    have:ops.toList.length=(o::l).length:=by rw[hl]
    simpa using this
   rw[List.range_eq_range',hsz,List.range'_succ];have ho0:ops[0]?=some o:=by
    rw[← cAg,hl];rfl
   unfold wpOpsSIn;simp only[ho0];refine ⟨fun _ _=>trivial,?_⟩;rw[hargs] at hop;have hrun:(execOp a.eval o).run P w=.ok .recover w:=by
    simp[execOp,hop,resolve,invoke,builtin]
   rw[if_pos (by simp[Region.wanted,hg]),hrun];simp only[hrc];have hss':=hss.putD hnt (kU ho2) (v:=.nili) (x:=.nilIface) .nili;refine aRu (nt:=nt) (E:=E) (m:=m) (ds:=a.defers) (s':=s') (by rw[hl];exact hck) (fun a' p1 p2=>⟨rfl,rfl,E,p1,p2,by rw[hh1,hn1];exact hs,by rw[hh1,hn1];exact RX.refl _ _ _ _ _⟩) l 1 ⟨pY s.t o.dst .nili,s.h,s.n⟩ _ (fun j=>?_) hrd hss' (by rw[d7]) hs;rw[← cAg,hl,bZj 1 j];rfl
  rename_i hnone;obtain ⟨k1,k,k2⟩:=oR hmx hc true f0 none c s e s' h hlo;refine ⟨k1,fun m E a cs w hm hrc hss hs=>wpSIn_of_wpIn rfl (wpIn_mono (k2 none m E a w (fun _=>rfl) hm hss hs).1 ?_)⟩;rintro e1 a1 w1 ⟨rfl,E1,D1,q1,q2,q3,q4⟩;have hD:=q2.2.2 rfl;subst hD;exact ⟨rfl,rfl,E1,q1,q2.1,q3,q4⟩
end
end
end Go.Rv
namespace Go.Rv
open Go.RowKit Go.Sg
noncomputable section
def qF:Nat→List RV→Tr RV→Tr RV
 |_,[],t=>t
 |k,v::l,t=>qF (k+1) l (t.set k (some v))
theorem aDi: ∀(l:List RV) (k:Nat) (t:Tr RV) (i:Nat),k+l.length≤ub→(qF k l t).get i=if k≤i∧i<k+l.length then l[i-k]? else t.get i
 | [],k,t,i,_=>by rw[if_neg b7];rfl
 |v::l,k,t,i,h=>by
  unfold qF;have hl:(v::l).length=l.length+1:=rfl;rw[hl] at h;rw[aDi l (k+1) _ i aN,Tr.get_set aN];by_cases e:i=k
  ·subst e;rw[if_neg aN,if_pos rfl,if_pos (by rw[hl];omega),Nat.sub_self];rfl
  by_cases e2:k+1≤i∧i<k+1+l.length
  ·rw[if_pos e2,if_pos (by rw[hl];omega)];obtain ⟨j,rfl⟩: ∃j,i=k+1+j:=⟨i-(k+1),by omega⟩;rw[show k+1+j-(k+1)=j by omega,show k+1+j-k=j+1 by omega];rfl
  rw[if_neg e2,if_neg e,if_neg (by rw[hl];omega)]
def bQk (P:Program) (nt:Nat) (s:St):ResultVar→Option RV
 | .tmp t=>bif decide (t<nt) then some ((s.t.get t).getD .nov) else none
 | .cell t ty=>bif decide (t<nt) then tA P s.h.get ty ((s.t.get t).getD .nov) else none
def aQn (P:Program) (nt:Nat) (s:St):List ResultVar→Option (List RV)
 | []=>some []
 |v::l=>match bQk P nt s v,aQn P nt s l with
  |some x,some xs=>some (x::xs)
  |_,_=>none
def aEs (P:Program) (nt:Nat) (s:St) (rs:List ResultVar):Option RV:=
 match rs with
 | [v]=>bQk P nt s v
 |rs=>(aQn P nt s rs).map .tup
section
variable {P:Program} {nt lo:Nat}
theorem aQk {E:dX} {s:St} {a:Act} {m:Nat} {w:World} (hss:SS nt E s.t a) (hs:HS E s.h.get s.n m w) {v:ResultVar} {r:RV} (h:bQk P nt s v=some r): ∃y,(xY a.tmps v).run P w=.ok y w∧Rr E r y:=by
 cases v with
 |tmp t=>
  obtain ⟨h1,rfl⟩:=bV h;exact ⟨_,rfl,hss.slot t (cFq h1)⟩
 |cell t ty=>
  obtain ⟨h1,h2⟩:=bY h;have hsl:=hss.slot t (cFq h1);obtain ⟨y,k1,k2⟩:=aGb hs hsl h2;refine ⟨y,?_,k2⟩;unfold tA at h2;split at h2<;>try cases h2
  rename_i b off hb;unfold bEm at hb;simp only[xY];split at hb
  ·rename_i hq;rw[hq] at hsl;generalize a.tmps.getD t undef=u at*;cases hsl with
   |ptr _ _ g s' hE=>simpa[Instr.loadAt,Instr.sureAddr,asAddr] using k1
  ·rename_i hq;rw[hq] at hsl;generalize a.tmps.getD t undef=u at*;cases hsl with
   |gp _ _=>simpa[Instr.loadAt,Instr.sureAddr,asAddr] using k1
  cases hb
theorem aNf {E:dX} {s:St} {a:Act} {m:Nat} {w:World} (hss:SS nt E s.t a) (hs:HS E s.h.get s.n m w): ∀(l:List ResultVar) (r:List RV),aQn P nt s l=some r→ ∃ys:List Value,(l.mapM (xY a.tmps)).run P w=.ok ys w∧r.length=ys.length∧ys.length=l.length∧ ∀(j:Nat) (d:RV) (u:Value),r[j]?=some d→ys[j]?=some u→Rr E d u
 | [],r,h=>by cases h;exact ⟨[],rfl,rfl,rfl,by simp⟩
 |v::l,r,h=>by
  unfold aQn at h;split at h<;>try cases h
  rename_i x xs h1 h2;obtain ⟨y,k1,k2⟩:=aQk hss hs h1;obtain ⟨ys,j1,j2,j3,j4⟩:=aNf hss hs l xs h2;refine ⟨y::ys,by simp[cDd,k1,j1],by simp[j2],by simp[j3],fun j d u hd hu=>?_⟩;cases j with
  |zero=>simp at hd hu;subst hd;subst hu;exact k2
  |succ j=>exact j4 j d u (by simpa using hd) (by simpa using hu)
theorem aSj {E:dX} {s:St} {a:Act} {m:Nat} {w:World} {fn:Func} (hss:SS nt E s.t a) (hs:HS E s.h.get s.n m w) {r:RV} (h:aEs P nt s fn.results.toList=some r): ∃y,(results fn a.tmps).run P w=.ok y w∧Rr E r y:=by
 generalize hl:fn.results.toList=rs at*;have hres:fn.results=rs.toArray:=by apply cCh;rw[hl]
 unfold aEs at h;split at h
 ·rename_i v;obtain ⟨y,k1,k2⟩:=aQk hss hs h;refine ⟨y,?_,k2⟩;have hm:(([v]:List ResultVar).mapM (xY a.tmps)).run P w=.ok [y] w:=by simp[cDd,k1]
  rw[jW,hres,cAp,Sem.run_bind,Sem.run_map,hm];rfl
 rename_i hne;rw[cBa] at h;obtain ⟨l,h1,rfl⟩:=h;obtain ⟨ys,j1,j2,j3,j4⟩:=aNf hss hs rs l h1;refine ⟨.tuple ys.toArray,?_,.tup l _ (by simp[j2]) fun j d u hd hu=>j4 j d u hd (by simpa using hu)⟩;have hn1:ys.length≠1:=fun e=>by
  rw[j3] at e
  match rs,e with
  | [v],_=>exact hne v rfl
 rw[jW,hres,cAp,Sem.run_bind,Sem.run_map,j1];simp[hn1]
def aGt:List Tmp→List RV→Tr RV→Tr RV
 |p::ps,v::l,t=>aGt ps l (t.set p (some v))
 |_,_,t=>t
theorem aNh {E:dX} {D:List Deferred} (hnt:nt≤ub): ∀(ps:List Tmp) (l:List RV) (vs:List Value) (t:Tr RV) (tmps:Array Value),(∀p∈ps,p<nt)→l.length=vs.length→(∀(j:Nat) (d:RV) (u:Value),l[j]?=some d→vs[j]?=some u→Rr E d u)→
  SS nt E t {tmps:=tmps,defers:=D}→SS nt E (aGt ps l t) {tmps:=(ps.zip vs).foldl (fun tmps (x:Tmp×Value)=>tmps.setIfInBounds x.1 x.2) tmps,defers:=D}
 | [],l,vs,t,tmps,_,_,_,h=>by simp only[aGt,List.zip_nil_left,List.foldl_nil];exact h
 |p::ps,[],[],t,tmps,_,_,_,h=>by simp only[aGt,List.zip_nil_right,List.foldl_nil];exact h
 |p::ps,[],_::_,t,tmps,_,hl,_,h=>by simp at hl
 |p::ps,_::_,[],t,tmps,_,hl,_,h=>by simp at hl
 |p::ps,v::l,u::vs,t,tmps,hp,hl,hr,h=>by
  simp only[aGt,List.zip_cons_cons,cAm];have hpn:p<nt:=hp p b7;have:=h.put hpn (cDi hpn hnt) (hr 0 v u rfl rfl);exact aNh hnt ps l vs _ _ (fun q hq=>hp q (by simp[hq])) (by simpa using hl) (fun j d u hd hu=>hr (j+1) d u (by simpa using hd) (by simpa using hu)) this
def bKl:Exit→Option (Option Code)
 | .normal=>some none
 | .ret=>some (some .ret)
 | .exit i=>some (some (.exit i))
 |_=>none
def aAr:lG:=fun _ _ _ _ _=>none
theorem aXi {P:Program}:eO P aAr:=fun _ _ _ _ _ _ _ _ h=>by cases h
def aQs (b:Nat) (f:LoopState→Option Code→Option (LoopState×Option Code)) (s:St):Option St:=
 match s.h.get b with
 |some (.lp st pe t nt ps asg body)=>(match f st pe with
  |some (st',pe')=>some ⟨s.t,s.h.set b (some (.lp st' pe' t nt ps asg body)),s.n⟩
  |none=>none)
 |_=>none
def bOk (P:Program) (call:lG) (cX:FuncId→Bool) (lo f:Nat) (fid:FuncId) (l:List RV) (h:Tr dS) (n:Nat):Option (Tr dS×Nat):=
 bif !aO P fid then none else match P.funcs[fid]? with
 |some fn=>(match fn.body with
  |some c=>bif decide (l.length≤fn.ntmps)&&decide (fn.ntmps≤ub) then (match evS P call cX lo fn.ntmps f f c ⟨qF 0 l .e,h,n⟩ with
   |some (.ret,s)=>(match aEs P fn.ntmps s fn.results.toList with
    |some _=>some (s.h,s.n)
    |none=>none)
   |some (.normal,s)=>(match aEs P fn.ntmps s fn.results.toList with
    |some _=>some (s.h,s.n)
    |none=>none)
   |_=>none) else none
  |none=>none)
 |none=>none
def qL (P:Program) (call:lG) (cX:FuncId→Bool) (lo f:Nat):List RV→Tr dS→Nat→Option (Tr dS×Nat)
 | [],h,n=>some (h,n)
 | .fn fid fs cs::L,h,n=>(match bOk P call cX lo f fid (fs++cs) h n with
  |some (h',n')=>qL P call cX lo f L h' n'
  |none=>none)
 |_::_,_,_=>none
def kR (P:Program) (cX:FuncId→Bool) (f:Nat) (nat:lG):Nat→lG
 |0,_,_,_,_,_=>none
 |d+1,lo,.inl fid,l,h,n=>match nat lo (.inl fid) l h n with
  |some r=>some r
  |none=>bif !aO P fid then none else match P.funcs[fid]? with
  |some fn=>(match fn.body with
   |some c=>bif decide (l.length≤fn.ntmps)&&decide (fn.ntmps≤ub) then (match evT P (kR P cX f nat d) cX lo fn.ntmps f f c ⟨qF 0 l .e,h,n⟩ with
    |some (.ret,s,L)=>(match qL P (kR P cX f nat d) cX lo f L s.h s.n with
     |some (h2,n2)=>(match aEs P fn.ntmps ⟨s.t,h2,n2⟩ fn.results.toList with
      |some v=>some (v,h2,n2)
      |none=>none)
     |none=>none)
    |some (.normal,s,L)=>(match qL P (kR P cX f nat d) cX lo f L s.h s.n with
     |some (h2,n2)=>(match aEs P fn.ntmps ⟨s.t,h2,n2⟩ fn.results.toList with
      |some v=>some (v,h2,n2)
      |none=>none)
     |none=>none)
    |_=>none) else none
   |none=>none)
  |none=>none
 |d+1,lo,.inr b,l,h,n=>match h.get b with
  |some (.lp .ready pe t nt ps asg body)=>bif decide (lo≤b)&&(decide (b<n)&&(decide (n≤ub)&&(decide (l.length=ps.length)&&(decide (nt≤ub)&&ps.all fun p=>decide (p<nt))))) then
    (match evC P (kR P cX f nat d) cX true lo nt f none asg ⟨aGt ps l t,h,n⟩ with
    |some (.normal,s1)=>(match aQs b (fun st pe=>bif decide (st=.ready) then some (.busy,pe) else none) s1 with
     |some s2=>(match evC P (kR P cX f nat d) cX true lo nt f none body s2 with
      |some (e,s3)=>(match bKl e with
       |some j=>(match aQs b (fun _ _=>some (if j.isNone then .ready else .done,j)) s3 with
        |some s4=>some (.bool j.isNone,s4.h,s4.n)
        |none=>none)
       |none=>none)
      |none=>none)
     |none=>none)
    |_=>none) else none
  |_=>none
theorem RX.aside {lo:Nat} {E0 E:dX} {h0 h:Hp} {n0 n m:Nat} {w0 w:World} (hx:RX lo E0 h0 n0 w0 E h n w) (hs0:HS E0 h0 n0 m w0) {g:Nat} (hg:w0.heap.size≤g) (o:Obj):RX lo E0 h0 n0 w0 E h n (w.putObj g o):=by
 refine ⟨hx.os,hx.tape,hx.output,by rw[World.putObj_size];exact hx.size,hx.nn,hx.emb,fun g' hg' hf=>?_,fun b hb=>?_,hx.beyond⟩
 ·obtain ⟨h1,h2⟩:=hx.frame g' hg' hf;exact ⟨(World.putObj_heap_other aN).trans h1,h2⟩
 obtain ⟨h1,h2⟩:=hx.keep b hb;refine ⟨h1,fun g' s hn he=>(World.putObj_heap_other ?_).trans (h2 g' s hn he)⟩;have:=hs0.old b g' s he;omega
section
variable {P:Program} {nt lo:Nat} {call:lG} {cX:FuncId→Bool}
theorem aNn {E:dX} {l:List RV} {vals:Array Value} {nt:Nat} (hl:l.length≤nt) (hu:nt≤ub) (hsz:vals.size=l.length) (hrel: ∀(j:Nat) (d:RV) (u:Value),l[j]?=some d→vals[j]?=some u→Rr E d u):SS nt E (qF 0 l .e) {tmps:=vals++Array.replicate (nt-vals.size) undef,defers:=[]}:=by
 refine ⟨by simp;omega,fun i hi=>?_⟩;rw[aDi l 0 .e i aN];simp only[cBt];by_cases hil:i<l.length
 ·rw[if_pos aN,Nat.sub_zero,cEn hil,cDw,if_pos aN,cAt aN];exact hrel i _ _ (cEn hil) (cAt aN)
 rw[if_neg aN,Tr.get_e,cDw,if_neg aN];have:(Array.replicate (nt-vals.size) undef)[i-vals.size]?=some undef:=by
  rw[cEg,if_pos aN]
 rw[this];exact .nov
def bKj (lo:Nat) (E:dX) (h:Hp) (n:Nat) (w:World) (h':Hp) (n' m:Nat) (e:Ending) (u:FrameMode) (w':World):Prop:=u=.returning∧ ∃y E',e=.returned y∧HS E' h' n' m w'∧RX lo E h n w E' h' n' w'
theorem aQp (hmx:P.follows .mixedOrders=true) (hc:eO P call) {f:Nat} {fid:FuncId} {l:List RV} {h h':Tr dS} {n n':Nat} (hev:bOk P call cX lo f fid l h n=some (h',n')) (hlo:lo≤n):KH lo h h' n n'∧aO P fid=true∧
  ∀(m:Nat) (E:dX) (w:World) (vals:Array Value),n'≤m→HS E h.get n m w→vals.size=l.length→(∀(j:Nat) (d:RV) (u:Value),l[j]?=some d→vals[j]?=some u→Rr E d u)→CallsDIn (FR none) 0 P fid vals .returning w (bKj lo E h.get n w h'.get n' m):=by
 unfold bOk at hev;cases hbd:aO P fid with
 |false=>rw[hbd] at hev;cases hev
 |true=>
 rw[hbd] at hev;simp only[Bool.not_true,cDq] at hev;split at hev<;>try cases hev
 rename_i fn hf;split at hev<;>try cases hev
 rename_i c hb;obtain ⟨hck,hev⟩:=bY hev;simp only[bZi,cFp] at hck
 have key: ∀e s,(e=.ret∨e=.normal)→evS P call cX lo fn.ntmps f f c ⟨qF 0 l .e,h,n⟩=some (e,s)→(match aEs P fn.ntmps s fn.results.toList with
   |some _=>some (s.h,s.n)
   |none=>none)=some (h',n')→KH lo h h' n n'∧true=true∧ ∀(m:Nat) (E:dX) (w:World) (vals:Array Value),n'≤m→HS E h.get n m w→vals.size=l.length→(∀(j:Nat) (d:RV) (u:Value),l[j]?=some d→vals[j]?=some u→Rr E d u)→CallsDIn (FR none) 0 P fid vals .returning w (bKj lo E h.get n w h'.get n' m):=fun e s he hes hret=>by
  cases hv:aEs P fn.ntmps s fn.results.toList with
  |none=>rw[hv] at hret;cases hret
  |some v=>
  rw[hv] at hret;cases hret;obtain ⟨k1,k2⟩:=aHh hmx hc f f c _ e s hes hlo;refine ⟨k1,rfl,fun m E w vals hm hs hsz hrel=>callsDIn_of_wpSIn hf hb trivial fun c₀ cs hu=>?_⟩;have hss:=aNn hck.1 hck.2 hsz hrel;have hrc:recoverD (c₀::cs)=none:=by unfold recoverD;simp only[hu]
  have hx:=k2 m E _ (c₀::cs) w hm hrc hss hs;intro b k hb' hr hF hroom;obtain ⟨e1,a1,cs1,w1,hl1,⟨rfl,rfl,E1,q1,q2,q3,q4⟩,harr⟩:=hx b k hb' hr hF hroom;refine ⟨e1,a1,_,w1,hl1,?_,harr⟩;obtain ⟨y,u1,u2⟩:=aSj (w:=w1) (fn:=fn) q1 q3 hv;have hcc:c₀::cs={c₀ with mode:=.returning}::cs:=by rw[← hu]
  rcases he with rfl|rfl
  ·exact ⟨q2,.returning,hcc,y,u1,rfl,y,E1,rfl,q3,q4⟩
  exact ⟨q2,.returning,hcc,y,u1,rfl,y,E1,rfl,q3,q4⟩
 split at hev
 ·rename_i s hes;exact key .ret s (.inl rfl) hes hev
 ·rename_i s hes;exact key .normal s (.inr rfl) hes hev
 cases hev
theorem aCc (hmx:P.follows .mixedOrders=true) (hc:eO P call) {f:Nat} {h':Tr dS} {n':Nat}: ∀(L:List RV) (h:Tr dS) (n:Nat),qL P call cX lo f L h n=some (h',n')→lo≤n→KH lo h h' n n'
 | [],h,n,he,_=>by unfold qL at he;cases he;exact KH.refl _ _ _
 |r::L,h,n,he,hl=>by
  cases r<;>(unfold qL at he;try cases he);split at he<;>try cases he
  rename_i h2 n2 he2;have hk:=(aQp hmx hc he2 hl).1;exact hk.trans (aCc hmx hc L h2 n2 he (cBc hl hk.nn))
theorem aJb (hmx:P.follows .mixedOrders=true) (hc:eO P call) {f:Nat} {fn:Func} {tmps:Array Value} {R:Ending→World→Prop} {E0:dX} {h0:Hp} {n0 m:Nat} {w0:World} (hs0:HS E0 h0 n0 m w0) (hlo0:lo≤n0) {h':Tr dS} {n':Nat} (hm:n'≤m): ∀(ds:List Deferred) (D:List Nat) (L:List RV) (E:dX) (h:Tr dS) (n:Nat) (w:World),DI E D L ds→qL P call cX lo f L h n=some (h',n')→
  D.Nodup→(∀g∈D,w0.heap.size≤g)→(∀g∈D,w.heap[g]?=some (.deferred (some [])))→(∀g∈D,∀b z,h.get b≠none→E b≠some (g,z))→HS E h.get n m w→RX lo E0 h0 n0 w0 E h.get n w→n≤n'→
  (∀E' w',HS E' h'.get n' m w'→RX lo E0 h0 n0 w0 E' h'.get n' w'→(∀b p,E b=some p→E' b=some p)→ ∃v,(results fn tmps).run P w'=.ok v w'∧R (.returned v) w')→
  LeavesInM (FR none) 0 P fn tmps R ds .returning w:=by
 intro ds
 induction ds with
 |nil=>
  intro D L E h n w hdi hev hnd hlate hheld hfree hs hx hnn hend;cases hdi;unfold qL at hev;cases hev;obtain ⟨v,h1,h2⟩:=hend E w hs hx fun _ _ h=>h;exact ⟨v,h1,h2⟩
 |cons d ds ih=>
  intro D L E h n w hdi hev hnd hlate hheld hfree hs hx hnn hend;cases hdi with
  |mark hdi=>
   rename_i g D;rw[cCu] at hnd;refine ⟨by simp,.inl ⟨g,w.putObj g (.deferred none),rfl,run_takeDeferred (hheld g b7),?_⟩⟩;refine ih D L E h n _ hdi hev hnd.2 (fun g' hg'=>hlate g' (by simp[hg'])) (fun g' hg'=>?_) (fun g' hg'=>hfree g' (by simp[hg'])) (hs.aside (hfree g b7) _) (hx.aside hs0 (hlate g b7) _) hnn hend;rw[World.putObj_heap_other fun e=>hnd.1 (by rw[← e];exact hg')];exact hheld g' (by simp[hg'])
  |fn hr hdi=>
   rename_i fid fs cs us vs L;unfold qL at hev;split at hev<;>try cases hev
   rename_i h1 n1 hev1;obtain ⟨k1,hbd,k2⟩:=aQp hmx hc hev1 (cBc hlo0 hx.nn);have hnn1:n1≤n':=(aCc hmx hc L h1 n1 hev (cBc (cBc hlo0 hx.nn) k1.nn)).nn;cases hr with
   |fn _ _ _ _ _ hf1 hc1 hfr hcr=>
   refine ⟨by simp,.inr ⟨qD _,.func fid,vs,fid,us++vs,rfl,?_,fun _ _=>trivial,?_⟩⟩
   ·show (callFunc fid (us++vs)).run P w=_;exact qY hbd _ _
   refine CallsDIn.mono (k2 m E w (us++vs) (cBc hnn1 hm) hs (by simp[hf1,hc1]) fun j d u hd hu=>?_) ?_
   ·rw[bZq] at hd;rw[cDw] at hu;rw[hf1] at hd;split at hd
    ·rename_i hj;rw[if_pos hj] at hu;exact hfr j d u hd hu
    rename_i hj;rw[if_neg hj] at hu;exact hcr _ d u hd hu
   rintro e u' w1 ⟨rfl,y,E1,rfl,q1,q2⟩;show LeavesInM (FR none) 0 P fn tmps R ds .returning w1;have hup:=hs.up q2 (cBc hnn1 hm);refine ih D L E1 h1 n1 w1 (hdi.mono hup) hev hnd hlate (fun g hg=>?_) (fun g hg=>?_) q1 (hx.trans q2 hs0 (cBc hnn hm) hlo0) hnn1 fun E' w' p1 p2 p3=>hend E' w' p1 p2 fun b p hb=>p3 b p (hup b p hb)
   ·exact (q2.frame g (mT (hheld g hg)) (hfree g hg)).1.trans (hheld g hg)
   exact (q2.frame g (mT (hheld g hg)) (hfree g hg)).2
end
theorem aKo {b:Nat} {f:LoopState→Option Code→Option (LoopState×Option Code)} {s s':St} (h:aQs b f s=some s') (hlo:lo≤b) (hb:b<s.n) (hub:b<ub): ∃st pe t nt ps asg body st' pe',s.h.get b=some (.lp st pe t nt ps asg body)∧f st pe=some (st',pe')∧s'.t=s.t∧s'.n=s.n∧s'.h.get=rD s.h.get b (some (.lp st' pe' t nt ps asg body))∧KH lo s.h s'.h s.n s'.n:=by
 unfold aQs at h;split at h<;>try cases h
 rename_i st pe t nt ps asg body hg;split at h<;>cases h;rename_i st' pe' hf;exact ⟨st,pe,t,nt,ps,asg,body,st',pe',hg,hf,rfl,rfl,d2 hub,KH.turn hlo hb hub _⟩
theorem aLr {E:dX} {h:Hp} {n m b:Nat} {w:World} (hs:HS E h n m w) {st:LoopState} {pe:Option Code} {t:Tr RV} {nt':Nat} {ps:List Tmp} {asg body:Code} (hg:h b=some (.lp st pe t nt' ps asg body)) {g z:Nat} (hE:E b=some (g,z)) (hlo:lo≤b) (hb:b<n) (st':LoopState) (pe':Option Code):
  ∃r:Loop,w.heap[g]?=some (.loop r)∧r.state=st∧r.pending=pe∧HS E (rD h b (some (.lp st' pe' t nt' ps asg body))) n m (w.putObj g (.loop {r with state:=st',pending:=pe'}))∧RX lo E h n w E (rD h b (some (.lp st' pe' t nt' ps asg body))) n (w.putObj g (.loop {r with state:=st',pending:=pe'})):=by
 obtain ⟨g2,z2,u1,r,u2,u3,u4,u5,u6,u7,u8,u9⟩:=hs.blk b _ hg;rw[hE] at u1;cases u1
 obtain ⟨t1',t2'⟩:=hs.turn (lo:=lo) hlo hb (by rw[hg];simp) hE (w':=w.putObj g (.loop {r with state:=st',pending:=pe'})) b7 (fun g' hg'=>World.putObj_heap_other hg') rfl ⟨rfl,cCq _⟩ rfl
  (k:=.lp st' pe' t nt' ps asg body) ⟨{r with state:=st',pending:=pe'},World.putObj_heap_same (mT u2),rfl,rfl,u5,u6,u7,u8,u9⟩
 exact ⟨r,u2,u3,u4,t1',t2'⟩
theorem uM (hmx:P.follows .mixedOrders=true) (cX:FuncId→Bool) (f:Nat) {nat:lG} (hnat:eO P nat): ∀d,eO P (kR P cX f nat d)
 |0,_,_,_,_,_,_,_,_,h,_=>by cases h
 |d+1,lo,.inl fid,l,h,n,r,h',n',hr,hlo=>by
  unfold kR at hr;split at hr
  ·rename_i r0 hn0;cases hr;exact hnat _ _ _ _ _ _ _ _ hn0 hlo
  cases hbd:aO P fid with
  |false=>rw[hbd] at hr;cases hr
  |true=>
  rw[hbd] at hr;simp only[Bool.not_true,cDq] at hr;split at hr<;>try cases hr
  rename_i fn hf;split at hr<;>try cases hr
  rename_i c hb;obtain ⟨hck,hr⟩:=bY hr;simp only[bZi,cFp] at hck
  have key: ∀e s L,(e=.ret∨e=.normal)→evT P (kR P cX f nat d) cX lo fn.ntmps f f c ⟨qF 0 l .e,h,n⟩=some (e,s,L)→(match qL P (kR P cX f nat d) cX lo f L s.h s.n with
     |some (h2,n2)=>(match aEs P fn.ntmps ⟨s.t,h2,n2⟩ fn.results.toList with
      |some v=>some (v,h2,n2)
      |none=>none)
     |none=>none)=some (r,h',n')→xP P lo (.inl fid) l h n r h' n':=fun e s L he hev hret=>by
   cases hdv:qL P (kR P cX f nat d) cX lo f L s.h s.n with
   |none=>rw[hdv] at hret;cases hret
   |some z=>
   obtain ⟨h2,n2⟩:=z;rw[hdv] at hret;simp only at hret;cases hv:aEs P fn.ntmps ⟨s.t,h2,n2⟩ fn.results.toList with
   |none=>rw[hv] at hret;cases hret
   |some v=>
   rw[hv] at hret;cases hret;have hcc:=uM hmx cX f hnat d;obtain ⟨k1,k2⟩:=aHk hmx hcc f f c _ e s L hev hlo;have kd:KH lo s.h h' s.n n':=aCc hmx hcc L s.h s.n hdv (cBc hlo k1.nn);refine ⟨k1.trans kd,fun m E w vals hm hs hsz hrel=>?_⟩
   suffices hgo:Calls P fid vals w (hQ lo E h n w r h' n' m) by
    show (if aO P fid=true then _ else _);rw[if_pos hbd];exact hgo
   have hss:=aNn hck.1 hck.2 hsz hrel;refine (callsIn_of_wp_marks (F:=FR none) (n:=0) hf hb trivial (wpIn_mono (k2 m E _ w (cBc kd.nn hm) hss hs) ?_)).calls (fun _=>aRi _ _);rintro e' a' w' ⟨rfl,E',D,ds,q1,q2,q3,q4⟩;have fin:LeavesInM (FR none) 0 P fn a'.tmps (hQ lo E h n w r h' n' m) a'.defers .returning w':=by
    have hds:a'.defers=ds:=by rw[q2.1];exact cEw _
    rw[hds];refine aJb hmx hcc hs hlo hm ds D L E' s.h s.n w' q2.2.1 hdv q2.2.2.nodup q2.2.2.late q2.2.2.held q2.2.2.free q3 q4 kd.nn fun E2 w2 p1 p2 p3=>?_;obtain ⟨y,u1,u2⟩:=aSj (s:=⟨s.t,h',n'⟩) (w:=w2) (fn:=fn) (q1.mono p3) p1 hv;exact ⟨y,u1,y,E2,rfl,p1,p2,u2⟩
   rcases he with rfl|rfl<;>exact fin
  split at hr
  ·rename_i s L hev;exact key .ret s L (.inl rfl) hev hr
  ·rename_i s L hev;exact key .normal s L (.inr rfl) hev hr
  cases hr
 |d+1,lo,.inr b,l,h,n,r,h',n',hr,hlo=>by
  unfold kR at hr;split at hr<;>try cases hr
  rename_i pe t nt ps asg body hb;obtain ⟨hck,hr⟩:=bY hr;simp only[bZi,cFp,cCk] at hck;obtain ⟨hlb,hbn,hnu,hlen,hntu,hps⟩:=hck;split at hr<;>try cases hr
  rename_i s1 hev1;split at hr<;>try cases hr
  rename_i s2 hs2;split at hr<;>try cases hr
  rename_i e s3 hev2;split at hr<;>try cases hr
  rename_i j hj;split at hr<;>cases hr;rename_i s4 hs4;obtain ⟨k1,_,k2⟩:=oR hmx (uM hmx cX f hnat d) true f none asg _ _ s1 hev1 hlo;have hbu:b<ub:=by omega
  have hn1:n≤s1.n:=k1.nn;obtain ⟨st1,pe1,t1,nt1,ps1,asg1,body1,st1',pe1',a1,a2,a3,a4,a5,a6⟩:=aKo hs2 hlb aN hbu;obtain ⟨a21,a22⟩:=bV a2;obtain rfl:st1=.ready:=cFq a21;cases a22;have hn2:s2.n=s1.n:=a4;obtain ⟨j1,_,j2⟩:=oR hmx (uM hmx cX f hnat d) true f none body _ _ s3 hev2 aN;have hn3:s2.n≤s3.n:=j1.nn;obtain ⟨st3,pe3,t3,nt3,ps3,asg3,body3,st3',pe3',b1,b2,b3,b4,b5,b6⟩:=aKo hs4 hlb aN hbu;cases b2;refine ⟨((k1.trans a6).trans j1).trans b6,fun m E w vals hm hs hsz hrel g s hE=>?_⟩;have hm:s4.n≤m:=hm;obtain ⟨g0,z0,u1,rr,u2,u3,u4,u5,u6,u7,u8,u9⟩:=hs.blk b _ hb;rw[hE] at u1;cases u1;have hpsz:rr.params.size=ps.length:=by rw[← u5];simp
  refine ⟨rr.fn,_,rr.assign,rr.body,run_yield u2 aN,?_⟩;rw[u6,u7];refine roundIn_of_wpIn (F:=FR none) trivial ?_;have hss0:SS nt E t {tmps:=rr.tmps,defers:=[]}:=⟨u8,u9⟩;have hss1:=aNh hntu ps l vals.toList t rr.tmps (fun p hp=>hps p hp) (by simp[hsz]) (fun j d u hd hu=>hrel j d u hd (by simpa using hu)) hss0;have htm:(rr.params.zip vals).foldl (fun tmps (x:Tmp×Value)=>tmps.setIfInBounds x.1 x.2) rr.tmps=(ps.zip vals.toList).foldl (fun tmps (x:Tmp×Value)=>tmps.setIfInBounds x.1 x.2) rr.tmps:=by
   rw[← cFn,Array.toList_zip,u5]
  have h1:=(k2 (some g) m E _ w (fun h=>by cases h) aN hss1 hs).1;rw[← htm] at h1;refine wpIn_mono (F:=FR (some g)) h1 ?_;rintro e1 c1 w1 ⟨rfl,E1,D1,q1,q2,q3,q4⟩;have q4:RX lo E h.get n w E1 s1.h.get s1.n w1:=q4;have hE1:E1 b=some (g,s):=by rw[q4.emb b (.inl hbn)];exact hE
  obtain ⟨r1,v1,v2,v3,v4,v5⟩:=aLr (lo:=lo) q3 a1 hE1 hlb aN .busy pe1;rw[← a5] at v4 v5;have hbusy:({r1 with state:=.busy,pending:=pe1}:Loop)={r1 with state:=.busy}:=by rw[← v3]
  rw[hbusy] at v4 v5;refine ⟨w1.putObj g (.loop {r1 with state:=.busy}),run_beginRound v1 v2,?_⟩;generalize w1.putObj g (.loop {r1 with state:=.busy})=wb at v4 v5;have v4:HS E1 s2.h.get s2.n m wb:=by rw[hn2];exact v4
  have v5:RX lo E1 s1.h.get s1.n w1 E1 s2.h.get s2.n wb:=by rw[hn2];exact v5
  have h2:=(j2 (some g) m E1 c1 _ (fun h=>by cases h) aN (by rw[a3];exact q1) v4).1;refine wpIn_mono (F:=FR (some g)) h2 ?_;rintro e2 c2 w3 ⟨rfl,E3,D3,x1,x2,x3,x4⟩;have hE3:E3 b=some (g,s):=by rw[x4.emb b (.inl aN)];exact hE1
  obtain ⟨r3,y1,y2,y3,y4,y5⟩:=aLr (lo:=lo) x3 b1 hE3 hlb aN (if j.isNone then .ready else .done) j;rw[← b5] at y4 y5;have hrun:=run_endRound (P:=P) j y1;generalize w3.putObj g (.loop {r3 with state:=if j.isNone then .ready else .done,pending:=j})=we at y4 y5 hrun;have y4:HS E3 s4.h.get s4.n m we:=by rw[b4];exact y4
  have y5:RX lo E3 s3.h.get s3.n w3 E3 s4.h.get s4.n we:=by rw[b4];exact y5
  have hfin: ∃v w',(Instr.endRound g j).run P w3=.ok v w'∧hQ lo E h n w (.bool j.isNone) s4.h s4.n m (.returned v) w':=
   ⟨_,we,hrun,.bool j.isNone,E3,rfl,y4,((q4.trans v5 hs aN hlo).trans x4 hs aN hlo).trans y5 hs aN hlo,.bool _⟩
  unfold bKl at hj;split at hj<;>cases hj<;>exact hfin
def iW:List Nat→Tr dS
 | []=>.e
 |g::l=>match GT g with
  |some (us,e)=>(iW l).set g (some (.cells e (us.toList.map cv1)))
  |none=>iW l
def xK (l:List Nat):Bool:=l.all fun g=>decide (g<NG)&&(match GT g with
  |some (us,_)=>us.toList.all (·.oneCell')
  |none=>true)
theorem gH: ∀{l:List Nat},xK l=true→ ∀b k,(iW l).get b=some k→b<NG∧ ∃us e,GT b=some (us,e)∧k=.cells e (us.toList.map cv1)∧ ∀u∈us.toList,u.oneCell'=true
 | [],_,b,k,h=>by rw[show iW []=.e from rfl,Tr.get_e] at h;cases h
 |g::l,hl,b,k,h=>by
  have hl':xK l=true:=by
   unfold xK at hl ⊢;rw[cCm,bZi] at hl;exact hl.2
  have hg:decide (g<NG)=true∧(match GT g with
  |some (us,_)=>us.toList.all (·.oneCell')
  |none=>true)=true:=by
   unfold xK at hl;rw[cCm,bZi,bZi] at hl;exact hl.1
  have hlt:g<NG:=cFq hg.1;unfold iW at h;cases e1:GT g with
  |none=>rw[e1] at h;exact gH hl' b k h
  |some p=>
   obtain ⟨us,e⟩:=p;rw[e1] at h;have h2:=hg.2;rw[e1] at h2;simp only at h h2;rw[Tr.get_set (by unfold NG at hlt;unfold ub;omega)] at h;split at h
   ·rename_i e2;subst e2;refine ⟨hlt,us,e,e1,?_,cCk.1 h2⟩;cases h;rfl
   exact gH hl' b k h
theorem aOe (l:List Nat) (hg:xK l=true) {f:FuncId} {r:RV} {d:DV} {h':Tr dS} {n':Nat} (hbd:aO P f=true) (h:xP P NG (.inl f) [] (iW l) NG r h' n') (hd:toD r=d) (hp:lO d=true) (hr:dI (fun _=>false) d=true) (O:aV):bB P O f [] d:=fun w I A vals hO hl _=>by
 subst hd;have hE: ∃E:dX,(∀b g s,E b=some (g,s)→b<NG∧g=b)∧HS E (iW l).get NG n' w:=by
  refine ⟨fun b=>match (iW l).get b with
   |some (.cells _ cs)=>some (b,cs.length)
   |_=>none,fun b g s hb=>?_,?_,?_,?_,?_,?_,cCq _,?_⟩
  ·simp only at hb;cases e1:(iW l).get b with
   |none=>rw[e1] at hb;cases hb
   |some k=>
    obtain ⟨h1,us,e,h2,rfl,h3⟩:=gH hg b k e1;rw[e1] at hb;cases hb;exact ⟨h1,rfl⟩
  ·intro b k hk;obtain ⟨h1,us,e,h2,rfl,h3⟩:=gH hg b k hk;refine ⟨b,(us.toList.map cv1).length,by simp only[hk],us,(hO.imm.glob b us e h2).2,by simp,cCq _,fun j v u hv hu=>?_⟩
   have:=aMf (fun b=>match (iW l).get b with
    |some (.cells _ cs)=>some (b,cs.length)
    |_=>none) (us:=us) rfl h3
   exact ⟨h3 u (by rw[cFg];exact cBu hu),this.2.2 j v u hv hu⟩
  ·intro b c g s s' hb hc h1 h2;cases e1:(iW l).get b with
   |none=>rw[e1] at h1;cases h1
   |some k=>
    obtain ⟨_,us,e,_,rfl,_⟩:=gH hg b k e1;rw[e1] at h1;cases e2:(iW l).get c with
    |none=>rw[e2] at h2;cases h2
    |some k2=>
     obtain ⟨_,us2,e',_,rfl,_⟩:=gH hg c k2 e2;rw[e2] at h2;simp only[cAx,bZo] at h1 h2;exact h1.1.trans h2.1.symm
  ·intro b g s hb;cases e1:(iW l).get b with
   |none=>rw[e1] at hb;cases hb
   |some k=>
    obtain ⟨_,us,e,h2,rfl,_⟩:=gH hg b k e1;rw[e1] at hb;simp only[cAx,bZo] at hb;obtain ⟨rfl,_⟩:=hb;exact hO.imm _ (hO.imm.glob b us e h2).1
  ·intro b hb _
   show (match (iW l).get b with
    |some (.cells _ cs)=>some (b,cs.length)
    |_=>none)=none
   cases e1:(iW l).get b with
   |none=>rfl
   |some k=>have:=(gH hg b k e1).1;omega
  ·intro b hb;cases e1:(iW l).get b with
   |none=>rfl
   |some k=>have:=(gH hg b k e1).1;have:=h.1.nn;omega
  intro b hb hn;cases e1:(iW l).get b with
  |none=>exact absurd e1 hn
  |some k=>
   obtain ⟨_,us,e,_,rfl,_⟩:=gH hg b k e1;exact ⟨_,by simp only[e1];rfl⟩
 obtain ⟨E,hE1,hE2⟩:=hE;have h3:(if aO P f=true then Calls P f vals w (hQ NG E (iW l) NG w r h' n' n') else _):=h.2 n' E w vals (cCq _) hE2 hl (fun j d u hd=>by simp at hd);rw[if_pos hbd] at h3;refine h3.mono ?_;rintro e w' ⟨y,E',rfl,q1,q2,q3⟩;have hold: ∀g,g<w.heap.size→w'.heap[g]?=w.heap[g]?:=fun g hgs=>by
  by_cases hx: ∃b s,(iW l).get b≠none∧E b=some (g,s)
  ·obtain ⟨b,s,h1,h2⟩:=hx;exact (q2.keep b (hE1 b g s h2).1).2 g s h1 h2
  exact (q2.frame g hgs fun b s hb he=>hx ⟨b,s,hb,he⟩).1
 have hrel: ∀(B:cY) d x,bN w I B d x→bN w' I B d x:=fun B d x hr=>hr.mono fun g hg=>⟨hg,fun o=>dW (hold g (hO.imm g hg)) o⟩;refine ⟨y,I,O,_,rfl,⟨fun s=>(hO.own s).keep (fun g c hA=>hold g (hO.sep s g c hA).1) hrel,hO.inj,fun s g c hA=>⟨cDi (hO.sep s g c hA).1 q2.size,(hO.sep s g c hA).2⟩,hO.imm.step (fun g hg=>cDi (hO.imm g hg) q2.size) fun g hg=>⟨hg,hold g (hO.imm g hg)⟩⟩,
  fun _=>fN.refl _,fun _ h=>h,⟨q2.os,q2.tape,q2.output,q2.size,fun _ h=>h,fun g hg hA=>⟨hold g hg,fun h=>h,hA⟩,fun s g c hA _ hs=>⟨s,c,hs,hA⟩,fun _ _=>rfl⟩,?_,rfl,rfl⟩
 have:=(q3.toD (w:=w')).mono (w':=w') (I':=I) fun g hg=>hg.elim;have:=this.pure (A':=A) hr;generalize toD r=d at*;cases d<;>first|exact this|cases hp
end
end
end Go.Rv
namespace Go.Rv
open Go.RowKit Go.Sg
noncomputable section
def eqO:Option Nat→Option Nat→Bool
 |none,none=>true
 |some a,some b=>Nat.beq a b
 |_,_=>false
theorem bHp {a b:Option Nat} (h:eqO a b=true):a=b:=by
 cases a<;>cases b<;>simp_all [eqO]
def aLp (a b:Bool):Bool:=bif a then b else !b
theorem aLx {a b:Bool} (h:aLp a b=true):a=b:=by cases a<;>cases b<;>simp_all [aLp]
def bPn (a b:IntKind):Bool:=decide (a=b)
def bFz:List UInt8→List UInt8→Bool
 | [],[]=>true
 |a::l,b::m=>Nat.beq a.toNat b.toNat&&bFz l m
 |_,_=>false
theorem aMi: ∀{l m:List UInt8},bFz l m=true→l=m
 | [],[],_=>rfl
 | [],_::_,h=>by cases h
 |_::_,[],h=>by cases h
 |a::l,b::m,h=>by
  unfold bFz at h;rw[bZi] at h;have h1:=cBf h.1;rw[aMi h.2,UInt8.toNat_inj.1 h1]
def bHc (a b:ByteArray):Bool:=bFz a.data.toList b.data.toList
theorem aWg {a b:ByteArray} (h:bHc a b=true):a=b:=by
 have:=aMi h;cases a;cases b;congr;exact Array.toList_inj.1 this
def aBy (s:Nat→Nat→Bool) (v:RV):RV→Bool:=RV.rec (motive_1:=fun _=>RV→Bool) (motive_2:=fun _=>List RV→Bool)
 (fun _=>true) (fun x=>match x with| .nov=>true|_=>false) (fun b x=>match x with| .bool c=>aLp b c|_=>false) (fun k n x=>match x with| .int k' n'=>bPn k k'&&decide (n=n')|_=>false)
 (fun t x=>match x with| .str t'=>bHc t t'|_=>false) (fun x=>match x with| .nilp=>true|_=>false) (fun b o x=>match x with| .ptr b' o'=>s b b'&&Nat.beq o o'|_=>false)
 (fun g o x=>match x with| .gp g' o'=>Nat.beq g g'&&Nat.beq o o'|_=>false) (fun b x=>match x with| .yl b'=>s b b'|_=>false) (fun x=>match x with| .nils=>true|_=>false) (fun x=>match x with| .em=>true| .nils=>true|_=>false)
 (fun b o l z c f x=>match x with| .sl b' o' l' z' c' f'=>s b b'&&(Nat.beq o o'&&(Nat.beq l l'&&(Nat.beq z z'&&(eqO c c'&&aLp f f'))))|_=>false) (fun x=>match x with| .nilm=>true|_=>false) (fun b x=>match x with| .mp b'=>s b b'|_=>false)
 (fun x=>match x with| .nilf=>true|_=>false) (fun x=>match x with| .nili=>true|_=>false)
 (fun f _ _ i1 i2 x=>match x with| .fn f' a b=>Nat.beq f f'&&(i1 a&&i2 b)|_=>false) (fun _ i x=>match x with| .agg l=>i l|_=>false) (fun _ i x=>match x with| .tup l=>i l|_=>false) (fun t _ i x=>match x with| .ifc t' y=>Nat.beq t t'&&i y|_=>false)
 (fun l=>match l with| []=>true|_=>false) (fun _ _ i1 i2 l=>match l with|y::m=>i1 y&&i2 m| []=>false) v
def o6 (s:Nat→Nat→Bool):List RV→List RV→Bool
 | [],[]=>true
 |v::l,x::m=>aBy s v x&&o6 s l m
 |_,_=>false
theorem kO {s:Nat→Nat→Bool}: ∀{l m:List RV},o6 s l m=true→l.length=m.length∧ ∀(j:Nat) (v x:RV),l[j]?=some v→m[j]?=some x→aBy s v x=true
 | [],[],_=>⟨rfl,fun j v x h=>by simp at h⟩
 | [],_::_,h=>by cases h
 |_::_,[],h=>by cases h
 |v::l,x::m,h=>by
  unfold o6 at h;rw[bZi] at h;obtain ⟨h1,h2⟩:=kO h.2;refine ⟨by simp[h1],fun j v' x' hv hx=>?_⟩;cases j with
  |zero=>simp at hv hx;subst hv;subst hx;exact h.1
  |succ j=>simp at hv hx;exact h2 j v' x' hv hx
theorem nP (s:Nat→Nat→Bool): ∀(l m:List RV),(RV.rec_1 (motive_1:=fun _=>RV→Bool) (motive_2:=fun _=>List RV→Bool)
 (fun _=>true) (fun x=>match x with| .nov=>true|_=>false) (fun b x=>match x with| .bool c=>aLp b c|_=>false) (fun k n x=>match x with| .int k' n'=>bPn k k'&&decide (n=n')|_=>false)
 (fun t x=>match x with| .str t'=>bHc t t'|_=>false) (fun x=>match x with| .nilp=>true|_=>false) (fun b o x=>match x with| .ptr b' o'=>s b b'&&Nat.beq o o'|_=>false)
 (fun g o x=>match x with| .gp g' o'=>Nat.beq g g'&&Nat.beq o o'|_=>false) (fun b x=>match x with| .yl b'=>s b b'|_=>false) (fun x=>match x with| .nils=>true|_=>false) (fun x=>match x with| .em=>true| .nils=>true|_=>false)
 (fun b o l z c f x=>match x with| .sl b' o' l' z' c' f'=>s b b'&&(Nat.beq o o'&&(Nat.beq l l'&&(Nat.beq z z'&&(eqO c c'&&aLp f f'))))|_=>false) (fun x=>match x with| .nilm=>true|_=>false) (fun b x=>match x with| .mp b'=>s b b'|_=>false)
 (fun x=>match x with| .nilf=>true|_=>false) (fun x=>match x with| .nili=>true|_=>false)
 (fun f _ _ i1 i2 x=>match x with| .fn f' a b=>Nat.beq f f'&&(i1 a&&i2 b)|_=>false) (fun _ i x=>match x with| .agg l=>i l|_=>false) (fun _ i x=>match x with| .tup l=>i l|_=>false) (fun t _ i x=>match x with| .ifc t' y=>Nat.beq t t'&&i y|_=>false)
 (fun l=>match l with| []=>true|_=>false) (fun _ _ i1 i2 l=>match l with|y::m=>i1 y&&i2 m| []=>false) l:List RV→Bool) m=o6 s l m
 | [],[]=>rfl
 | [],_::_=>rfl
 |_::_,[]=>rfl
 |v::l,x::m=>by
  show (aBy s v x&&_)=(aBy s v x&&o6 s l m);rw[← nP s l m]
theorem aYu {s:Nat→Nat→Bool} {l m:List RV} (h:aBy s (.agg l) (.agg m)=true):o6 s l m=true:=by rw[← nP];exact h
theorem bBe {s:Nat→Nat→Bool} {l m:List RV} (h:aBy s (.tup l) (.tup m)=true):o6 s l m=true:=by rw[← nP];exact h
theorem bFl {s:Nat→Nat→Bool} {f f':FuncId} {a b a' b':List RV} (h:aBy s (.fn f a b) (.fn f' a' b')=true):f=f'∧o6 s a a'=true∧o6 s b b'=true:=by
 have h:(Nat.beq f f'&&(_&&_))=true:=h;rw[bZi,bZi] at h;exact ⟨cBf h.1,by rw[← nP];exact h.2.1,by rw[← nP];exact h.2.2⟩
theorem aAa {s:Nat→Nat→Bool} {E E0:dX} (hE: ∀b b' p,s b b'=true→E b'=some p→E0 b=some p) {x:RV} {u:Value} (h:Rr E x u): ∀v,aBy s v x=true→Rr E0 v u:=by
 induction h with
 |und x=>intro v hv;cases v<;>first|exact .und _|cases hv
 |nov=>intro v hv;cases v<;>first|exact .nov|exact .und _|cases hv
 |bool b=>
  intro v hv;cases v<;>first|exact .und _|skip
  case bool c=>obtain rfl:=aLx (show aLp c b=true from hv);exact .bool _
  all_goals cases hv
 |int k n=>
  intro v hv;cases v<;>first|exact .und _|skip
  case int k' n'=>
   have hv:(bPn k' k&&decide (n'=n))=true:=hv;rw[bZi] at hv;obtain rfl:=cFq (show decide (k'=k)=true from hv.1);obtain rfl:=cFq hv.2;exact .int _ _
  all_goals cases hv
 |str t=>
  intro v hv;cases v<;>first|exact .und _|skip
  case str t'=>obtain rfl:=aWg (show bHc t' t=true from hv);exact .str _
  all_goals cases hv
 |nilp=>intro v hv;cases v<;>first|exact .nilp|exact .und _|cases hv
 |ptr b off g n h=>
  intro v hv;cases v<;>first|exact .und _|skip
  case ptr b' o'=>
   have hv:(s b' b&&Nat.beq o' off)=true:=hv;rw[bZi] at hv;obtain rfl:=cBf hv.2;exact .ptr _ _ g n (hE _ _ _ hv.1 h)
  all_goals cases hv
 |gp g off=>
  intro v hv;cases v<;>first|exact .und _|skip
  case gp g' o'=>
   have hv:(Nat.beq g' g&&Nat.beq o' off)=true:=hv;rw[bZi] at hv;obtain rfl:=cBf hv.1;obtain rfl:=cBf hv.2;exact .gp _ _
  all_goals cases hv
 |yl b g n h=>
  intro v hv;cases v<;>first|exact .und _|skip
  case yl b'=>
   exact .yl _ g n (hE _ _ _ (show s b' b=true from hv) h)
  all_goals cases hv
 |nils=>
  intro v hv;cases v<;>first|exact .nils|exact .und _|exact .em none 0|cases hv
 |em b c=>intro v hv;cases v<;>first|exact .em b c|exact .und _|cases hv
 |sl b off len z cap full g n c h hl hm hs hf hc=>
  intro v hv;cases v<;>first|exact .und _|skip
  case sl b' o' l' z' c' f'=>
   have hv:(s b' b&&(Nat.beq o' off&&(Nat.beq l' len&&(Nat.beq z' z&&(eqO c' cap&&aLp f' full)))))=true:=hv;simp only[bZi] at hv;obtain ⟨h1,h2,h3,h4,h5,h6⟩:=hv;obtain rfl:=cBf h2;obtain rfl:=cBf h3;obtain rfl:=cBf h4;obtain rfl:=bHp h5;obtain rfl:=aLx h6;exact .sl _ _ _ _ _ _ g n c (hE _ _ _ h1 h) hl hm hs hf hc
  all_goals cases hv
 |nilm=>intro v hv;cases v<;>first|exact .nilm|exact .und _|cases hv
 |mp b g n h=>
  intro v hv;cases v<;>first|exact .und _|skip
  case mp b'=>
   exact .mp _ g n (hE _ _ _ (show s b' b=true from hv) h)
  all_goals cases hv
 |nilf=>intro v hv;cases v<;>first|exact .nilf|exact .und _|cases hv
 |nili=>intro v hv;cases v<;>first|exact .nili|exact .und _|cases hv
 |fn f fs cs us vs hf hc hfr hcr ih1 ih2=>
  intro v hv;cases v<;>first|exact .und _|skip
  case fn f' a b=>
   obtain ⟨rfl,h1,h2⟩:=bFl hv;obtain ⟨a1,a2⟩:=kO h1;obtain ⟨b1,b2⟩:=kO h2;refine .fn _ _ _ us vs (a1.trans hf) (b1.trans hc) (fun j d u hd hu=>?_) fun j d u hd hu=>?_
   ·have hj:j<fs.length:=by rw[← a1];exact (cBz.1 hd).1
    exact ih1 j _ u (cEn hj) hu d (a2 j d _ hd (cEn hj))
   have hj:j<cs.length:=by rw[← b1];exact (cBz.1 hd).1
   exact ih2 j _ u (cEn hj) hu d (b2 j d _ hd (cEn hj))
  all_goals cases hv
 |agg cs vs hl hone hrel ih=>
  intro v hv;cases v<;>first|exact .und _|skip
  case agg l=>
   obtain ⟨a1,a2⟩:=kO (aYu hv);refine .agg _ vs (a1.trans hl) hone fun j d u hd hu=>?_;have hj:j<cs.length:=by rw[← a1];exact (cBz.1 hd).1
   exact ih j _ u (cEn hj) hu d (a2 j d _ hd (cEn hj))
  all_goals cases hv
 |tup cs vs hl hrel ih=>
  intro v hv;cases v<;>first|exact .und _|skip
  case tup l=>
   obtain ⟨a1,a2⟩:=kO (bBe hv);refine .tup _ vs (a1.trans hl) fun j d u hd hu=>?_;have hj:j<cs.length:=by rw[← a1];exact (cBz.1 hd).1
   exact ih j _ u (cEn hj) hu d (a2 j d _ hd (cEn hj))
  all_goals cases hv
 |ifc t d x h ih=>
  intro v hv;cases v<;>first|exact .und _|skip
  case ifc t' y=>
   have hv:(Nat.beq t' t&&aBy s y d)=true:=hv;rw[bZi] at hv;obtain rfl:=cBf hv.1;exact .ifc _ _ _ (ih y hv.2)
  all_goals cases hv
def aYo (s:Nat→Nat→Bool):dS→dS→Bool
 | .cells e cs,.cells e' cs'=>Nat.beq e e'&&o6 s cs cs'
 | .rom cs,.rom cs'=>o6 s cs cs'
 |_,_=>false
theorem aTk {s:Nat→Nat→Bool} {E E0:dX} (hE: ∀b b' p,s b b'=true→E b'=some p→E0 b=some p) {w:World} {k k':dS} {g n:Nat} (h:BR E w k' g n) (hr:aYo s k k'=true):BR E0 w k g n:=by
 cases k<;>cases k'<;>first|(cases hr;done)|skip
 ·rename_i e cs e' cs';have hr:(Nat.beq e e'&&o6 s cs cs')=true:=hr;rw[bZi] at hr;obtain rfl:=cBf hr.1;obtain ⟨a1,a2⟩:=kO hr.2;obtain ⟨us,h1,h2,h3,h5⟩:=h;refine ⟨us,h1,h2,by rw[a1];exact h3,fun j v u hv hu=>?_⟩;have hj:j<cs'.length:=by rw[← a1];exact (cBz.1 hv).1
  obtain ⟨q1,q2⟩:=h5 j _ u (cEn hj) hu;exact ⟨q1,aAa hE q2 v (a2 j v _ hv (cEn hj))⟩
 rename_i cs cs';obtain ⟨a1,a2⟩:=kO (show o6 s cs cs'=true from hr);obtain ⟨us,e,fz,h1,h2,h3,h5⟩:=h;refine ⟨us,e,fz,h1,h2,by rw[a1];exact h3,fun j v u hv hu=>?_⟩;have hj:j<cs'.length:=by rw[← a1];exact (cBz.1 hv).1
 obtain ⟨q1,q2⟩:=h5 j _ u (cEn hj) hu;exact ⟨q1,aAa hE q2 v (a2 j v _ hv (cEn hj))⟩
def aBl (p:Nat→Option Nat) (v:RV):RV:=RV.rec (motive_1:=fun _=>RV) (motive_2:=fun _=>List RV)
 .und .nov .bool .int .str .nilp (fun b o=>match p b with|some c=>.ptr c o|none=>.und) .gp (fun b=>match p b with|some c=>.yl c|none=>.und) .nils .em
 (fun b o l z c f=>match p b with|some b'=>.sl b' o l z c f|none=>.und) .nilm (fun b=>match p b with|some c=>.mp c|none=>.und) .nilf .nili
 (fun f _ _ a b=>.fn f a b) (fun _ l=>.agg l) (fun _ l=>.tup l) (fun t _ x=>.ifc t x) [] (fun _ _ x l=>x::l) v
theorem nS (p:Nat→Option Nat): ∀l:List RV,(RV.rec_1 (motive_1:=fun _=>RV) (motive_2:=fun _=>List RV)
 .und .nov .bool .int .str .nilp (fun b o=>match p b with|some c=>.ptr c o|none=>.und) .gp (fun b=>match p b with|some c=>.yl c|none=>.und) .nils .em
 (fun b o l z c f=>match p b with|some b'=>.sl b' o l z c f|none=>.und) .nilm (fun b=>match p b with|some c=>.mp c|none=>.und) .nilf .nili
 (fun f _ _ a b=>.fn f a b) (fun _ l=>.agg l) (fun _ l=>.tup l) (fun t _ x=>.ifc t x) [] (fun _ _ x l=>x::l) l:List RV)=l.map (aBl p)
 | []=>rfl
 |v::l=>by
  show aBl p v::_=aBl p v::l.map (aBl p);rw[← nS p l]
theorem aSh {p:Nat→Option Nat} {E E0:dX} (hE: ∀b c q,p b=some c→E0 b=some q→E c=some q) {v:RV} {u:Value} (h:Rr E0 v u):Rr E (aBl p v) u:=by
 induction h with
 |und x=>exact .und x
 |nov=>exact .nov
 |bool b=>exact .bool b
 |int k n=>exact .int k n
 |str s=>exact .str s
 |nilp=>exact .nilp
 |ptr b off g s h=>
  show Rr E (match p b with|some c=>.ptr c off|none=>.und) _;cases hp:p b with
  |none=>exact .und _
  |some c=>exact .ptr c off g s (hE _ _ _ hp h)
 |gp g off=>exact .gp g off
 |yl b g s h=>
  show Rr E (match p b with|some c=>.yl c|none=>.und) _;cases hp:p b with
  |none=>exact .und _
  |some c=>exact .yl c g s (hE _ _ _ hp h)
 |nils=>exact .nils
 |em b c=>exact .em b c
 |sl b off len z cap full g s c h hl hm hs hf hc=>
  show Rr E (match p b with|some b'=>.sl b' off len z cap full|none=>.und) _;cases hp:p b with
  |none=>exact .und _
  |some b'=>exact .sl b' off len z cap full g s c (hE _ _ _ hp h) hl hm hs hf hc
 |nilm=>exact .nilm
 |mp b g s h=>
  show Rr E (match p b with|some c=>.mp c|none=>.und) _;cases hp:p b with
  |none=>exact .und _
  |some c=>exact .mp c g s (hE _ _ _ hp h)
 |nilf=>exact .nilf
 |nili=>exact .nili
 |fn f fs cs us vs hf hc hfr hcr ih1 ih2=>
  show Rr E (.fn f _ _) _;rw[nS,nS];refine .fn f _ _ us vs (by simpa using hf) (by simpa using hc) (fun j d u hd hu=>?_) fun j d u hd hu=>?_
  ·rw[cDj,cBa] at hd;obtain ⟨x,hx,rfl⟩:=hd;exact ih1 j x u hx hu
  rw[cDj,cBa] at hd;obtain ⟨x,hx,rfl⟩:=hd;exact ih2 j x u hx hu
 |agg cs vs hl hone hrel ih=>
  show Rr E (.agg _) _;rw[nS];refine .agg _ vs (by simpa using hl) hone fun j d u hd hu=>?_;rw[cDj,cBa] at hd;obtain ⟨x,hx,rfl⟩:=hd;exact ih j x u hx hu
 |tup cs vs hl hrel ih=>
  show Rr E (.tup _) _;rw[nS];refine .tup _ vs (by simpa using hl) fun j d u hd hu=>?_;rw[cDj,cBa] at hd;obtain ⟨x,hx,rfl⟩:=hd;exact ih j x u hx hu
 |ifc t d x h ih=>exact .ifc t _ x ih
def bEs (p:Nat→Option Nat):dS→dS
 | .cells e cs=>.cells e (cs.map (aBl p))
 | .rom cs=>.rom (cs.map (aBl p))
 |k=>k
def bBd:dS→Bool
 | .cells _ _=>true
 | .rom _=>true
 |_=>false
theorem bGu {p:Nat→Option Nat} {E E0:dX} (hE: ∀b c q,p b=some c→E0 b=some q→E c=some q) {w:World} {k:dS} {g s:Nat} (hk:bBd k=true) (h:BR E0 w k g s):BR E w (bEs p k) g s:=by
 have key: ∀(cs:List RV) (us:Array Value),(∀(j:Nat) (v:RV) (u:Value),cs[j]?=some v→us[j]?=some u→u.oneCell'=true∧Rr E0 v u)→ ∀(j:Nat) (v:RV) (u:Value),(cs.map (aBl p))[j]?=some v→us[j]?=some u→u.oneCell'=true∧Rr E v u:=fun cs us hh j v u hv hu=>by
  rw[cDj,cBa] at hv;obtain ⟨x,hx,rfl⟩:=hv;exact ⟨(hh j x u hx hu).1,aSh hE (hh j x u hx hu).2⟩
 cases k with
 |cells e cs=>obtain ⟨us,h1,h2,h3,h5⟩:=h;exact ⟨us,h1,h2,by simpa using h3,key cs us h5⟩
 |rom cs=>obtain ⟨us,e,fz,h1,h2,h3,h5⟩:=h;exact ⟨us,e,fz,h1,h2,by simpa using h3,key cs us h5⟩
 |_=>cases hk
structure Ent where
 f:FuncId
 n0:Nat
 L0:List (Nat×dS)
 l0:List RV
 r0:RV
 L1:List (Nat×dS)
def sO:List (Nat×dS)→Tr dS→Tr dS
 | [],t=>t
 |p::L,t=>sO L (t.set p.1 (some p.2))
def zK (L:List (Nat×dS)) (b:Nat):Option dS:=match L with
 | []=>none
 |p::L=>match zK L b with
  |some k=>some k
  |none=>bif Nat.beq p.1 b then some p.2 else none
theorem aJy: ∀(L:List (Nat×dS)) (t:Tr dS) (b:Nat),(∀p∈L,p.1<ub)→(sO L t).get b=match zK L b with|some k=>some k|none=>t.get b
 | [],t,b,_=>rfl
 |p::L,t,b,h=>by
  rw[sO,aJy L _ b fun q hq=>h q (by simp[hq]),zK];cases zK L b with
  |some k=>rfl
  |none=>
   show (t.set p.1 (some p.2)).get b=_;rw[Tr.get_set (h p b7)];by_cases e:b=p.1
   ·subst e;rw[if_pos rfl,show Nat.beq p.1 p.1=true from Nat.beq_refl _];rfl
   rw[if_neg e,show Nat.beq p.1 b=false from by cases h:Nat.beq p.1 b with|false=>rfl|true=>exact absurd (cBf h).symm e];rfl
theorem uW: ∀{L:List (Nat×dS)} {b:Nat} {k:dS},zK L b=some k→(b,k)∈L
 | [],_,_,h=>by cases h
 |p::L,b,k,h=>by
  unfold zK at h;cases h1:zK L b with
  |some k'=>rw[h1] at h;cases h;exact cAi _ (uW h1)
  |none=>
   rw[h1] at h;cases h2:Nat.beq p.1 b with
   |false=>simp only[h2] at h;cases h
   |true=>
    simp only[h2,bZn] at h;cases h;obtain rfl:=cBf h2;exact cAv ..
def sU (P:Program) (e:Ent):Prop:=
 ∃r1 h1 n1,xP P e.n0 (.inl e.f) e.l0 (sO e.L0 .e) e.n0 r1 h1 n1∧aBy Nat.beq e.r0 r1=true∧(∀p∈e.L1,∃k,h1.get p.1=some k∧aYo Nat.beq p.2 k=true∧e.n0≤p.1∧p.1<n1∧bBd p.2=true)∧(e.L1.map (·.1)).Nodup∧NG≤e.n0∧(∀p∈e.L0,p.1<e.n0)∧e.n0≤ub
def aWa (L:List (Nat×dS)) (b:Nat):Option Nat:=match L with
 | []=>none
 |p::L=>bif Nat.beq p.1 b then some 0 else match aWa L b with
  |some i=>some (i+1)
  |none=>none
theorem aMg: ∀{L:List (Nat×dS)} {b i:Nat},aWa L b=some i→ ∃k,L[i]?=some (b,k)
 | [],_,_,h=>by cases h
 |p::L,b,i,h=>by
  unfold aWa at h;cases h2:Nat.beq p.1 b with
  |true=>
   simp only[h2,bZn] at h;cases h;obtain rfl:=cBf h2;exact ⟨p.2,rfl⟩
  |false=>
   simp only[h2,cDq] at h;cases h1:aWa L b with
   |none=>rw[h1] at h;cases h
   |some j=>
    rw[h1] at h;cases h;obtain ⟨k,hk⟩:=aMg h1;exact ⟨k,by simpa using hk⟩
def zT (e:Ent) (s:Nat→Nat) (n:Nat) (b:Nat):Option Nat:=bif Nat.ble (b+1) e.n0 then some (s b) else match aWa e.L1 b with
 |some i=>some (n+i)
 |none=>none
def aHf (q:Nat→Option Nat):List (Nat×dS)→Nat→Tr dS→Tr dS
 | [],_,t=>t
 |p::L,n,t=>aHf q L (n+1) (t.set n (some (bEs q p.2)))
theorem aMz {q:Nat→Option Nat}: ∀(L:List (Nat×dS)) (n:Nat) (t:Tr dS) (b:Nat),n+L.length≤ub→(aHf q L n t).get b=if n≤b∧b<n+L.length then (L[b-n]?).map (fun p=>bEs q p.2) else t.get b
 | [],n,t,b,_=>by rw[aHf,if_neg (by simp only[cCz];omega)]
 |p::L,n,t,b,h=>by
  rw[cDx] at h;rw[aHf,aMz L (n+1) _ b aN,cDx];by_cases h1:n+1≤b∧b<n+1+L.length
  ·rw[if_pos h1,if_pos aN,show b-n=(b-(n+1))+1 by omega,cAa]
  rw[if_neg h1,Tr.get_set aN];by_cases h2:b=n
  ·subst h2;rw[if_pos rfl,if_pos aN,Nat.sub_self];rfl
  rw[if_neg h2,if_neg aN]
def bAr (e:Ent) (s:Nat→Nat) (b b':Nat):Bool:=Nat.ble (b+1) e.n0&&Nat.beq (s b) b'
def aHt (e:Ent) (s:Nat→Nat) (l:List RV) (h:Tr dS) (n:Nat):Bool:=
 o6 (bAr e s) e.l0 l&&(e.L0.all (fun p=>match h.get (s p.1) with|some k=>aYo (bAr e s) p.2 k&&(Nat.ble NG p.1||Nat.beq (s p.1) p.1)|none=>false)&&((ndN (e.L0.map fun p=>s p.1))&&decide (n+e.L1.length≤ub)))
where
 ndN:List Nat→Bool
 | []=>true
 |a::l=> !(l.any fun b=>Nat.beq a b)&&ndN l
theorem aSl {s:Nat→Nat}: ∀{L:List (Nat×dS)},aHt.ndN (L.map fun p=>s p.1)=true→ ∀p∈L,∀q∈L,s p.1=s q.1→p.1=q.1
 | [],_,p,hp,_,_,_=>by cases hp
 |a::L,h,p,hp,q,hq,e=>by
  have h:(!((L.map fun p=>s p.1).any fun b=>Nat.beq (s a.1) b)&&aHt.ndN (L.map fun p=>s p.1))=true:=h;rw[bZi,cAz,List.any_eq_false] at h;have hn: ∀r∈L,s a.1≠s r.1:=fun r hr he=>by
   have:=h.1 (s r.1) (cAy.2 ⟨r,hr,rfl⟩);rw[he] at this;exact this (Nat.beq_refl _)
  rcases cDt.1 hp with h1|h1<;>rcases cDt.1 hq with h2|h2
  ·rw[h1,h2]
  ·rw[h1] at e;exact absurd e (hn q h2)
  ·rw[h2] at e;exact absurd e.symm (hn p h1)
  exact aSl h.2 p h1 q h2 e
theorem bFu {L:List (Nat×dS)} (hn:(L.map (·.1)).Nodup) {i j:Nat} {p q:Nat×dS} (hi:L[i]?=some p) (hj:L[j]?=some q) (e:p.1=q.1):i=j:=by
 have hil:=(cBz.1 hi).1;have hjl:=(cBz.1 hj).1;have h1:(L.map (·.1))[i]?=some p.1:=by rw[cDj,hi];rfl
 have h2:(L.map (·.1))[j]?=some q.1:=by rw[cDj,hj];rfl
 rw[e,← h2] at h1;exact (List.getElem?_inj (by simpa using hil) hn).1 h1
theorem bAv {P:Program} {e:Ent} (he:sU P e) {s:Nat→Nat} {l:List RV} {h:Tr dS} {n:Nat} (hf:aHt e s l h n=true) {lo:Nat} (hlo:lo≤n):
  xP P lo (.inl e.f) l h n (aBl (zT e s n) e.r0) (aHf (zT e s n) e.L1 n h) (n+e.L1.length):=by
 obtain ⟨r1,h1,n1,hc,hr1,hL1,hnd,hng,hL0,hub0⟩:=he;unfold aHt at hf;simp only[bZi,cCk,cFp] at hf;obtain ⟨hl,hblk,hinj,hub⟩:=hf;have hinj:=aSl hinj;obtain ⟨hll,hlr⟩:=kO hl;have hnew:=fun b=>aMz (q:=zT e s n) e.L1 n h b hub;refine ⟨⟨by omega,fun b hb=>?_⟩,fun m E w vals hm hs hsz hrel=>?_⟩
 ·rw[hnew,if_neg aN]
 have h0get: ∀b,(sO e.L0 .e).get b=zK e.L0 b:=fun b=>by
  rw[aJy _ _ _ fun p hp=>cDi (hL0 p hp) hub0];cases zK e.L0 b with
  |some k=>rfl
  |none=>exact Tr.get_e b
 have hat: ∀{b k},zK e.L0 b=some k→ ∃k',h.get (s b)=some k'∧aYo (bAr e s) k k'=true∧(NG≤b∨s b=b)∧b<e.n0:=fun {b k} hk=>by
  have hm:=uW hk;have:=hblk _ hm;cases hg:h.get (s b) with
  |none=>rw[hg] at this;cases this
  |some k'=>
   rw[hg] at this;simp only[bZi,cEx] at this;exact ⟨k',rfl,this.1,this.2.imp (fun q=>cCt q) (fun q=>cBf q),hL0 _ hm⟩
 let E0:dX:=fun b=>if b<e.n0 then E (s b) else none
 have hE0: ∀b b' p,bAr e s b b'=true→E b'=some p→E0 b=some p:=fun b b' p hb hp=>by
  unfold bAr at hb;rw[bZi] at hb;obtain rfl:=cBf hb.2;show (if b<e.n0 then E (s b) else none)=_;rw[if_pos (show b<e.n0 from cCt hb.1)];exact hp
 have hE0': ∀{b p},E0 b=some p→b<e.n0∧E (s b)=some p:=fun {b p} hb=>by
  have hb:(if b<e.n0 then E (s b) else none)=some p:=hb;split at hb
  ·rename_i h;exact ⟨h,hb⟩
  cases hb
 have hs0:HS E0 (sO e.L0 .e).get e.n0 n1 w:=by
  refine ⟨fun b k hk=>?_,fun b c g q q' hb hc hbg hcg=>?_,fun b g q hb=>hs.old _ _ _ (hE0' hb).2,fun b hb _=>?_,fun b hb=>?_,hng,fun b hb hk=>?_⟩
  ·rw[h0get] at hk;obtain ⟨k',a1,a2,_,a4⟩:=hat hk;obtain ⟨g,q,b1,b2⟩:=hs.blk _ _ a1;exact ⟨g,q,by show (if b<e.n0 then E (s b) else none)=_;rw[if_pos a4];exact b1,aTk hE0 b2 a2⟩
  ·rw[h0get] at hb hc;obtain ⟨kb,hb⟩:=cEa.1 hb;obtain ⟨kc,hc⟩:=cEa.1 hc;obtain ⟨kb',a1,_⟩:=hat hb;obtain ⟨kc',b1,_⟩:=hat hc;exact hinj _ (uW hb) _ (uW hc) (hs.inj _ _ g q q' (by rw[a1];simp) (by rw[b1];simp) (hE0' hbg).2 (hE0' hcg).2)
  ·show (if b<e.n0 then E (s b) else none)=none;rw[if_neg aN]
  ·rw[h0get];cases hk:zK e.L0 b with
   |none=>rfl
   |some k=>have:=(hat hk).choose_spec.2.2.2;have:=hc.1.nn;omega
  rw[h0get] at hk;obtain ⟨k,hk⟩:=cEa.1 hk;obtain ⟨k',a1,_,a3,a4⟩:=hat hk;have hsb:s b=b:=by rcases a3 with h|h;omega;exact h
  rw[hsb] at a1;obtain ⟨q,hq⟩:=hs.glob b hb (by rw[a1];simp);exact ⟨q,by show (if b<e.n0 then E (s b) else none)=_;rw[if_pos a4,hsb];exact hq⟩
 have hrel0: ∀(j:Nat) (d:RV) (u:Value),e.l0[j]?=some d→vals[j]?=some u→Rr E0 d u:=fun j d u hd hu=>by
  have hj:j<l.length:=by rw[← hll];exact (cBz.1 hd).1
  exact aAa hE0 (hrel j _ u (cEn hj) hu) d (hlr j d _ hd (cEn hj))
 have main: ∀x w',hQ e.n0 E0 (sO e.L0 .e) e.n0 w r1 h1 n1 n1 x w'→hQ lo E h n w (aBl (zT e s n) e.r0) (aHf (zT e s n) e.L1 n h) (n+e.L1.length) m x w':=fun x w' ⟨y,E1,hx,hs1,hx1,hr⟩=>by
  have hsame: ∀b b' p,Nat.beq b b'=true→E1 b'=some p→E1 b=some p:=fun b b' p hb hp=>by rw[cBf hb];exact hp
  have hr:=aAa hsame hr _ hr1;have hkeep: ∀g,g<w.heap.size→w'.heap[g]?=w.heap[g]?:=fun g hg=>by
   by_cases hex: ∃b q,(sO e.L0 .e).get b≠none∧E0 b=some (g,q)
   ·obtain ⟨b,q,a1,a2⟩:=hex;exact (hx1.keep b (hE0' a2).1).2 g q a1 a2
   exact (hx1.frame g hg fun b q a1 a2=>hex ⟨b,q,a1,a2⟩).1
  have hfresh: ∀p∈e.L1,∀g q,E1 p.1=some (g,q)→w.heap.size≤g:=fun p hp g q hg=>by
   obtain ⟨k1,a1,_,a2,a3,a4⟩:=hL1 p hp;rcases cBd g w.heap.size with hlt|hge
   ·exfalso;by_cases hex: ∃b q,(sO e.L0 .e).get b≠none∧E0 b=some (g,q)
    ·obtain ⟨b,q',b1,b2⟩:=hex;have hb:=(hE0' b2).1;have h3:=hx1.keep b hb;have h4:E1 b=some (g,q'):=by rw[hx1.emb b (.inl hb)];exact b2
     have:=hs1.inj b p.1 g q' q (by rw[h3.1];exact b1) (by rw[a1];simp) h4 hg;omega
    exact (hx1.frame g hlt fun b q a1 a2=>hex ⟨b,q,a1,a2⟩).2 p.1 q (by rw[a1];simp) hg
   exact hge
  let E':dX:=fun c=>if n≤c∧c<n+e.L1.length then (match e.L1[c-n]? with|some p=>E1 p.1|none=>none) else E c
  have hEo: ∀c,¬(n≤c∧c<n+e.L1.length)→E' c=E c:=fun c hc=>if_neg hc;have hEn: ∀i p,e.L1[i]?=some p→E' (n+i)=E1 p.1:=fun i p hp=>by
   have hi:=(cBz.1 hp).1;show (if n≤n+i∧n+i<n+e.L1.length then (match e.L1[n+i-n]? with|some p=>E1 p.1|none=>none) else E (n+i))=_;rw[if_pos aN,show n+i-n=i by omega,hp]
  have hup: ∀b p,E b=some p→E' b=some p:=fun b p hb=>by
   rw[hEo b fun hc=>by rw[hs.free b hc.1 aN] at hb;cases hb];exact hb
  have hE1: ∀b c q,zT e s n b=some c→E1 b=some q→E' c=some q:=fun b c q hb hq=>by
   unfold zT at hb;cases hle:Nat.ble (b+1) e.n0 with
   |true=>
    rw[hle] at hb;cases hb;have hb2:b<e.n0:=cCt hle;rw[hx1.emb b (.inl hb2)] at hq;exact hup _ _ (hE0' hq).2
   |false=>
    rw[hle] at hb;simp only[cDq] at hb;cases hp:aWa e.L1 b with
    |none=>rw[hp] at hb;cases hb
    |some i=>
     rw[hp] at hb;cases hb;obtain ⟨k,hk⟩:=aMg hp;rw[hEn i _ hk];exact hq
  have hcase: ∀c,(aHf (zT e s n) e.L1 n h).get c≠none→(¬(n≤c∧c<n+e.L1.length)∧h.get c≠none∧c<n)∨ ∃i p,c=n+i∧e.L1[i]?=some p:=fun c hc=>by
   rw[hnew] at hc;by_cases h2:n≤c∧c<n+e.L1.length
   ·right;exact ⟨c-n,_,by omega,cEn aN⟩
   left;rw[if_neg h2] at hc;refine ⟨h2,hc,?_⟩;rcases cBd c n with h3|h3
   ·exact h3
   exact absurd (hs.none_of h3) hc
  have hself: ∀i p,e.L1[i]?=some p→(aHf (zT e s n) e.L1 n h).get (n+i)=some (bEs (zT e s n) p.2):=fun i p hp=>by
   have hi:=(cBz.1 hp).1;rw[hnew,if_pos aN,show n+i-n=i by omega,hp];rfl
  refine ⟨y,E',hx,⟨fun c k hk=>?_,fun b c g q q' hb hc hbg hcg=>?_,fun c g q hc=>?_,fun c hc1 hc2=>?_,fun c hc=>?_,by have:=hs.ng;omega,fun c hc hk=>?_⟩,⟨hx1.os,hx1.tape,hx1.output,hx1.size,by omega,fun b hb=>?_,fun g hg hfr=>?_,fun b hb=>?_,fun b hb=>?_⟩,aSh hE1 hr⟩
  ·rcases hcase c (by rw[hk];simp) with ⟨a1,a2,a3⟩|⟨i,p,rfl,hp⟩
   ·rw[hnew,if_neg a1] at hk;obtain ⟨g,q,b1,b2⟩:=hs.blk c k hk;exact ⟨g,q,hup _ _ b1,b2.mono hup (hkeep g (hs.old _ _ _ b1))⟩
   rw[hself i p hp] at hk;cases hk;obtain ⟨k1,a1,a5,a2,a3,a4⟩:=hL1 p (cDb hp);obtain ⟨g,q,b1,b2⟩:=hs1.blk _ _ a1;exact ⟨g,q,by rw[hEn i p hp];exact b1,bGu hE1 a4 (aTk hsame b2 a5)⟩
  ·rcases hcase b hb with ⟨a1,a2,a3⟩|⟨i,p,rfl,hp⟩<;>rcases hcase c hc with ⟨b1,b2,b3⟩|⟨j,p',rfl,hp'⟩
   ·rw[hEo _ a1] at hbg;rw[hEo _ b1] at hcg;exact hs.inj b c g q q' a2 b2 hbg hcg
   ·rw[hEo _ a1] at hbg;rw[hEn j p' hp'] at hcg;have h1:=hs.old _ _ _ hbg;have h2:=hfresh p' (cDb hp') _ _ hcg;omega
   ·rw[hEn i p hp] at hbg;rw[hEo _ b1] at hcg;have h1:=hs.old _ _ _ hcg;have h2:=hfresh p (cDb hp) _ _ hbg;omega
   rw[hEn i p hp] at hbg;rw[hEn j p' hp'] at hcg;have hne: ∀p∈e.L1,h1.get p.1≠none:=fun p hp=>by obtain ⟨k1,a1,_⟩:=hL1 p hp;rw[a1];simp
   have h3:=hs1.inj p.1 p'.1 g q q' (hne p (cDb hp)) (hne p' (cDb hp')) hbg hcg;rw[bFu hnd hp hp' h3]
  ·by_cases h2:n≤c∧c<n+e.L1.length
   ·have hi:c-n<e.L1.length:=by omega
    have hp:=cEn hi;have:=hEn (c-n) _ hp;rw[show n+(c-n)=c by omega] at this;rw[this] at hc;exact hs1.old _ _ _ hc
   rw[hEo _ h2] at hc;exact cDi (hs.old _ _ _ hc) hx1.size
  ·rw[hEo _ aN];exact hs.free c aN hc2
  ·rw[hnew,if_neg aN];exact hs.top c hc
  ·have hng2:=hs.ng;rw[hnew,if_neg aN] at hk;obtain ⟨q,hq⟩:=hs.glob c hc hk;exact ⟨q,by rw[hEo _ aN];exact hq⟩
  ·exact hEo _ aN
  ·refine ⟨hkeep g hg,fun c q hc hcg=>?_⟩;rcases hcase c hc with ⟨a1,a2,a3⟩|⟨i,p,rfl,hp⟩
   ·rw[hEo _ a1] at hcg;exact hfr c q a2 hcg
   rw[hEn i p hp] at hcg;have:=hfresh p (cDb hp) _ _ hcg;omega
  ·refine ⟨by rw[hnew,if_neg aN],fun g q _ hbg=>hkeep g (hs.old _ _ _ hbg)⟩
  rw[hnew,if_neg aN]
 have hcall:=hc.2 n1 E0 w vals (cCq _) hs0 (hsz.trans hll.symm) hrel0;show if aO P e.f=true then _ else _
 have hcall:if aO P e.f=true then Calls P e.f vals w (hQ e.n0 E0 (sO e.L0 .e) e.n0 w r1 h1 n1 n1) else ∃y w',(callFunc e.f vals).run P w=.ok (.value y) w'∧hQ e.n0 E0 (sO e.L0 .e) e.n0 w r1 h1 n1 n1 (.returned y) w':=hcall
 by_cases hb:aO P e.f=true
 ·rw[if_pos hb] at hcall ⊢;exact hcall.mono main
 rw[if_neg hb] at hcall ⊢;obtain ⟨y,w',a1,a2⟩:=hcall;exact ⟨y,w',a1,main _ _ a2⟩
def bWz (v:RV):RV→List (Nat×Nat)→List (Nat×Nat):=RV.rec (motive_1:=fun _=>RV→List (Nat×Nat)→List (Nat×Nat)) (motive_2:=fun _=>List RV→List (Nat×Nat)→List (Nat×Nat))
 (fun _ a=>a) (fun _ a=>a) (fun _ _ a=>a) (fun _ _ _ a=>a) (fun _ _ a=>a) (fun _ a=>a) (fun b _ x a=>match x with| .ptr b' _=>(b,b')::a|_=>a)
 (fun _ _ _ a=>a) (fun b x a=>match x with| .yl b'=>(b,b')::a|_=>a) (fun _ a=>a) (fun _ a=>a)
 (fun b _ _ _ _ _ x a=>match x with| .sl b' _ _ _ _ _=>(b,b')::a|_=>a) (fun _ a=>a) (fun b x a=>match x with| .mp b'=>(b,b')::a|_=>a)
 (fun _ a=>a) (fun _ a=>a)
 (fun _ _ _ i1 i2 x a=>match x with| .fn _ l m=>i1 l (i2 m a)|_=>a) (fun _ i x a=>match x with| .agg l=>i l a|_=>a) (fun _ i x a=>match x with| .tup l=>i l a|_=>a) (fun _ _ i x a=>match x with| .ifc _ y=>i y a|_=>a)
 (fun _ a=>a) (fun _ _ i1 i2 l a=>match l with|y::m=>i1 y (i2 m a)| []=>a) v
def bAy:List RV→List RV→List (Nat×Nat)→List (Nat×Nat)
 |v::l,x::m,a=>bWz v x (bAy l m a)
 |_,_,a=>a
def bWg (k k':Option dS) (a:List (Nat×Nat)):List (Nat×Nat):=match k,k' with
 |some (.cells _ l),some (.cells _ m)=>bAy l m a
 |some (.rom l),some (.rom m)=>bAy l m a
 |_,_=>a
def zI (b:Nat):List (Nat×Nat)→Bool
 | []=>false
 |p::d=>bif Nat.beq p.1 b then true else zI b d
def bGp (L0:List (Nat×dS)) (h:Tr dS):Nat→List (Nat×Nat)→List (Nat×Nat)→List (Nat×Nat)
 |0,_,d=>d
 |_+1,[],d=>d
 |f+1,p::t,d=>bif zI p.1 d then bGp L0 h f t d else bGp L0 h f (bWg (zK L0 p.1) (h.get p.2) t) (p::d)
def aYf (b:Nat):List (Nat×Nat)→Nat
 | []=>b
 |p::d=>bif Nat.beq p.1 b then p.2 else aYf b d
def bUz (e:Ent) (d:List (Nat×Nat)) (l:List RV) (h:Tr dS) (n:Nat):Option (RV×Tr dS×Nat):=
 bif aHt e (fun b=>aYf b d) l h n then some (aBl (zT e (fun b=>aYf b d) n) e.r0,aHf (zT e (fun b=>aYf b d) n) e.L1 n h,n+e.L1.length) else none
def aOi:List Ent→Nat→List RV→Tr dS→Nat→Option (RV×Tr dS×Nat)
 | [],_,_,_,_=>none
 |e::T,f,l,h,n=>bif Nat.beq e.f f then (match bUz e (bGp e.L0 h 100000 (bAy e.l0 l []) []) l h n with
  |some r=>some r
  |none=>aOi T f l h n) else aOi T f l h n
def o8 (T:List Ent) (nat:lG):lG:=fun lo c l h n=>match c with
 | .inl f=>(match aOi T f l h n with
  |some r=>some r
  |none=>nat lo (.inl f) l h n)
 | .inr b=>nat lo (.inr b) l h n
theorem aHi {P:Program}: ∀{T:List Ent},(∀e∈T,sU P e)→ ∀{f:Nat} {l:List RV} {h:Tr dS} {n:Nat} {r:RV} {h':Tr dS} {n':Nat},aOi T f l h n=some (r,h',n')→ ∀{lo:Nat},lo≤n→xP P lo (.inl f) l h n r h' n'
 | [],_,_,_,_,_,_,_,_,hr,_,_=>by cases hr
 |e::T,hT,f,l,h,n,r,h',n',hr,lo,hlo=>by
  unfold aOi at hr;cases hf:Nat.beq e.f f with
  |false=>rw[hf] at hr;exact aHi (fun x hx=>hT x (by simp[hx])) hr hlo
  |true=>
   rw[hf] at hr;simp only[bZn] at hr;obtain rfl:=cBf hf;generalize bGp e.L0 h 100000 (bAy e.l0 l []) []=d at hr;unfold bUz at hr;cases hfit:aHt e (fun b=>aYf b d) l h n with
   |false=>simp only[hfit,cDq] at hr;exact aHi (fun x hx=>hT x (by simp[hx])) hr hlo
   |true=>
    simp only[hfit,bZn] at hr;cases hr;exact bAv (hT e b7) hfit hlo
theorem bGi {P:Program} {T:List Ent} (hT: ∀e∈T,sU P e) {nat:lG} (hn:eO P nat):eO P (o8 T nat):=fun lo c l h n r h' n' hr hlo=>by
 cases c with
 |inr b=>exact hn lo _ l h n r h' n' hr hlo
 |inl f=>
  have hr:(match aOi T f l h n with
   |some r=>some r
   |none=>nat lo (.inl f) l h n)=some (r,h',n'):=hr
  cases ht:aOi T f l h n with
  |some q=>rw[ht] at hr;cases hr;exact aHi hT ht hlo
  |none=>rw[ht] at hr;exact hn lo _ l h n r h' n' hr hlo
def aUj (e:Ent) (q:Option (RV×Tr dS×Nat)):Bool:=match q with
 |some (r,h,n1)=>aBy Nat.beq e.r0 r&&(e.L1.all (fun p=>(match h.get p.1 with|some k=>aYo Nat.beq p.2 k|none=>false)&&(Nat.ble e.n0 p.1&&(Nat.ble (p.1+1) n1&&bBd p.2)))&&(aHt.ndN (e.L1.map (·.1))&&(Nat.ble NG e.n0&&(e.L0.all (fun p=>Nat.ble (p.1+1) e.n0)&&Nat.ble e.n0 ub))))
 |none=>false
theorem bBw: ∀{l:List Nat},aHt.ndN l=true→l.Nodup
 | [],_=>List.nodup_nil
 |a::l,h=>by
  have h:(!(l.any fun b=>Nat.beq a b)&&aHt.ndN l)=true:=h;rw[bZi,cAz,List.any_eq_false] at h;exact cCu.2 ⟨fun hm=>h.1 a hm (Nat.beq_refl _),bBw h.2⟩
theorem wB {P:Program} {call:lG} (hc:eO P call) {e:Ent} (h:aUj e (call e.n0 (.inl e.f) e.l0 (sO e.L0 .e) e.n0)=true):sU P e:=by
 unfold aUj at h;split at h
 ·rename_i r h1 n1 hr;simp only[bZi,cCk] at h;obtain ⟨a1,a2,a3,a4,a5,a6⟩:=h;refine ⟨r,h1,n1,hc _ _ _ _ _ _ _ _ hr (cCq _),a1,fun p hp=>?_,bBw a3,cCt a4,fun p hp=>cCt (a5 p hp),cCt a6⟩;obtain ⟨b1,b2,b3,b4⟩:=a2 p hp;cases hg:h1.get p.1 with
  |none=>rw[hg] at b1;cases b1
  |some k=>rw[hg] at b1;exact ⟨k,rfl,b1,cCt b2,cCt b3,b4⟩
 cases h
end
end Go.Rv
namespace Go.Rv.C52
open Go.RowKit Go.Sg
def gb0:dS:=.cells 360 [.int .i64 1,.int .i64 0,.int .i64 1,.int .i64 0,.int .i64 1,.int .i64 1,.int .i64 0,.int .i64 0,.int .i64 2,.int .i64 0,.int .i64 1,.int .i64 1,.int .i64 2,.int .i64 0,.int .i64 2,.int .i64 2,.int .i64 2,.int .i64 1,.int .i64 0,.int .i64 1,.int .i64 2,.int .i64 2,.int .i64 0,.int .i64 2,.int .i64 3,.int .i64 0,.int .i64 1,.int .i64 0,.int .i64 3,.int .i64 1,.int .i64 0,.int .i64 0,.int .i64 3,.int .i64 2,.int .i64 3,.int .i64 0,.int .i64 3,.int .i64 3,.int .i64 2,.int .i64 0]
def gb1:dS:=.cells 274 [.int .i64 0,.int .i64 2,.int .i64 3,.int .i64 4]
def e0:Ent:=⟨76,1028,
 [(0,gb0),(1,gb1),(1024,.cells 9 [.str ⟨#[97]⟩,.str ⟨#[98]⟩,.str ⟨#[99]⟩]),(1025,.cells 156 [.str ⟨#[97]⟩,.int .i64 1,.int .i64 20000,.int .i64 0,.int .i64 1000,.int .i64 0,.int .i64 0,.str ⟨#[98]⟩,.int .i64 1,.int .i64 20000,.int .i64 0,.int .i64 1000,.int .i64 0,.int .i64 1,.str ⟨#[99]⟩,.int .i64 1,.int .i64 20000,.int .i64 0,.int .i64 1000,.int .i64 0,.int .i64 2]),(1026,.cells 158 [.int .i64 0,.int .i64 1,.int .i64 1,.int .i64 0,.int .i64 1,.int .i64 1,.int .i64 2,.int .i64 0]),(1027,.cells 154 [.str ⟨#[115,49]⟩,.int .i64 0,.int .i64 1,.int .i64 0,.str ⟨#[115,50]⟩,.int .i64 1,.int .i64 1,.int .i64 0])],
 [.agg [.str ⟨#[108,105,110,101]⟩,.sl 1024 0 3 1 (some 3) true,.sl 1025 0 3 7 none true,.sl 1026 0 2 4 (some 2) true,.sl 1027 0 2 4 (some 2) true,.nils]],
 .tup [.agg [.sl 1352 0 2 14 none true,.nils,.nils,.int .i64 3,.int .i64 2],.int .i64 0],
 [(1352,.cells 121 [.str ⟨#[115,49,45,115,50]⟩,.int .i64 0,.int .i64 1,.sl 1308 0 1 3 none true,.nils,.sl 1310 0 1 1 none true,.int .i64 0,.int .i64 20000,.nils,.nils,.nils,.nils,.nils,.nils,.str ⟨#[115,50,45,101,110,100]⟩,.int .i64 1,.int .i64 (-1),.sl 1341 0 1 3 none true,.nils,.sl 1343 0 1 1 none true,.int .i64 1,.int .i64 20000,.nils,.nils,.nils,.nils,.nils,.nils]),(1308,.cells 144 [.int .i64 1,.int .i64 0,.int .i64 1]),(1310,.cells 3 [.int .i64 1]),(1341,.cells 144 [.int .i64 2,.int .i64 0,.int .i64 1]),(1343,.cells 3 [.int .i64 2])]⟩
def e1:Ent:=⟨142,1031,
 [(0,gb0),(1,gb1),(1024,.cells 9 [.str ⟨#[97]⟩,.str ⟨#[98]⟩,.str ⟨#[99]⟩]),(1025,.cells 156 [.str ⟨#[97]⟩,.int .i64 1,.int .i64 20000,.int .i64 0,.int .i64 1000,.int .i64 0,.int .i64 0,.str ⟨#[98]⟩,.int .i64 1,.int .i64 20000,.int .i64 0,.int .i64 1000,.int .i64 0,.int .i64 1,.str ⟨#[99]⟩,.int .i64 1,.int .i64 20000,.int .i64 0,.int .i64 1000,.int .i64 0,.int .i64 2]),(1026,.cells 158 [.int .i64 0,.int .i64 1,.int .i64 1,.int .i64 0,.int .i64 1,.int .i64 1,.int .i64 2,.int .i64 0]),(1027,.cells 154 [.str ⟨#[115,49]⟩,.int .i64 0,.int .i64 1,.int .i64 0,.str ⟨#[115,50]⟩,.int .i64 1,.int .i64 1,.int .i64 0]),(1028,.cells 71 [.int .i64 3,.str ⟨#[105,99,101]⟩,.int .i64 5000,.int .i64 900,.int .i64 50,.int .i64 50,.int .i64 100,.int .i64 0,.int .i64 0,.int .i64 0]),(1029,.cells 69 [.sl 1030 0 1 3 (some 1) true,.int .i64 15000,.int .i64 5000]),(1030,.cells 144 [.int .i64 0,.int .i64 0,.int .i64 1])],
 [.agg [.str ⟨#[108,105,110,101]⟩,.sl 1024 0 3 1 none true,.sl 1025 0 3 7 none true,.sl 1026 0 2 4 none true,.sl 1027 0 2 4 none true,.nils],.sl 1028 0 1 10 (some 1) true,.sl 1029 0 1 3 (some 1) true],
 .tup [.agg [.sl 1169 0 1 14 none true,.sl 1172 0 1 4 none true],.int .i64 0],
 [(1169,.cells 107 [.int .i64 3,.int .i64 (-15000),.int .i64 0,.int .i64 5000,.sl 1166 0 1 3 none true,.nils,.nils,.nils,.nils,.int .i64 0,.int .i64 0,.int .i64 0,.int .i64 0,.int .i64 0]),(1166,.cells 144 [.int .i64 0,.int .i64 0,.int .i64 1]),(1172,.cells 79 [.int .i64 3,.int .i64 0,.int .i64 0,.int .i64 0])]⟩
def e2:Ent:=⟨142,1031,
 [(0,gb0),(1,gb1),(1024,.cells 9 [.str ⟨#[97]⟩,.str ⟨#[98]⟩,.str ⟨#[99]⟩]),(1025,.cells 156 [.str ⟨#[97]⟩,.int .i64 1,.int .i64 20000,.int .i64 0,.int .i64 1000,.int .i64 0,.int .i64 0,.str ⟨#[98]⟩,.int .i64 1,.int .i64 20000,.int .i64 0,.int .i64 1000,.int .i64 0,.int .i64 1,.str ⟨#[99]⟩,.int .i64 1,.int .i64 20000,.int .i64 0,.int .i64 1000,.int .i64 0,.int .i64 2]),(1026,.cells 158 [.int .i64 0,.int .i64 1,.int .i64 1,.int .i64 0,.int .i64 1,.int .i64 1,.int .i64 2,.int .i64 0]),(1027,.cells 154 [.str ⟨#[115,49]⟩,.int .i64 0,.int .i64 1,.int .i64 0,.str ⟨#[115,50]⟩,.int .i64 1,.int .i64 1,.int .i64 0]),(1028,.cells 71 [.int .i64 3,.str ⟨#[105,99,101]⟩,.int .i64 5000,.int .i64 900,.int .i64 50,.int .i64 50,.int .i64 100,.int .i64 0,.int .i64 0,.int .i64 0,.int .i64 4,.str ⟨#[105,99,101]⟩,.int .i64 5000,.int .i64 900,.int .i64 50,.int .i64 50,.int .i64 100,.int .i64 0,.int .i64 0,.int .i64 0]),(1029,.cells 69 [.sl 1030 0 1 3 (some 1) true,.int .i64 15000,.int .i64 5000,.sl 1030 0 1 3 (some 1) true,.int .i64 15000,.int .i64 5000]),(1030,.cells 144 [.int .i64 0,.int .i64 0,.int .i64 1])],
 [.agg [.str ⟨#[108,105,110,101]⟩,.sl 1024 0 3 1 none true,.sl 1025 0 3 7 none true,.sl 1026 0 2 4 none true,.sl 1027 0 2 4 none true,.nils],.sl 1028 0 2 10 (some 2) true,.sl 1029 0 2 3 (some 2) true],
 .tup [.agg [.nils,.nils],.int .i64 10],
 []⟩
def e3:Ent:=⟨76,1028,
 [(0,gb0),(1,gb1),(1024,.cells 9 [.str ⟨#[97]⟩,.str ⟨#[98]⟩,.str ⟨#[99]⟩]),(1025,.cells 156 [.str ⟨#[97]⟩,.int .i64 1,.int .i64 20000,.int .i64 0,.int .i64 1000,.int .i64 0,.int .i64 0,.str ⟨#[98]⟩,.int .i64 1,.int .i64 20000,.int .i64 0,.int .i64 1000,.int .i64 0,.int .i64 1,.str ⟨#[99]⟩,.int .i64 1,.int .i64 20000,.int .i64 0,.int .i64 1000,.int .i64 0,.int .i64 2]),(1026,.cells 158 [.int .i64 0,.int .i64 1,.int .i64 1,.int .i64 0,.int .i64 1,.int .i64 1,.int .i64 2,.int .i64 0]),(1027,.cells 154 [.str ⟨#[115,49]⟩,.int .i64 0,.int .i64 1,.int .i64 0,.str ⟨#[115,50]⟩,.int .i64 1,.int .i64 1,.int .i64 0])],
 [.agg [.str ⟨#[108,105,110,101]⟩,.sl 1024 0 3 1 none true,.sl 1025 0 3 7 none true,.sl 1026 0 2 4 none true,.sl 1027 0 2 4 none true,.nils]],
 .tup [.agg [.sl 1352 0 2 14 none true,.nils,.nils,.int .i64 3,.int .i64 2],.int .i64 0],
 [(1352,.cells 121 [.str ⟨#[115,49,45,115,50]⟩,.int .i64 0,.int .i64 1,.sl 1308 0 1 3 none true,.nils,.sl 1310 0 1 1 none true,.int .i64 0,.int .i64 20000,.nils,.nils,.nils,.nils,.nils,.nils,.str ⟨#[115,50,45,101,110,100]⟩,.int .i64 1,.int .i64 (-1),.sl 1341 0 1 3 none true,.nils,.sl 1343 0 1 1 none true,.int .i64 1,.int .i64 20000,.nils,.nils,.nils,.nils,.nils,.nils]),(1308,.cells 144 [.int .i64 1,.int .i64 0,.int .i64 1]),(1310,.cells 3 [.int .i64 1]),(1341,.cells 144 [.int .i64 2,.int .i64 0,.int .i64 1]),(1343,.cells 3 [.int .i64 2])]⟩
end Go.Rv.C52
