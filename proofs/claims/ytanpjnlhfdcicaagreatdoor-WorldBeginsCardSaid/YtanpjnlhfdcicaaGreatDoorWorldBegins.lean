/- A world that begins holds: New's world lets its rules stand, and it has an error of a chapter that it can have, with the rule that gives it broken. Conditions: the package variables that the row lists hold their first values. -/
import Derived.Test.YtanpjnlhfdcicaaGreatDoorK3
import Derived.Test.YtanpjnlhfdcicaaGreatDoorGlobs
import Derived.Test.YtanpjnlhfdcicaaGreatDoorWorldBeginsJf
import Derived.Test.YtanpjnlhfdcicaaGreatDoorK11
import Derived.Test.YtanpjnlhfdcicaaGreatDoorCards
import Derived.Test.YtanpjnlhfdcicaaGreatDoorTie
import Derived.WalkKit
import Derived.ProofKit
import Derived.OpenShut
import Derived.ShutString
import Derived.ChangeOld
import Derived.Below
import Derived.SizedLaws
import Derived.Deep.DeepHandedRow
set_option linter.unusedVariables false
set_option linter.unusedSimpArgs false
namespace Go.Proofs.YtanpjnlhfdcicaaGreatDoor.worldBegins
open Go.ChangeShapes Go.WideShapes Go.ChangeAt Go.RowKit
theorem own:ownKnob Tryz.prog.godebug=none:=by kernel_rfl
theorem laidOut:laidOutB Tryz.prog=true:=by kernel_rfl
theorem reads (os:Os) {H:Type} (enc:TypeId×Value→H): ∃places,DataW.whole enc Tryz.prog ((Go.Sg.aHb os).forCall (fun _ _=>0) ⟨#[],#[.agg #[.string ByteArray.empty,.slice none 0 0,.slice none 0 0,.slice none 0 0,.slice none 0 0,.slice none 0 0],.slice none 0 0,.slice none 0 0,.slice none 0 0],[]⟩).memory Tryz.f3.params.toList Rows.worldBeginsSpec.vars false (#[.agg #[.string ByteArray.empty,.slice none 0 0,.slice none 0 0,.slice none 0 0,.slice none 0 0,.slice none 0 0],.slice none 0 0,.slice none 0 0,.slice none 0 0]:Array Value).toList 8=some ([.agg [.lit (.string []),.nil,.nil,.nil,.nil,.nil],.nil,.nil,.nil],[],places):=
 ⟨[],by kernel_rfl⟩
set_option maxRecDepth 100000 in
theorem lifted (os:Os) (started:os.Started) (H:Type) (enc:TypeId×Value→H) (F:Stop.Interp):
  ReturnsInHanded {} Tryz.checked os 3 .any ((OpenSpec.ofChange Rows.worldBeginsSpec).preRow enc Tryz.prog Tryz.f3 Rows.worldBeginsRow.domain false Rows.worldBeginsRow.laid) (((OpenSpec.ofChange Rows.worldBeginsSpec).at F).post enc Tryz.prog Tryz.f3 false true false false):=by
 obtain ⟨places,hx⟩:=reads os enc
 refine returnsInHanded_of_row (C:=Tryz.checked) (s:=OpenSpec.ofChange Rows.worldBeginsSpec) own started bF Tryz.func3
  (witness_row_at (enc:=enc) (C:=Tryz.checked) false (Go.Sg.aHb os) #[.agg #[.string ByteArray.empty,.slice none 0 0,.slice none 0 0,.slice none 0 0,.slice none 0 0,.slice none 0 0],.slice none 0 0,.slice none 0 0,.slice none 0 0] rfl bF bF bF
   (OpenSpec.preRow_of_cond 8 hx bF (fun k hk=>by cases hk) bF (Go.Sg.bTs os _))) ?_
 intro W base args ds gs before hval0 hW _ _ hsz hL hsh _;have hval: ∀(j:Nat) t v,Tryz.f3.params[j]?=some t→args[j]?=some v→Value.okWide Tryz.prog W .any base t v:=hval0;have hW':=hW;obtain ⟨p,q,hA0,hV,rfl,hfz,hnd⟩:=hW;have hA:DataW.TrodAll enc Tryz.prog W 0 (fun _=>true) true Tryz.f3.params.toList args.toList ds p:=hA0;rw[Tryz.params3] at hA hval;obtain ⟨v0,vs0,d0,ds0,p0,q0,hargs,rfl,rfl,h0,r0⟩:=trodAll_cons hA;obtain ⟨v1,vs1,d1,ds1,p1,q1,rfl,rfl,rfl,h1,r1⟩:=trodAll_cons r0;obtain ⟨v2,vs2,d2,ds2,p2,q2,rfl,rfl,rfl,h2,r2⟩:=trodAll_cons r1;obtain ⟨v3,vs3,d3,ds3,p3,q3,rfl,rfl,rfl,h3,r3⟩:=trodAll_cons r2;obtain ⟨rfl,rfl,rfl⟩:=trodAll_nil r3;obtain rfl:args= #[v0,v1,v2,v3]:=by cases args;simp_all
 obtain ⟨rfl,rfl⟩:=trodVars_none hV;have lt0: ∀x∈p0,x.block<W.heap.size:=by obtain ⟨m,hm⟩:=h0;exact DataW.trod_lt m _ _ _ hm
 obtain ⟨a0,ok0,w0⟩:=Go.Sg.aZo Tryz.underlying28 Go.Sg.cNe (hval 0 28 v0 rfl rfl) h0 (fun n hn=>by simpa using dI.1 hsz n (DataW.weights_mem_each (j:=0) (t:=28) rfl rfl n hn));have lt1: ∀x∈p1,x.block<W.heap.size:=by obtain ⟨m,hm⟩:=h1;exact DataW.trod_lt m _ _ _ hm
 obtain ⟨a1,ok1,w1⟩:=Go.Sg.aGz Tryz.underlying29 Go.Sg.cMu (hval 1 29 v1 rfl rfl) h1 (fun n hn=>by simpa using dI.1 hsz n (DataW.weights_mem_each (j:=1) (t:=29) rfl rfl n hn));have lt2: ∀x∈p2,x.block<W.heap.size:=by obtain ⟨m,hm⟩:=h2;exact DataW.trod_lt m _ _ _ hm
 obtain ⟨a2,ok2,w2⟩:=Go.Sg.aGz Tryz.underlying30 Go.Sg.cRt (hval 2 30 v2 rfl rfl) h2 (fun n hn=>by simpa using dI.1 hsz n (DataW.weights_mem_each (j:=2) (t:=30) rfl rfl n hn));have lt3: ∀x∈p3,x.block<W.heap.size:=by obtain ⟨m,hm⟩:=h3;exact DataW.trod_lt m _ _ _ hm
 obtain ⟨a3,ok3,w3⟩:=Go.Sg.aGz Tryz.underlying31 Go.Sg.cMb (hval 3 31 v3 rfl rfl) h3 (fun n hn=>by simpa using dI.1 hsz n (DataW.weights_mem_each (j:=3) (t:=31) rfl rfl n hn));clear hA0 hval0;refine (Go.Sg.cLs (Go.Sg.yQ _ a0 a1 a2 a3 ok0 Go.Sg.aKu) (.cons w0 (.cons w1 (.cons w2 (.cons w3 .nil)))) (Go.Sg.cMv hL hsh)).mono fun e W' ⟨he,bel⟩=>?_;subst he;exact ⟨_,rfl,_,_,_,[],_,[],hW',trodAll_mk1 (shut_bool Tryz.underlying4 _),(trodAll_cons_mk (Below.trod laidOut bF (dK bF) h0 bel lt0) (trodAll_cons_mk (Below.trod laidOut bF (dK bF) h1 bel lt1) (trodAll_cons_mk (Below.trod laidOut bF (dK bF) h2 bel lt2) (trodAll_cons_mk (Below.trod laidOut bF (dK bF) h3 bel lt3) trodAll_mk0)))),rfl,bel.frame _,fun h=>by cases h⟩
theorem said:Rows.WorldBeginsSaid:=
 OpenClaim.holds_of_cond 3 Tryz.f3 rfl rfl rfl rfl rfl rfl rfl ⟨rfl,rfl,rfl,rfl,rfl⟩ rfl rfl rfl rfl rfl bF Tryz.func3 cJa
  (dK bF) (by unfold Func.isWrapper;first|(rw[if_pos (by decide+kernel)];kernel_rfl)|(rw[if_neg (by decide+kernel)];exact ⟨rfl,rfl⟩))
  (fun os started H enc _ F=>by rw[OpenClaim.pre_eq_preRow];exact lifted os started H enc F)
theorem plain (f:FuncId) (fn:Func) (hf:Tryz.pinned.checked.prog.funcNamed "signalling/signallinglaw52.WorldBegins" =some f) (hfn:Tryz.pinned.checked.prog.funcs[f]?=some fn):
  false=Tryz.pinned.checked.prog.looks []∧ ∀(j:Nat) t,fn.params[j]?=some t→Tryz.pinned.checked.prog.wantsStandIn t=false:=by
 obtain rfl:f=3:=dO ((show Tryz.prog.funcNamed "signalling/signallinglaw52.WorldBegins" =some 3 by kernel_rfl).symm.trans hf)|>.symm;obtain rfl:fn=Tryz.f3:=(dO (Tryz.func3.symm.trans hfn)).symm;refine ⟨by kernel_rfl,fun j t ht=>?_⟩;rw[Tryz.params3] at ht;have hm:=tQ ht;simp only[List.mem_toArray,gN,aHu,or_false] at hm;rcases hm with rfl|rfl|rfl|rfl
 ·exact (show Tryz.prog.wantsStandIn 28=false by kernel_rfl)
 ·exact (show Tryz.prog.wantsStandIn 29=false by kernel_rfl)
 ·exact (show Tryz.prog.wantsStandIn 30=false by kernel_rfl)
 exact (show Tryz.prog.wantsStandIn 31=false by kernel_rfl)
theorem proved:Rows.WorldBeginsCardSaid:=
 Claim7.holds_tied_plain_at .later [] _ _ _ _ said (fun _ h=>by cases h) bF (fun _ h=>by cases h) worldBegins_row_tie rfl ⟨rfl,rfl⟩ bF rfl plain bF
#print axioms proved
end Go.Proofs.YtanpjnlhfdcicaaGreatDoor.worldBegins
