/- Several texts as one. -/
import Derived.Test.YtdgbckchckaagaaGreatDoorP5
import Derived.Ground.Names2Prog
import Derived.Shelf.LaysM
import Derived.Shelf.Slices.Cells
import Derived.Shelf.Slices.CompactI
import Derived.Shelf.Slices.In.SortNone
import Derived.Shelf.Slices.SearchI
import Derived.Shelf.Slices.Turned
import Derived.Shelf.Small.Wraps
import Derived.Shelf.Sort.Plain
import Derived.Shelf.Strconv.Itoa0
import Derived.Shelf.Strconv.Itoa1
import Derived.Shelf.Strconv.Itoa2
import Derived.Shelf.Strconv.Itoa3
set_option linter.unusedSectionVars false
set_option linter.unusedVariables false
set_option linter.unusedSimpArgs false
set_option maxRecDepth 20000
set_option maxHeartbeats 16000000
namespace Go.Proofs
open Go.Shelf
def Tryz.lays189_ren:Go.Shelf.Ren:=⟨fun|189=>84|125=>171|257=>170|128=>254|129=>255|294=>245|295=>246|296=>247|297=>248|298=>249|299=>250|216=>251|300=>252|301=>253|328=>301|329=>302|330=>303|331=>304|332=>305|215=>270|343=>329|n=>n,fun|28=>30|3=>3|46=>237|0=>0|51=>310|53=>312|4=>4|183=>303|182=>302|131=>250|5=>5|9=>9|218=>350|222=>354|228=>377|229=>378|n=>n,fun|n=>n⟩
theorem Tryz.lays189:Go.Proofs.Lays.n189 Tryz.prog Tryz.lays189_ren:={
 mixed:=by kernel_rfl
 f125:=Tryz.func171.trans (congrArg some aZ)
 f128:=Tryz.func254.trans (congrArg some aZ)
 f129:=Tryz.func255.trans (congrArg some aZ)
 f189:=Tryz.func84.trans (congrArg some aZ)
 f215:=Tryz.func270.trans (congrArg some aZ)
 f216:=Tryz.func251.trans (congrArg some aZ)
 f257:=Tryz.func170.trans (congrArg some aZ)
 f294:=Tryz.func245.trans (congrArg some aZ)
 f295:=Tryz.func246.trans (congrArg some aZ)
 f296:=Tryz.func247.trans (congrArg some aZ)
 f297:=Tryz.func248.trans (congrArg some aZ)
 f298:=Tryz.func249.trans (congrArg some aZ)
 f299:=Tryz.func250.trans (congrArg some aZ)
 f300:=Tryz.func252.trans (congrArg some aZ)
 f301:=Tryz.func253.trans (congrArg some aZ)
 f328:=Tryz.func301.trans (congrArg some aZ)
 f329:=Tryz.func302.trans (congrArg some aZ)
 f330:=Tryz.func303.trans (congrArg some aZ)
 f331:=Tryz.func304.trans (congrArg some aZ)
 f332:=Tryz.func305.trans (congrArg some aZ)
 f343:=Tryz.func329.trans (congrArg some aZ)
 t0:=Tryz.underlying0
 a0:=Tryz.isAgg0
 z0:=Tryz.sizeOf0
 v0:=Tryz.zeroValue0
 t3:=Tryz.underlying3
 a3:=Tryz.isAgg3
 z3:=Tryz.sizeOf3
 v3:=Tryz.zeroValue3
 t4:=Tryz.underlying4
 a4:=Tryz.isAgg4
 z4:=Tryz.sizeOf4
 v4:=Tryz.zeroValue4
 t5:=Tryz.underlying5
 a5:=Tryz.isAgg5
 z5:=Tryz.sizeOf5
 v5:=Tryz.zeroValue5
 t9:=Tryz.underlying9
 a9:=Tryz.isAgg9
 z9:=Tryz.sizeOf9
 v9:=Tryz.zeroValue9
 t28:=Tryz.underlying30
 a28:=Tryz.isAgg30
 z28:=Tryz.sizeOf30
 v28:=Tryz.zeroValue30
 t46:=Tryz.underlying237
 a46:=Tryz.isAgg237
 z46:=Tryz.sizeOf237
 v46:=Tryz.zeroValue237
 t51:=Tryz.underlying310
 a51:=Tryz.isAgg310
 z51:=Tryz.sizeOf310
 v51:=Tryz.zeroValue310
 t53:=Tryz.underlying312
 a53:=Tryz.isAgg312
 z53:=Tryz.sizeOf312
 v53:=Tryz.zeroValue312
 t131:=Tryz.underlying250
 a131:=Tryz.isAgg250
 z131:=Tryz.sizeOf250
 v131:=Tryz.zeroValue250
 t182:=Tryz.underlying302
 a182:=Tryz.isAgg302
 z182:=Tryz.sizeOf302
 v182:=Tryz.zeroValue302
 t183:=Tryz.underlying303
 a183:=Tryz.isAgg303
 z183:=Tryz.sizeOf303
 v183:=Tryz.zeroValue303
 t218:=Tryz.underlying350
 a218:=Tryz.isAgg350
 z218:=Tryz.sizeOf350
 v218:=Tryz.zeroValue350
 t222:=Tryz.underlying354
 a222:=Tryz.isAgg354
 z222:=Tryz.sizeOf354
 v222:=Tryz.zeroValue354
 t228:=Tryz.underlying377
 a228:=Tryz.isAgg377
 z228:=Tryz.sizeOf377
 v228:=Tryz.zeroValue377
 t229:=Tryz.underlying378
 a229:=Tryz.isAgg378
 z229:=Tryz.sizeOf378
 v229:=Tryz.zeroValue378}
open Go.Sort Go.RowKit in
theorem Tryz.slices_Sort_int (blk off cap:Nat) (zs:List Int) (w:World) (hH:Holds (Value.int .i64) w blk off zs.toArray) (hblk:blk<w.heap.size) (hsz:zs.length<4611686018427387904):
  Calls Tryz.prog 84 #[.slice (some ⟨blk,off,none⟩) zs.length cap] w fun e w'=>
   e=.returned (.tuple #[])∧ ∃n os,w'=grow (putRow (Value.int .i64) (Sort.ahead w n) blk off (zs.mergeSort fun x y=>decide (x≤y)).toArray) os:=Any.slices_Sort_int Tryz.lays189 blk off cap zs w hH hblk hsz
def Tryz.laysNm220_ren:Go.Shelf.Ren:=⟨fun|20=>230|n=>n,fun|22=>30|3=>3|4=>4|0=>0|n=>n,fun|n=>n⟩
theorem Tryz.laysNm220:Go.Proofs.Lays2.n20 Tryz.prog Tryz.laysNm220_ren:={
 mixed:=by kernel_rfl
 f20:=Tryz.func230.trans (congrArg some aZ)
 t0:=Tryz.underlying0
 a0:=Tryz.isAgg0
 z0:=Tryz.sizeOf0
 v0:=Tryz.zeroValue0
 t3:=Tryz.underlying3
 a3:=Tryz.isAgg3
 z3:=Tryz.sizeOf3
 v3:=Tryz.zeroValue3
 t4:=Tryz.underlying4
 a4:=Tryz.isAgg4
 z4:=Tryz.sizeOf4
 v4:=Tryz.zeroValue4
 t22:=Tryz.underlying30
 a22:=Tryz.isAgg30
 z22:=Tryz.sizeOf30
 v22:=Tryz.zeroValue30
 i3:=by kernel_rfl}
open Go.RowKit Go.Lib Go.Sort in
theorem Tryz.slices_Compact_int (blk off cap:Nat) (zs:List Int) (w:World) (hH:Holds (Value.int .i64) w blk off zs.toArray) (hsz:zs.length≤9223372036854775807) (hcap:zs.length≤cap):
  Calls Tryz.prog 230 #[.slice (some ⟨blk,off,none⟩) zs.length cap] w fun e w'=>e=.returned (.slice (some ⟨blk,off,none⟩) (Lib.compact zs).length cap)∧ ∃q,w'=putRow (Value.int .i64) (Sort.ahead w q) blk off (Lib.compact zs++List.replicate (zs.length-(Lib.compact zs).length) 0).toArray:=Any.slices_Compact_int Tryz.laysNm220 blk off cap zs w hH hsz hcap
open Go.RowKit Go.Lib Go.Sort in
theorem Tryz.slices_Compact_int_empty (a:Option Addr) (cap:Nat) (w:World):
  Calls Tryz.prog 230 #[.slice a 0 cap] w fun e w'=>e=.returned (.slice a 0 cap)∧w'=w:=Any.slices_Compact_int_empty Tryz.laysNm220 a cap w
open Go.RowKit Go.Sort in
theorem Tryz.slices_Sort_int_none (p:Option Addr) (cap:Nat) (w:World):
  Calls Tryz.prog 84 #[.slice p 0 cap] w fun e w'=>e=.returned (.tuple #[])∧w'=w:=Any.slices_Sort_int_none Tryz.lays189 p cap w
end Go.Proofs
namespace Go.Sg
open Go.Proofs
abbrev iN (l:List Int) (i:Nat):Int:=l.getD i default
def aWe (t:bP) (l:List Int) (i:Nat):Bool:=decide (0≤iN l i∧iN l i<t.fSections)&&(List.range i).all fun k=> !(iN l k==iN l i)
def aFk (t:bP) (l:List Int):Bool:=(List.range l.length).all (aWe t l)
def rtO (t:bP) (r:bI):Bool:=decide (0≤r.fEntry∧r.fEntry<t.fSignals∧ -1≤r.fExit∧r.fExit<t.fSignals∧1≤r.fPath.length∧r.fPath.length≤12∧1≤r.fLength∧0<r.fSections.length∧0≤r.fApproach∧r.fApproach<t.fSections)
def rtB (t:bP) (r:bI):Bool:=rtO t r&&aFk t (r.fSections++r.fOverSections)
section
attribute [local go_sem] aCq
end
theorem vE (O:aV) (t:bP) (l:List Int):bB Tryz.prog O 260 [.agg (bW t),bT l] (vb (aFk t l)):=by
 refine aW 1 rfl (.sl _ _ _) fun hl=>?_;refine dD Tryz.func260 ?_;refine aB [0,1] ?_;refine aA fun _ Z1=>aB [1,2] ?_;refine aD (aT [1,2,8,9,10] (fun n ρ=> ∃i,n=l.length-i∧(i≤l.length)∧(gK (aWe t l) i)∧ρ=cO O [(1,bT l),(2,.bx (bW t)),(8,bT l),(9,vi (l.length:Nat)),(10,vi (i:Nat))]) _ ⟨0,rfl,?_,?_,?_⟩ ?_)
 ·exact bE
 ·exact eD _
 ·exact b9
 rintro n ρ ⟨i,rfl,l0_0,l0_1,rfl⟩ _ Z3;refine aB [1,2,8,9,10] ?_;refine aA fun _ Z5=>aL (fun c0=>?_) fun c0=>?_
 ·refine aC (Z5 _ (aA fun _ Z6=>aD (aB [1,2,8,9,10] ?_)));refine aA fun _ Z8=>aB [1,2,5,6,8,9,10] ?_;refine aL (fun c1=>?_) fun c1=>?_
  ·refine aB [] ?_;refine aG (bU 4 (xb ?_))
   (rw[aFk,kK c0 (by rw[aWe,cFs (by simp only[iN];omega)];rfl)])
  refine aC (Z8 _ (aB [1,2,5,6,8,9,10] ?_));refine aD (aT [1,2,8,9,10,6,23,24] (fun n ρ=> ∃k,n=i-k∧(k≤i)∧(gK (fun k=> !(iN l k==iN l i)) k)∧ρ=cO O [(1,bT l),(2,.bx (bW t)),(8,bT l),(9,vi (l.length:Nat)),(10,vi (i:Nat)),(6,vi (iN l i)),(23,vi (i:Nat)),(24,vi (k:Nat))]) _ ⟨0,rfl,?_,?_,?_⟩ ?_)
  ·exact bE
  ·exact eD _
  ·exact b9
  rintro n ρ ⟨k,rfl,l1_0,l1_1,rfl⟩ _ Z12;refine aB [1,2,6,8,9,10,23,24] ?_;refine aA fun _ Z14=>aL (fun c2=>?_) fun c2=>?_
  ·refine aC (Z14 _ (aA fun _ Z15=>aD (aB [1,2,6,8,9,10,23,24] ?_)));refine aB [1,2,6,7,8,9,10,23,24] ?_;refine aL (fun c3=>?_) fun c3=>?_
   ·refine aB [] ?_;refine aG (bU 4 (xb ?_))
    (rw[aFk,kK c0 (by rw[aWe,kK c2 (by simp only[iN] at*;simpa using c3),cBw])])
   refine aC (Z15 _ (bA [1,2,6,8,9,10,23,24] ?_));refine Z12 _ _ bE ⟨k+1,rfl,bE,?_,b9⟩
   ·exact eA l1_1 (by simp only[iN] at*;simpa using c3)
  refine aY (Z6 _ (bA [1,2,8,9,10] ?_));refine Z3 _ _ bE ⟨i+1,rfl,bE,?_,b9⟩
  ·exact eA l0_1 (by rw[aWe,jT l1_1 aN,cFr (by simp only[iN];omega)];rfl)
 refine aY (Z1 _ (aB [] ?_));refine aG (bU 4 (xb ?_))
 (rw[aFk,jT l0_1 aN])
theorem bTq {t:bP} {r:bI} (h:rtO t r=false):rtB t r=false:=by rw[rtB,h];rfl
theorem aBv (O:aV) (t:bP) (r:bI) (hb:(r.fSections++r.fOverSections).length≤100000):bB Tryz.prog O 196 [.agg (bW t),.agg (bR r)] (vb (rtB t r)):=by
 refine aW 1 rfl (.agg (d:=encL 3 cM r.fPath) (by simp[bR]) (.sl _ _ _)) fun hq=>?_;refine aW 1 rfl (.agg (d:=bT r.fSections) (by simp[bR]) (.sl _ _ _)) fun h5=>?_;refine dD Tryz.func196 ?_;refine aB [0,1] ?_;refine aA fun _ Z1=>aB [2,3] ?_;refine aL (fun c0=>?_) fun c0=>?_
 ·refine aB [] ?_;refine aG (bU 4 (xb ?_))
  (exact (bTq (t:=t) (r:=r) (cFs aN)).symm)
 refine aC (Z1 _ (aB [2,3] ?_));refine aB [2,3,5] ?_;refine aB [2,3,5] ?_;refine aA fun _ Z7=>?_;refine cB (e:=eI) 5 (r.fSections++r.fOverSections) rfl (by rw[cAl];rfl) ?_;refine bL [2,3,5] ?_;refine i0 (fun g0=>vE _ t (r.fSections++r.fOverSections)) ?_;refine Z7 _ (aG (bU 4 (xb ?_)))
 (rw[rtB,rtO];cases aFk t (r.fSections++r.fOverSections)<;>rw[cBk]<;>simp<;>omega)
end Go.Sg
namespace Go.Sg
open Go.Proofs
def aCt (t:bP):Bool:=decide (t.fRoutes.length≤48∧t.fPoints.length≤32∧0≤t.fSections∧t.fSections≤24∧0≤t.fSignals∧t.fSignals≤20)
def seB (t:bP) (r:bI):Bool:=aOs t r.fPoints&&aOs t r.fOverPoints&&aOs t r.fFlank
def agB (r:bI):Bool:=aLj r.fPoints r.fOverPoints&&aLj r.fPoints r.fFlank&&aLj r.fOverPoints r.fFlank
abbrev nmN (t:bP) (i:Nat):ByteArray:=(t.fRoutes.getD i default).fName
def nuB (t:bP) (i:Nat):Bool:=(List.range i).all fun k=>decide (nmN t k≠nmN t i)
def chk (t:bP):Int:=
 if aCt t=false then 2 else if qC t=false then 1 else if t.fRoutes.all (rtB t)=false then 1 else if t.fRoutes.all (seB t)=false then 1 else if t.fRoutes.all agB=false then 10 else if (List.range t.fRoutes.length).all (nuB t)=false then 8 else 0
section
variable {t:bP}
theorem bWj (h:aCt t=false):chk t=2:=by rw[chk,if_pos h]
theorem bTn (h:aCt t=true) (h2:qC t=false):chk t=1:=by rw[chk,if_neg (by rw[h];simp),if_pos h2]
theorem bWl (h:aCt t=true) (h2:qC t=true) (h3:t.fRoutes.all (rtB t)=false):chk t=1:=by rw[chk,if_neg (by rw[h];simp),if_neg (by rw[h2];simp),if_pos h3]
theorem bXe (h:aCt t=true) (h2:qC t=true) (h4:t.fRoutes.all (seB t)=false):chk t=1:=by
 rw[chk,if_neg (by rw[h];simp),if_neg (by rw[h2];simp)];split
 ·rfl
 first|rfl|rw[if_pos h4]
theorem bXc (h:aCt t=true) (h2:qC t=true) (h3:t.fRoutes.all (rtB t)=true) (h4:t.fRoutes.all (seB t)=true) (h5:t.fRoutes.all agB=false):chk t=10:=by rw[chk,if_neg (by rw[h];simp),if_neg (by rw[h2];simp),if_neg (by rw[h3];simp),if_neg (by rw[h4];simp),if_pos h5]
theorem bXh (h:aCt t=true) (h2:qC t=true) (h3:t.fRoutes.all (rtB t)=true) (h4:t.fRoutes.all (seB t)=true) (h5:t.fRoutes.all agB=true) (h6:(List.range t.fRoutes.length).all (nuB t)=false):chk t=8:=by rw[chk,if_neg (by rw[h];simp),if_neg (by rw[h2];simp),if_neg (by rw[h3];simp),if_neg (by rw[h4];simp),if_neg (by rw[h5];simp),if_pos h6]
theorem bWu (h:aCt t=true) (h2:qC t=true) (h3:t.fRoutes.all (rtB t)=true) (h4:t.fRoutes.all (seB t)=true) (h5:t.fRoutes.all agB=true) (h6:(List.range t.fRoutes.length).all (nuB t)=true):chk t=0:=by rw[chk,if_neg (by rw[h];simp),if_neg (by rw[h2];simp),if_neg (by rw[h3];simp),if_neg (by rw[h4];simp),if_neg (by rw[h5];simp),if_neg (by rw[h6];simp)]
theorem bRc {i k:Nat} (h:nuB t i=true) (hk:k<i):nmN t k≠nmN t i:=cFq (aFx h hk)
theorem aAz {a b:ByteArray}:a.toList=b.toList↔a=b:=by
 constructor
 ·intro h;rw[ByteArray.toList_eq,ByteArray.toList_eq] at h;cases a;cases b;congr;exact Array.toList_inj.1 h
 intro h;rw[h]
def aCe (t:bP) (x:ByteArray):Nat→Int
 |0=> -1
 |n+1=>if nmN t (t.fRoutes.length-(n+1))=x then ((t.fRoutes.length-(n+1):Nat):Int) else aCe t x n
theorem aKj {x:ByteArray} {i:Nat} (hi:i<t.fRoutes.length):aCe t x (t.fRoutes.length-i)=if nmN t i=x then (i:Int) else aCe t x (t.fRoutes.length-(i+1)):=by
 rw[show t.fRoutes.length-i=(t.fRoutes.length-(i+1))+1 by omega,aCe,show t.fRoutes.length-(t.fRoutes.length-(i+1)+1)=i by omega]
theorem wO {x:ByteArray}: ∀k,k≤t.fRoutes.length→(∀j,j<k→nmN t j≠x)→aCe t x t.fRoutes.length=aCe t x (t.fRoutes.length-k)
 |0,_,_=>rfl
 |k+1,hk,h=>by
  rw[wO k aN fun j hj=>h j aN,aKj aN,if_neg (h k aN)]
theorem aXf {i:Nat} (hi:i<t.fRoutes.length):(aCe t (nmN t i) t.fRoutes.length=(i:Int))↔nuB t i=true:=by
 constructor
 ·intro h;unfold nuB;rw[cCk];intro k hk;have hk:=cCc.1 hk;refine cFr fun e=>?_;have key: ∀n,n≤i→(∃j,j<n∧nmN t j=nmN t i)→ ∃j,j<n∧aCe t (nmN t i) t.fRoutes.length=(j:Int):=by
   intro n
   induction n with
   |zero=>intro _ ⟨j,hj,_⟩;omega
   |succ n ih=>
    intro hn ⟨j,hj,hje⟩;by_cases hex: ∃j,j<n∧nmN t j=nmN t i
    ·obtain ⟨j',hj',he⟩:=ih aN hex;exact ⟨j',by omega,he⟩
    have hjn:j=n:=by
     rcases cEs (cDn hj) with q|q
     ·exact absurd ⟨j,q,hje⟩ hex
     exact q
    subst hjn;refine ⟨j,by omega,?_⟩;rw[wO j aN fun j' hj' he=>hex ⟨j',hj',he⟩,aKj aN,if_pos hje]
  obtain ⟨j,hj,he⟩:=key i (cCq _) ⟨k,hk,e⟩;rw[h] at he;omega
 intro h;rw[wO i aN fun j hj he=>bRc h hj he,aKj hi,if_pos rfl]
end
theorem aEv (O:aV) (t:bP) (x:ByteArray):bB Tryz.prog O 199 [.agg (bW t),vs x] (vi (aCe t x t.fRoutes.length)):=by
 refine aW 0 rfl (.agg (d:=jL t.fRoutes) (by simp[bW]) (.sl _ _ _)) fun hr=>?_;refine aW 0 rfl (.agg (d:=bT t.fPoints) (by simp[bW]) (.sl _ _ _)) fun hp=>?_;refine dD Tryz.func199 ?_;refine aB [0,1] ?_;refine aA fun _ Z1=>aB [1,2] ?_;refine aD (aT [1,8,9,10] (fun n ρ=> ∃i,n=t.fRoutes.length-i∧(i≤t.fRoutes.length)∧(aCe t x t.fRoutes.length=aCe t x (t.fRoutes.length-i))∧ρ=cO O [(1,vs x),(8,jL t.fRoutes),(9,vi (t.fRoutes.length:Nat)),(10,vi (i:Nat))]) _ ⟨0,rfl,?_,?_,?_⟩ ?_)
 ·exact bE
 ·rfl
 ·exact b9
 rintro n ρ ⟨i,rfl,l0_0,l0_1,rfl⟩ _ Z3;refine aB [1,2,7,8,9,10] ?_;refine aA fun _ Z5=>aL (fun c0=>?_) fun c0=>?_
 ·refine aC (Z5 _ (aA fun _ Z6=>aD (aB [1,2,7,8,9,10] ?_)));refine aB [1,2,5,6,7,8,9,10] ?_;refine aL (fun c1=>?_) fun c1=>?_
  ·refine aB [5] ?_;refine aG (bU 4 ?_);exact cG.is (by simp (disch:=omega) only[go_sem,seval]<;>(rw[l0_1,aKj c0,if_pos (aAz.1 c1)])) rfl rfl
  refine aC (Z6 _ (bA [1,2,7,8,9,10] ?_));refine Z3 _ _ bE ⟨i+1,rfl,bE,?_,b9⟩
  ·rw[l0_1,aKj c0,if_neg fun e=>c1 (aAz.2 e)]
 refine aY (Z1 _ (aB [] ?_));refine aG (bU 4 ?_);exact cG.is (by simp (disch:=omega) only[go_sem,seval]<;>(rw[l0_1,show t.fRoutes.length-i=0 by omega];rfl)) rfl rfl
theorem bIr {α:Type} {l:List α} {f g:α→Bool} (h:l.all (fun x=>f x&&g x)=true):l.all f=true∧l.all g=true:=by
 rw[cCk] at h;exact ⟨cCk.2 fun x hx=>((bZi _ _).mp (h x hx)).1,cCk.2 fun x hx=>((bZi _ _).mp (h x hx)).2⟩
theorem bDz {α:Type} {l:List α} {f g:α→Bool} (h:l.all (fun x=>f x&&g x)=false):l.all f=false∨l.all g=false:=by
 cases h1:l.all f with
 |false=>exact .inl rfl
 |true=>
  cases h2:l.all g with
  |false=>exact .inr rfl
  |true=>
   rw[cCk] at h1 h2;rw[cCk.2 fun x hx=>(bZi _ _).mpr ⟨h1 x hx,h2 x hx⟩] at h;cases h
def rsB (t:bP) (r:bI):Bool:=rtB t r&&seB t r
theorem bVw {t:bP} (h:aCt t=true) (h2:qC t=true) (h3:t.fRoutes.all (rsB t)=false):chk t=1:=by
 rcases bDz h3 with h4|h4
 ·exact bWl h h2 h4
 exact bXe h h2 h4
theorem aDc (O:aV) (t:bP) (hf: ∀i,i<t.fRoutes.length→((t.fRoutes.getD i default).fSections++(t.fRoutes.getD i default).fOverSections).length≤100000):bB Tryz.prog O 121 [.agg (bW t)] (vi (chk t)):=by
 refine aW 0 rfl (.agg (d:=jL t.fRoutes) (by simp[bW]) (.sl _ _ _)) fun hr=>?_;refine aW 0 rfl (.agg (d:=bT t.fPoints) (by simp[bW]) (.sl _ _ _)) fun hp=>?_;refine aW 0 rfl (.agg (d:=bT t.fHomes) (by simp[bW]) (.sl _ _ _)) fun hh=>?_;refine dD Tryz.func121 ?_;refine aB [0] ?_;refine aA fun _ Z1=>aB [1] ?_;refine aL (fun c0=>?_) fun c0=>?_
 ·refine aB [] ?_;refine aG (bU 2 ?_);exact cG.is (by simp (disch:=omega) only[go_sem,seval]<;>(rw[bWj (cFs aN)])) rfl rfl
 have hL:aCt t=true:=cFr aN;refine aC (Z1 _ (aA fun _ Z4=>aB [1] ?_));refine aL (fun c1=>?_) fun c1=>?_
 ·refine aB [] ?_;refine aG (bU 2 ?_);exact cG.is (by simp (disch:=omega) only[go_sem,seval]<;>(rw[bTn hL (by rw[qC,cFs aN];rfl)])) rfl rfl
 refine aC (Z4 _ (aA fun _ Z7=>aB [1] ?_));refine aD (aT [1,49,50,51] (fun n ρ=> ∃i,n=t.fPoints.length-i∧(i≤t.fPoints.length)∧(gK (ptB t) i)∧ρ=cO O [(1,.bx (bW t)),(49,bT t.fPoints),(50,vi (t.fPoints.length:Nat)),(51,vi (i:Nat))]) _ ⟨0,rfl,?_,?_,?_⟩ ?_)
 ·exact bE
 ·exact eD _
 ·exact b9
 rintro n ρ ⟨i,rfl,l0_0,l0_1,rfl⟩ _ Z9;refine aB [1,48,49,50,51] ?_;refine aA fun _ Z11=>aL (fun c2=>?_) fun c2=>?_
 ·refine aC (Z11 _ (aA fun _ Z12=>aD (aB [1,48,49,50,51] ?_)));refine aA fun _ Z14=>dE [1,3,4,48,49,50,51] [] ?_;refine Z14 _ (aL (fun c3=>?_) fun c3=>?_)
  ·refine aB [] ?_;refine aG (bU 2 ?_);exact cG.is (by simp (disch:=omega) only[go_sem,seval]<;>(rw[bTn hL (by rw[qC,kK (i:=i) aN (cFs (by simp only[ptN,hmN] at*;omega)),cBw])])) rfl rfl
  refine aC (Z12 _ (bA [1,48,49,50,51] ?_));refine Z9 _ _ bE ⟨i+1,rfl,bE,?_,b9⟩
  ·exact eA l0_1 (cFr (by simp only[ptN,hmN] at*;omega))
 refine aY (Z7 _ (aA fun _ Z16=>aB [1] ?_));refine aD ?_;have hP:qC t=true:=by rw[qC,jT l0_1 aN,cFr aN];rfl
 refine aT [1,92,93,94] (fun n ρ=> ∃i,n=t.fRoutes.length-i∧(i≤t.fRoutes.length)∧(iF (rsB t) t.fRoutes i)∧ρ=cO O [(1,.bx (bW t)),(92,jL t.fRoutes),(93,vi (t.fRoutes.length:Nat)),(94,vi (i:Nat))]) _ ⟨0,rfl,?_,?_,?_⟩ ?_
 ·exact bE
 ·exact fZ _ _
 ·exact b9
 rintro n ρ ⟨i,rfl,l1_0,l1_1,rfl⟩ _ Z18;refine aB [1,91,92,93,94] ?_;refine aA fun _ Z20=>aL (fun c4=>?_) fun c4=>?_
 ·refine aC (Z20 _ (aA fun _ Z21=>aD (aB [1,91,92,93,94] ?_)));refine aA fun _ Z23=>bL [1,6,91,92,93,94] ?_;refine fF (aBv _ t (t.fRoutes.getD i default) (hf i c4)) ?_;refine i0 (fun g0=>i8 _ t (t.fRoutes.getD i default).fPoints) ?_;refine i0 (fun g1=>i8 _ t (t.fRoutes.getD i default).fOverPoints) ?_;refine i0 (fun g2=>i8 _ t (t.fRoutes.getD i default).fFlank) ?_;refine Z23 _ (aL (fun c5=>?_) fun c5=>?_)
  ·refine aB [] ?_;refine aG (bU 2 ?_);exact cG.is (by simp (disch:=omega) only[go_sem,seval]<;>(rw[bVw hL hP (oC c4 (by rw[rsB,seB,← cDg];intro h;simp only[bZi] at h;simp only[h.1,h.2.1.1,h.2.1.2,h.2.2] at c5;simp at c5))])) rfl rfl
  refine aC (Z21 _ (bA [1,91,92,93,94] ?_));refine Z18 _ _ bE ⟨i+1,rfl,bE,?_,b9⟩
  ·exact gA l1_1 (by rw[rsB,seB];simpa[and_assoc] using c5)
 refine aY (Z16 _ (aA fun _ Z25=>aB [1] ?_));refine aD ?_;obtain ⟨hA,hB⟩:=bIr (mQ l1_1 aN);refine aT [1,125,126,127] (fun n ρ=> ∃i,n=t.fRoutes.length-i∧(i≤t.fRoutes.length)∧(iF agB t.fRoutes i)∧ρ=cO O [(1,.bx (bW t)),(125,jL t.fRoutes),(126,vi (t.fRoutes.length:Nat)),(127,vi (i:Nat))]) _ ⟨0,rfl,?_,?_,?_⟩ ?_
 ·exact bE
 ·exact fZ _ _
 ·exact b9
 rintro n ρ ⟨i,rfl,l2_0,l2_1,rfl⟩ _ Z27;refine aB [1,124,125,126,127] ?_;refine aA fun _ Z29=>aL (fun c6=>?_) fun c6=>?_
 ·refine aC (Z29 _ (aA fun _ Z30=>aD (aB [1,124,125,126,127] ?_)));refine aA fun _ Z32=>bL [1,8,124,125,126,127] ?_;refine fF (mG _ (t.fRoutes.getD i default).fPoints (t.fRoutes.getD i default).fOverPoints) ?_;refine i0 (fun g3=>mG _ (t.fRoutes.getD i default).fPoints (t.fRoutes.getD i default).fFlank) ?_;refine i0 (fun g4=>mG _ (t.fRoutes.getD i default).fOverPoints (t.fRoutes.getD i default).fFlank) ?_;refine Z32 _ (aL (fun c7=>?_) fun c7=>?_)
  ·refine aB [] ?_;refine aG (bU 2 ?_);exact cG.is (by simp (disch:=omega) only[go_sem,seval]<;>(rw[bXc hL hP hA hB (oC c6 (by rw[agB,← cDg];intro h;simp only[bZi] at h;simp only[h.1.1,h.1.2,h.2] at c7;simp at c7))])) rfl rfl
  refine aC (Z30 _ (bA [1,124,125,126,127] ?_));refine Z27 _ _ bE ⟨i+1,rfl,bE,?_,b9⟩
  ·exact gA l2_1 (by rw[agB];simpa[and_assoc] using c7)
 refine aY (Z25 _ (aA fun _ Z34=>aB [1] ?_));refine aD ?_;have hC:=mQ l2_1 aN;refine aT [1,155,156,157] (fun n ρ=> ∃i,n=t.fRoutes.length-i∧(i≤t.fRoutes.length)∧(gK (nuB t) i)∧ρ=cO O [(1,.bx (bW t)),(155,jL t.fRoutes),(156,vi (t.fRoutes.length:Nat)),(157,vi (i:Nat))]) _ ⟨0,rfl,?_,?_,?_⟩ ?_
 ·exact bE
 ·exact eD _
 ·exact b9
 rintro n ρ ⟨i,rfl,l3_0,l3_1,rfl⟩ _ Z36;refine aB [1,154,155,156,157] ?_;refine aA fun _ Z38=>aL (fun c8=>?_) fun c8=>?_
 ·refine aC (Z38 _ (aA fun _ Z39=>aD (aB [1,154,155,156,157] ?_)));refine aA fun _ Z41=>bL [1,9,10,154,155,156,157] ?_;refine fF (aEv _ t (nmN t i)) ?_;refine Z41 _ (aL (fun c9=>?_) fun c9=>?_)
  ·refine aB [] ?_;refine aG (bU 2 ?_);exact cG.is (by simp (disch:=omega) only[go_sem,seval]<;>(rw[bXh hL hP hA hB hC (kK c8 (Bool.eq_false_iff.2 fun h=>c9 ((aXf c8).2 h)))])) rfl rfl
  refine aC (Z39 _ (bA [1,154,155,156,157] ?_));refine Z36 _ _ bE ⟨i+1,rfl,bE,?_,b9⟩
  ·exact eA l3_1 ((aXf c8).1 c9)
 refine aY (Z34 _ (aB [] ?_));refine aG (bU 2 ?_);exact cG.is (by simp (disch:=omega) only[go_sem,seval]<;>(rw[bWu hL hP hA hB hC (jT l3_1 aN)])) rfl rfl
end Go.Sg
namespace Go.Sg
open Go.RowKit
open Go.Rv (FR)
def zU (D:List Nat) (d:DV):Bool:=dI (fun s=> !D.contains s) d
def dry (D:List Nat) (ρ:aV):Prop:= ∀t,zU D (ρ t)=true
def yV (k:Nat) (ρ:aV):Prop:= ∀t,dI (fun s=>s !=k) (ρ t)=true
section
variable {P:Program} {nt:Nat} {ρ:aV} {D:List Nat} {k:Nat} {v:DV}
theorem aVr {d:DV} (hk:D.contains k=true) (h:zU D d=true):dI (fun s=>s !=k) d=true:=
 rT (fun s hs=>by
  simp only[bne_iff_ne,ne_eq];rintro rfl;rw[hk] at hs;cases hs) d h
theorem oB (hk:D.contains k=true) (h:dry D ρ):yV k ρ:=fun t=>aVr hk (h t)
theorem kA (h:dry D ρ) (hv:zU D v=true):dry D (set ρ k v):=fun t=>by
 rw[bC];split
 ·exact hv
 exact h t
theorem aKl (h:yV k ρ) (hv:dI (fun s=>s !=k) v=true) {j:Nat}:yV k (set ρ j v):=fun t=>by
 rw[bC];split
 ·exact hv
 exact h t
theorem aPf {d:DV} (h:dI (fun s=>s !=k) d=true):pR k d=d:=if_pos h
theorem rY (h:yV k ρ):dG k ρ=ρ:=by
 funext i;rw[tK];split
 ·exact aPf (h i)
 rfl
theorem bIt {p:Nat→Bool} {d:DV} (h:dI p d=true):dI p (un d)=true:=by
 cases d<;>exact h
theorem bGt (h:yV k ρ) {x:Operand} (hx:x≠ .tmp k):dI (fun s=>s !=k) (ev ρ x)=true:=by
 cases x with
 |tmp t=>
  have ht:(t !=k)=true:=by simp;rintro rfl;exact hx rfl
  have:=h t;rw[p9];cases hρ:ρ t<;>rw[hρ] at this<;>first|exact this|exact ht
 |const c=>
  rw[aLs];cases c<;>try rfl
  simp only[cv,dI];rw[lU];intro d hd;simp at hd;obtain ⟨y,_,rfl⟩:=hd;rfl
 |global g=>
  rw[wI];cases GT g<;>rfl
 |func f=>rfl
theorem aVc {ld:Option (Option Nat)} {d:DV} (hd:dI (fun s=>s !=k) d=true):l7 (set ρ k v) ld d=l7 ρ ld d:=by
 unfold l7;cases ld with
 |none=>rfl
 |some ld=>
  cases d<;>try rfl
  ·rename_i s off;have:s≠k:=by simpa[dI] using hd
   simp only[bC,if_neg this]
  rename_i s z i off;have:s≠k:=by simpa[dI] using hd
  simp only[bC,if_neg this]
theorem bDg {el:Option (Option Nat×Nat)} {d i:DV} (hd:dI (fun s=>s !=k) d=true):tE (set ρ k v) el d i=tE ρ el d i:=by
 cases d<;>try (unfold tE;rfl)
 rename_i s n;have:s≠k:=by simpa[dI] using hd
 unfold tE;simp only[bC,if_neg this]
theorem bCb {el:Option (Option Nat×Nat)} {t:Nat} {d:DV} {lo hi:Option DV} (hd:dI (fun s=>s !=k) d=true):zV (set ρ k v) el t d lo hi=zV ρ el t d lo hi:=by
 unfold zV;split<;>try rfl
 split<;>try rfl
 rename_i s n _;have:s≠k:=by simpa[dI] using hd
 simp only[bC,if_neg this]
theorem bEf (hf:yV k ρ) {op:Op} (h:aCf k op):gR P (set ρ k v) op=gR P ρ op:=by
 have hx: ∀x∈op.operands,ev (set ρ k v) x=ev ρ x:=fun x hx=>eJ (h x hx);have hv: ∀x∈op.operands,dI (fun s=>s !=k) (un (ev ρ x))=true:=fun x hx=>bIt (bGt hf (h x hx));cases op with
 |buildSlice t n parts=>
  have hp: ∀p∈parts.toList,p.2≠ .tmp k:=fun p hp=>h p.2 (by simp[Op.operands];exact ⟨p.1,by simpa using hp⟩);simp only[gR,aTw,aCg hp,aSy hp]
 |build t parts=>
  have hp: ∀p∈parts.toList,p.2≠ .tmp k:=fun p hp=>h p.2 (by simp[Op.operands];exact ⟨p.1,by simpa using hp⟩);simp only[gR,wD,yC hp]
 |makeSlice t x y=>simp only[gR,hx x (by simp[Op.operands]),hx y (by simp[Op.operands])]
 |move x=>simp only[gR,oI,hx x (by simp[Op.operands])]
 |assign x=>simp only[gR,oI,hx x (by simp[Op.operands])]
 |pick c a b=>simp only[gR,oI,hx c (by simp[Op.operands]),hx a (by simp[Op.operands]),hx b (by simp[Op.operands])]
 |load t x=>simp only[gR,oI,hx x (by simp[Op.operands]),aVc (hv x (by simp[Op.operands]))]
 |nilCheck x=>simp only[gR,oI,hx x (by simp[Op.operands])]
 |binOp op t x y t'=>simp only[gR,oI,hx x (by simp[Op.operands]),hx y (by simp[Op.operands])]
 |unOp op t x=>simp only[gR,oI,hx x (by simp[Op.operands])]
 |convert s t x=>simp only[gR,oI,hx x (by simp[Op.operands])]
 |fieldAddr s x f=>simp only[gR,oI,hx x (by simp[Op.operands])]
 |indexAddr t x i=>simp only[gR,oI,hx x (by simp[Op.operands]),hx i (by simp[Op.operands]),bDg (hv x (by simp[Op.operands]))]
 |index t x i=>simp only[gR,oI,hx x (by simp[Op.operands]),hx i (by simp[Op.operands])]
 |slice t x lo hi mx=>
  cases mx with
  |some m=>rfl
  |none=>
   have hlo:lo.map (fun y=>un (ev (set ρ k v) y))=lo.map fun y=>un (ev ρ y):=by
    cases lo with
    |none=>rfl
    |some y=>simp[hx y (by simp[Op.operands])]
   have hhi:hi.map (fun y=>un (ev (set ρ k v) y))=hi.map fun y=>un (ev ρ y):=by
    cases hi with
    |none=>rfl
    |some y=>simp[hx y (by simp[Op.operands])]
   have glo:(∀y∈lo,gd (ev (set ρ k v) y))= ∀y∈lo,gd (ev ρ y):=by
    cases lo with
    |none=>simp
    |some y=>simp[hx y (by simp[Op.operands])]
   have ghi:(∀y∈hi,gd (ev (set ρ k v) y))= ∀y∈hi,gd (ev ρ y):=by
    cases hi with
    |none=>simp
    |some y=>simp[hx y (by simp[Op.operands])]
   simp only[gR,oI,hx x (by simp[Op.operands]),hlo,hhi,glo,ghi,bCb (hv x (by simp[Op.operands]))]
 |extract x i=>simp only[gR,oI,hx x (by simp[Op.operands])]
 |makeFunc fn first captured=>
  cases fn with
  |func f=>
   have h1: ∀x∈first.toList,ev (set ρ k v) x=ev ρ x:=fun x hx'=>hx x (by simp[Op.operands];exact .inl (by simpa using hx'))
   have h2: ∀x∈captured.toList,ev (set ρ k v) x=ev ρ x:=fun x hx'=>hx x (by simp[Op.operands];exact .inr (by simpa using hx'));have e1:(first.toList.map fun x=>un (ev (set ρ k v) x))=first.toList.map fun x=>un (ev ρ x):=cEe fun x hx'=>by rw[h1 x hx']
   have e2:(captured.toList.map fun x=>un (ev (set ρ k v) x))=captured.toList.map fun x=>un (ev ρ x):=cEe fun x hx'=>by rw[h2 x hx']
   have g1:(∀x∈first.toList,gd (ev (set ρ k v) x))= ∀x∈first.toList,gd (ev ρ x):=propext ⟨fun g x hx'=>by rw[← h1 x hx'];exact g x hx',fun g x hx'=>by rw[h1 x hx'];exact g x hx'⟩
   have g2:(∀x∈captured.toList,gd (ev (set ρ k v) x))= ∀x∈captured.toList,gd (ev ρ x):=propext ⟨fun g x hx'=>by rw[← h2 x hx'];exact g x hx',fun g x hx'=>by rw[h2 x hx'];exact g x hx'⟩;simp only[gR,oI,fnP,e1,e2,g1,g2]
  |_=>rfl
 |call c=>
  obtain ⟨cl,args,ts⟩:=c;cases cl with
  |builtin b=>
   have hb: ∀x∈args.toList,x≠ .tmp k:=fun x hx'=>h x (by simp[Op.operands,Call.operands];simpa using hx');simp only[gR,oI,aRg,aNp hb]
  |_=>rfl
 |_=>rfl
def bHv (op:Op):Bool:=match op with
 | .call ⟨.value _,_,_⟩=>false
 |_=>true
theorem aTj (hf:yV k ρ) {op:Op} {d:DV} (hc:bHv op=true) (h:aCf k op) (hp:prP P ρ op d):prP P (set ρ k v) op d:=by
 have gen:(gR P ρ op).1∧d=(gR P ρ op).2→(gR P (set ρ k v) op).1∧d=(gR P (set ρ k v) op).2:=by rw[bEf hf h];exact id
 cases op with
 |call c=>
  obtain ⟨cl,args,ts⟩:=c;cases cl with
  |value f=>cases hc
  |_=>exact gen hp
 |_=>exact gen hp
theorem aEe {l:List Oper} {o:Oper} {d:DV} (hf:yV k ρ) (hc:bHv o.op=true) (hl:k∉o.looksAt l.toArray) (hne:o.dst≠some k) (h:gY P l ρ o d):gY P l (set ρ k v) o d:=by
 obtain ⟨h1,h2,h3⟩:=h;refine ⟨h1,fun m hm=>?_,?_⟩
 ·have:m≠k:=fun e=>hne (by rw[hm,e]);rw[bC,if_neg this];exact h2 m hm
 cases hg:o.guard with
 |none=>rw[hg] at h3;exact aTj hf hc (gX hl) h3
 |some jw=>
  obtain ⟨j,want⟩:=jw;rw[hg] at h3;obtain ⟨g,d',k1,k2,k3,k4⟩:=h3;exact ⟨g,d',by rw[aQz (yR hl hg)];exact k1,k2,k3,fun hgt=>aTj hf hc (gX hl) (k4 hgt)⟩
def aTn (D:List Nat) (z:Nat) (xs:List (List DV)) (k:DV→Prop) (_:Tg k):Prop:= ∃v,cF (frz z xs) v∧lO v=true∧zU D v=true∧k v
theorem aPn {z:Nat} {xs:List (List DV)} {k:DV→Prop} {t:Tg k} (v:DV) (h:cF (frz z xs) v) (h2:lO v=true) (h3:zU D v=true) (hk:k v):aTn D z xs k t:=⟨v,h,h2,h3,hk⟩
def aPk (D:List Nat) (f:Bool) (d:Nat) (e:TypeId) (z:Nat) (xs:List (List DV)) (K:aV→Prop) (ρ:aV):Prop:=
 match f with
 |true=>aTn D z xs (fun v=>K (set ρ d v)) ⟨⟩
 |false=>K (set ρ d (.row e z xs))
theorem wN {f:Bool} {d:Nat} {e:TypeId} {z:Nat} {xs:List (List DV)} {K:aV→Prop} (h:aPk D f d e z xs K ρ): ∃v,zU D v=true∧K (set ρ d v)∧ ∀(K':aV→Prop) (ρ':aV),K' (set ρ' d v)→aPk D f d e z xs K' ρ':=by
 cases f with
 |true=>obtain ⟨v,h1,h2,h3,h4⟩:=h;exact ⟨v,h3,h4,fun K' ρ' hk=>⟨v,h1,h2,h3,hk⟩⟩
 |false=>exact ⟨_,rfl,h,fun K' ρ' hk=>hk⟩
def bIs (D:List Nat) (f:Bool) (d t:Nat) (e:TypeId) (z by_ m:Nat) (g:Nat→List DV) (K:aV→Prop) (ρ:aV) (c:DV):Prop:=
 match c with
 | .row e' z' xs=>e'=e∧z'=z∧xs.length+m≤9223372036854775807∧(xs.length+m)*by_≤140737488355328∧aPk D f d e z (xs++(List.range m).map g) K (set ρ t .any)
 | .ez=>m≤9223372036854775807∧m*by_≤140737488355328∧aPk D f d e z ((List.range m).map g) K ρ
 |_=>False
def bCl (P:Program) (D:List Nat) (f:Bool) (d t:Nat) (sl:Option (TypeId×Nat×Nat)) (y:DV) (K:aV→Prop) (ρ:aV):Prop:=
 match sl,y with
 |some (e,z,by_),.sl z' m g=>0<z∧(eE P e).map List.length=some z∧z'=z∧bIs D f d t e z by_ m g K ρ (ρ t)
 |_,_=>False
def aDk:Op→Option Nat→Option (Nat×Operand×Nat×TypeId)
 | .call ⟨.builtin .append,args,ts⟩,some d=>(match args.toList,ts.toList with
  | [.tmp t,y],[ty,ty']=>if ty=ty'∧t≠d then some (t,y,d,ty) else none
  |_,_=>none)
 |_,_=>none
def tJ (P:Program) (D:List Nat) (ρ:aV) (f:Bool) (dst:Option Nat) (op:Op) (K:aV→Prop):Prop:=
 match aDk op dst with
 |some (t,y,d,ty)=>gd (ev ρ y)∧bCl P D f d t (pT P ty) (un (ev ρ y)) K ρ
 |none=>False
theorem aGj {op:Op} {dst:Option Nat} {t d:Nat} {y:Operand} {ty:TypeId} (h:aDk op dst=some (t,y,d,ty)):op=.call ⟨.builtin .append,#[.tmp t,y],#[ty,ty]⟩∧dst=some d∧t≠d:=by
 unfold aDk at h;split at h
 ·rename_i args ts d';split at h
  ·rename_i t' y' ty' ty'' hargs hts;split at h
   ·rename_i hc;simp only[cAx,bZo] at h;obtain ⟨rfl,rfl,rfl,rfl⟩:=h;obtain ⟨rfl,hne⟩:=hc;refine ⟨?_,rfl,hne⟩;obtain rfl:args= #[.tmp t',y']:=by apply cCh;simpa using hargs
    obtain rfl:ts= #[ty',ty']:=by apply cCh;simpa using hts
    rfl
   cases h
  cases h
 cases h
theorem bBo {o:Oper} {ops:Array Oper} {f:Bool} {K:aV→Prop} {d:Nat} {e:TypeId} {z:Nat} {xs:List (List DV)} (hd:d<100000) (hDd:D.contains d=true) {base:aV} (hb:dry D base) (h:aPk D f d e z xs K base)
  (H: ∀K':aV→Prop,K' (set base d (.row e z xs))→OW P nt ops o K' ρ):OW P nt ops o (fun ρ'=>dry D ρ'∧K ρ') ρ:=by
 cases f with
 |false=>exact H _ ⟨kA hb rfl,h⟩
 |true=>
  obtain ⟨v,h1,h2,h3,h4⟩:=h;refine aGf hd (H _ ?_);unfold uL;rw[bC,if_pos rfl];refine ⟨v,h1,h2,?_⟩;have e1:dG d (set base d (.row e z xs))=set base d (.row e z xs):=rY (aKl (oB hDd hb) rfl);have e2:set (set base d (.row e z xs)) d v=set base d v:=by
   funext i;simp only[bC];split<;>rfl
  rw[e1];show dry D (set (set base d (.row e z xs)) d v)∧K (set (set base d (.row e z xs)) d v);rw[e2];exact ⟨kA hb h3,h4⟩
theorem bIh {o:Oper} {ops:Array Oper} {f:Bool} {K:aV→Prop} (hnt:nt≤100000) (hg:o.guard=none) (ho:dP nt o=true) (hd:d3 nt o=true) (hD: ∀t y d ty,aDk o.op o.dst=some (t,y,d,ty)→D.contains t=true∧D.contains d=true)
  (hdry:dry D ρ) (h:tJ P D ρ f o.dst o.op K):OW P nt ops o (fun ρ'=>dry D ρ'∧K ρ') ρ:=by
 unfold tJ at h;split at h
 ·rename_i t y d ty hp;obtain ⟨hop,hdst,hne⟩:=aGj hp;obtain ⟨hDt,hDd⟩:=hD _ _ _ _ hp;obtain ⟨h0,h⟩:=h;have hdn:d<nt:=by unfold d3 at hd;rw[hdst] at hd;simpa using hd
  have htn:t<nt:=by
   have:=bO ho (x:=.tmp t) (by simp[hop,Op.operands,Call.operands]);simpa[iE] using this
  have hdry2:dry D (set ρ t .any):=kA hdry rfl;have hkt:dG t ρ=ρ:=rY (oB hDt hdry);have hkd:dG d (set ρ t .any)=set ρ t .any:=rY (oB hDd hdry2);have hk1:dG d ρ=ρ:=rY (oB hDd hdry);unfold bCl at h;split at h
  ·rename_i e z by_ z' m g hs hy;obtain ⟨h1,h2,rfl,h3⟩:=h;unfold bIs at h3;split at h3
   ·rename_i e' z' xs hρ;obtain ⟨rfl,rfl,k1,k2,k3⟩:=h3;refine bBo aN hDd hdry2 k3 fun K' hK'=>cC hg ho hd ?_;rw[hop,hdst];show ty=ty∧aOj P ρ d (pT P ty) (ev ρ (.tmp t)) (ev ρ y) K';refine ⟨rfl,?_⟩;unfold aOj;rw[hs,p9,hρ];refine ⟨h0,h1,h2,?_⟩;show aEq ρ d t xs.length _ _ by_ (un (ev ρ y)) (ρ t) K';unfold aEq;rw[hρ,hy];refine ⟨rfl,rfl,by omega,cCq _,rfl,by simpa[iS] using k1,by simpa[iS] using k2,?_⟩;rw[hkt,hkd,cBn];exact hK'
   ·rename_i hρ;obtain ⟨k1,k2,k3⟩:=h3;refine bBo aN hDd hdry k3 fun K' hK'=>cC hg ho hd ?_;rw[hop,hdst];show ty=ty∧aOj P ρ d (pT P ty) (ev ρ (.tmp t)) (ev ρ y) K';refine ⟨rfl,?_⟩;unfold aOj;rw[hs,p9,hρ];refine ⟨h0,h1,h2,?_⟩;show vM ρ _ (un (ev ρ y))∧_∧_∧_;rw[hy];refine ⟨rfl,by simpa[iS] using k1,by simpa[iS] using k2,?_⟩;rw[hk1];exact hK'
   exact h3.elim
  exact h.elim
 exact h.elim
theorem aXc {l:List Oper} {oi oj:Oper} {f:Bool} {u:DV} {ki:Nat} (hki:oi.dst=some ki) (hc:bHv oi.op=true) (hap:oi.apart l.toArray oj=true) (hsrc: ∀t y d ty,aDk oj.op oj.dst=some (t,y,d,ty)→t∉oi.looksAt l.toArray)
  (hD: ∀t y d ty,aDk oj.op oj.dst=some (t,y,d,ty)→D.contains t=true∧D.contains d=true) (hdry:dry D ρ) {K:aV→Prop}
  (hy:gY P l ρ oi u) (h:tJ P D (putD ρ oi.dst u) f oj.dst oj.op K):tJ P D ρ f oj.dst oj.op (fun ρ'=>gY P l ρ' oi u∧K (putD ρ' oi.dst u)):=by
 obtain ⟨a1,a2,a3⟩:=Oper.apart_spec hap;unfold tJ at h ⊢;split at h
 ·rename_i t y d ty hp;obtain ⟨hop,hdst,hne⟩:=aGj hp;obtain ⟨hDt,hDd⟩:=hD _ _ _ _ hp;have hts:=hsrc _ _ _ _ hp;have htl:Operand.tmp t∈oj.op.operands:=by simp[hop,Op.operands,Call.operands]
  have hyl:y∈oj.op.operands:=by simp[hop,Op.operands,Call.operands]
  have hkt:ki≠t:=fun e=>gX (a1 ki hki) _ htl (by rw[e]);have hky:y≠ .tmp ki:=gX (a1 ki hki) _ hyl;have hkd:ki≠d:=fun e=>a2 ki hki (by rw[hdst,e]);have hdl:d∉oi.looksAt l.toArray:=a3 d hdst;rw[hki,cD] at h;rw[eJ hky] at h;refine ⟨h.1,?_⟩;have h:=h.2;have fd:=oB hDd hdry;have ft:=oB hDt hdry;have e1: ∀v,gY P l (set ρ d v) oi u:=fun v=>aEe fd hc hdl (by rw[hki];simpa using hkd) hy;have e2: ∀v,gY P l (set (set ρ t .any) d v) oi u:=fun v=>
   aEe (aKl fd rfl) hc hdl (by rw[hki];simpa using hkd) (aEe ft hc hts (by rw[hki];simpa using hkt) hy)
  have c1: ∀v,set (set ρ ki u) d v=set (set ρ d v) ki u:=fun v=>by
   funext i;simp only[bC];split
   ·rename_i h1;rw[if_neg aN]
   rfl
  have c2: ∀v,set (set (set ρ ki u) t .any) d v=set (set (set ρ t .any) d v) ki u:=fun v=>by
   funext i;simp only[bC];by_cases h1:i=ki
   ·rw[if_neg aN,if_neg aN,if_pos h1,if_pos h1]
   simp only[if_neg h1]
  unfold bCl at h ⊢;split at h
  ·rename_i e z by_ z' m g hs hyv;obtain ⟨h1,h2,h3,h4⟩:=h;refine ⟨h1,h2,h3,?_⟩;rw[bC,if_neg (bZv hkt)] at h4;unfold bIs at h4 ⊢;split at h4
   ·rename_i e' z' xs hρ;obtain ⟨q1,q2,q3,q4,q5⟩:=h4;refine ⟨q1,q2,q3,q4,?_⟩;obtain ⟨v,r1,r2,r3⟩:=wN q5;refine r3 _ _ ⟨e2 v,?_⟩;rw[hki,cD,← c2];exact r2
   ·rename_i hρ;obtain ⟨q3,q4,q5⟩:=h4;refine ⟨q3,q4,?_⟩;obtain ⟨v,r1,r2,r3⟩:=wN q5;refine r3 _ _ ⟨e1 v,?_⟩;rw[hki,cD,← c1];exact r2
   exact h4.elim
  exact h.elim
 exact h.elim
theorem aFl {f:Bool} {d:Nat} {e:TypeId} {z:Nat} {xs:List (List DV)} {K K':aV→Prop} (hb:dry D ρ) (hk: ∀ρ,dry D ρ→K ρ→K' ρ) (h:aPk D f d e z xs K ρ):aPk D f d e z xs K' ρ:=by
 obtain ⟨v,r1,r2,r3⟩:=wN h;exact r3 _ _ (hk _ (kA hb r1) r2)
theorem x0 {f:Bool} {op:Op} {dst:Option Nat} {K K':aV→Prop} (hdry:dry D ρ) (hk: ∀ρ,dry D ρ→K ρ→K' ρ) (h:tJ P D ρ f dst op K):tJ P D ρ f dst op K':=by
 unfold tJ at h ⊢;split
 ·rename_i t y d ty hp;rw[hp] at h;refine ⟨h.1,?_⟩;have h:=h.2;unfold bCl at h ⊢;split
  ·rename_i e z by_ z' m g hs hyv;rw[hs,hyv] at h;obtain ⟨h1,h2,h3,h4⟩:=h;refine ⟨h1,h2,h3,?_⟩;unfold bIs at h4 ⊢;split
   ·rename_i e' z' xs hρ;rw[hρ] at h4;obtain ⟨q1,q2,q3,q4,q5⟩:=h4;exact ⟨q1,q2,q3,q4,aFl (kA hdry rfl) hk q5⟩
   ·rename_i hρ;rw[hρ] at h4;obtain ⟨q3,q4,q5⟩:=h4;exact ⟨q3,q4,aFl hdry hk q5⟩
   rename_i h5 h6;exfalso;cases hq:ρ t<;>rw[hq] at h4<;>first|exact h4|exact h5 _ _ _ hq|exact h6 hq
  rename_i h5;exfalso;cases hs:pT P ty with
  |none=>rw[hs] at h;exact h
  |some x=>
   obtain ⟨e,z,by_⟩:=x;rw[hs] at h;cases hq:un (ev ρ y)<;>rw[hq] at h<;>first|exact h|exact h5 _ _ _ _ _ _ hs hq
 rename_i hp;rw[hp] at h;exact h
def bAk (fl:List Nat) (i:Nat) (o:Oper):Bool:=(dT o.op&&o.dst.isSome)&& !fl.contains i&&bHv o.op
def sED (P:Program) (D fl sf:List Nat) (l:List Oper) (i:Nat) (K:aV→Prop) (ρ:aV):Prop:=
 match l[i]? with
 |none=>False
 |some o=>if fl.contains i then o.guard=none∧tJ P D ρ (sf.contains i) o.dst o.op K else (dT o.op&&o.dst.isSome)=true∧ ∃d,gY P l ρ o d∧zU D d=true∧K (putD ρ o.dst d)
theorem bDc {fl sf:List Nat} {l:List Oper} {i:Nat} {K K':aV→Prop} (hdry:dry D ρ) (h: ∀ρ,dry D ρ→K ρ→K' ρ) (hh:sED P D fl sf l i K ρ):sED P D fl sf l i K' ρ:=by
 unfold sED at*;split
 ·rename_i hi;rw[hi] at hh;exact hh
 rename_i o hi;rw[hi] at hh;simp only at hh;split
 ·rename_i hp;rw[if_pos hp] at hh;exact ⟨hh.1,x0 hdry h hh.2⟩
 rename_i hp;rw[if_neg hp] at hh;obtain ⟨h0,d,h1,h2,h3⟩:=hh;refine ⟨h0,d,h1,h2,h _ ?_ h3⟩;cases hd:o.dst with
 |none=>exact hdry
 |some k=>exact kA hdry h2
def l8 (fl:List Nat) (listed:Array Bool):Bool:=fl.all fun j=>listed.getD j true
def mH (P:Program) (nt:Nat) (D fl sf fl2:List Nat) (l:List Oper) (k:aV→Prop):Nat→Array Bool→aV→Prop
 |0,listed,ρ=>l8 fl listed=true∧vC P nt fl2 l k 0 listed ρ
 |fuel+1,listed,ρ=>if l8 fl listed then vC P nt fl2 l k (fuel+1) listed ρ else
   dry D ρ∧Region.ready .any l.toArray listed≠[]∧ ∀i∈Region.ready .any l.toArray listed,sED P D fl sf l i (mH P nt D fl sf fl2 l k fuel (listed.setIfInBounds i true)) ρ
def aFt (D fl:List Nat) (l:List Oper):Bool:=fl.all fun j=>match l[j]? with
 |some o=>(match aDk o.op o.dst with
  |some (t,_,d,_)=>D.contains t&&D.contains d
  |none=>false)
 |none=>false
theorem aGa {fl:List Nat} {l:List Oper} (h:aFt D fl l=true) {j:Nat} {o:Oper} (hj:fl.contains j=true) (hl:l[j]?=some o): ∀t y d ty,aDk o.op o.dst=some (t,y,d,ty)→D.contains t=true∧D.contains d=true:=fun t y d ty hp=>by
 have:=cCk.1 h j (by simpa using hj);rw[hl] at this;simp only[hp,bZi] at this;exact this
theorem aDt {ro:Option Nat} {ds:List Deferred} {fl sf fl2:List Nat} {l:List Oper} {k:aV→Prop} {Q':Exit→Act→World→Prop} (hr:kH nt l=true) (hw:aFt D fl l=true): ∀(fuel:Nat) (listed:Array Bool) (ρ:aV) (I:Nat→Prop) (A:cY) (a:Act) (w:World),
  mH P nt D fl sf fl2 l k fuel listed ρ→cV nt w I A ρ a→a.defers=ds→
  (∀I' A' a' w' ρ',cV nt w' I' A' ρ' a'→a'.defers=ds→e8 w I A w' I' A'→k ρ'→Q' .normal a' w')→wpAnyIn (FR ro) 0 P .any l.toArray Q' fuel listed a w
 |0,listed,ρ,I,A,a,w,h,hs,hd,hk=>tS hr 0 listed ρ I A a w h.2 hs hd hk
 |fuel+1,listed,ρ,I,A,a,w,h,hs,hd,hk=>by
  unfold mH at h;split at h
  ·exact tS hr (fuel+1) listed ρ I A a w h hs hd hk
  obtain ⟨hdry,hne,h⟩:=h;refine ⟨fun h0=>absurd h0 hne,fun i hi=>?_⟩;have h2:=h i hi;have rec_: ∀I' A' a' w' ρ',cV nt w' I' A' ρ' a'→a'.defers=ds→e8 w I A w' I' A'→mH P nt D fl sf fl2 l k fuel (listed.setIfInBounds i true) ρ'→wpAnyIn (FR ro) 0 P .any l.toArray Q' fuel (listed.setIfInBounds i true) a' w':=
   fun I' A' a' w' ρ' q1 q2 q3 q4=>aDt hr hw fuel _ ρ' I' A' a' w' q4 q1 q2 fun I2 A2 a2 w2 ρ2 k1 k2 k3 k4=>hk I2 A2 a2 w2 ρ2 k1 k2 (q3.trans k3) k4
  unfold wpOpIn;unfold sED at h2;simp only[cEu];split
  ·rename_i ho;rw[ho] at h2;exact h2.elim
  rename_i o ho;rw[ho] at h2;have hOW:OW P nt l.toArray o (mH P nt D fl sf fl2 l k fuel (listed.setIfInBounds i true)) ρ:=by
   simp only at h2;split at h2
   ·rename_i hp;exact (bIh hs.bound h2.1 (e9 hr ho).1 (e9 hr ho).2 (aGa hw hp ho) hdry h2.2).mono fun _ h=>h.2
   rename_i hp;obtain ⟨h0,d,k1,_,k2⟩:=h2;simp only[bZi] at h0;exact oK (lT hr) (e9 hr ho).1 (e9 hr ho).2 h0.2 k1 k2
  have:=hOW ro ds I A a w hs hd (wpAnyIn (FR ro) 0 P .any l.toArray Q' fuel (listed.setIfInBounds i true)) Q' rec_;split at this
  ·rename_i hw;rw[if_pos hw];exact this
  rename_i hw;rw[if_neg hw];exact this
theorem aXe {l:List Oper} {oi oj:Oper} {d u:DV} {ki kj:Nat} (hki:oi.dst=some ki) (hkj:oj.dst=some kj) (hap:oi.apart l.toArray oj=true) (hy:gY P l ρ oi d) (k1:gY P l (putD ρ oi.dst d) oj u):
  gY P l ρ oj u∧gY P l (putD ρ oj.dst u) oi d∧putD (putD ρ oi.dst d) oj.dst u=putD (putD ρ oj.dst u) oi.dst d:=by
 obtain ⟨h1,h2,h3⟩:=Oper.apart_spec hap;have hne:kj≠ki:=fun e=>h2 ki hki (by rw[hkj,e]);have hdi:bX d=false:=hy.1;have hui:bX u=false:=k1.1;have hρi:bX (ρ ki)=false:=hy.2.1 ki hki;have hρj:bX (ρ kj)=false:=by
  have:=k1.2.1 kj hkj;rw[hki,cD,bC,if_neg hne] at this;exact this
 refine ⟨?_,?_,?_⟩
 ·have:=nQ (ρ:=putD ρ oi.dst d) (k:=ki) (u:=ρ ki) hρi (by rw[hki,cD,bC,if_pos rfl];exact hdi) (h1 ki hki) (fun e=>hne (by rw[hkj] at e;cases e;rfl)) k1;rw[hki,cD,aBr] at this;exact this
 ·rw[hkj,cD];exact nQ hui hρj (h3 kj hkj) (fun e=>hne (by rw[hki] at e;cases e;rfl)) hy
 rw[hki,hkj];funext i;simp only[cD,bC];by_cases e1:i=ki
 ·rw[if_pos e1,if_neg (by rw[e1];exact fun e=>hne e.symm),if_pos e1]
 simp only[if_neg e1]
def u0 (l:List Oper) (oi oj:Oper):Bool:=match aDk oj.op oj.dst with
 |some (t,_,_,_)=> !(oi.looksAt l.toArray).contains t
 |none=>false
def aHz (fl fl2:List Nat) (l:List Oper) (listed:Array Bool) (i:Nat):Bool:=
 match l[i]? with
 |none=>false
 |some oi=>(bAk fl i oi&& !fl2.contains i&&(jN l i).all fun j=> !listed.getD j true&&match l[j]? with
   |some o=>o.after.any (fun e=>Region.binds .any e&&(e.on==i||(jN l i).contains e.on))
   |none=>false)&&(List.range l.length).all fun j=>
  j==i||listed.getD j true||(jN l i).contains j||match l[j]? with
   |none=>true
   |some oj=>if fl.contains j then oi.apart l.toArray oj&&u0 l oi oj else (dT oj.op&&oj.dst.isSome)&& !fl2.contains j&&oi.apart l.toArray oj
theorem aLz {fl sf fl2:List Nat} {l:List Oper} {k:aV→Prop} {i:Nat} {oi:Oper} {d:DV} (hi:l[i]?=some oi) (hpi:bAk fl i oi=true) (hpi2:fl2.contains i=false) (hw:aFt D fl l=true) (hdd:zU D d=true) (E:Nat→Prop)
  (hD: ∀j oj,E j→l[j]?=some oj→ ∃e∈oj.after,Region.binds .any e=true∧(e.on=i∨E e.on)):
  ∀(fuel:Nat) (listed:Array Bool) (ρ:aV),(∀j,E j→listed.getD j true=false)→
   (∀j oj,l[j]?=some oj→j≠i→listed.getD j true=false→ ¬E j→if fl.contains j then oi.apart l.toArray oj=true∧u0 l oi oj=true else ((dT oj.op&&oj.dst.isSome)=true∧fl2.contains j=false)∧oi.apart l.toArray oj=true)→
   i∈Region.ready .any l.toArray listed→dry D ρ→gY P l ρ oi d→mH P nt D fl sf fl2 l k fuel (listed.setIfInBounds i true) (putD ρ oi.dst d)→mH P nt D fl sf fl2 l k (fuel+1) listed ρ:=by
 have hpi':=hpi;unfold bAk at hpi';simp only[bZi,cAz] at hpi';obtain ⟨⟨hp1,hp2⟩,hp3⟩:=hpi';obtain ⟨ki,hki⟩:=cAu.1 hp1.2;have hpF:pur fl2 i oi=true:=by unfold pur;simp only[bZi,hp1,hpi2];simp
 have hdone: ∀{listed:Array Bool},l8 fl (listed.setIfInBounds i true)=l8 fl listed:=fun {listed}=>by
  unfold l8;refine cBk.2 ?_;simp only[cCk];have: ∀j∈fl,(listed.setIfInBounds i true).getD j true=listed.getD j true:=fun j hj=>getD_set_ne true (fun e=>by
   subst e;have:fl.contains i=true:=by simpa using hj
   rw[hp2] at this;cases this)
  exact ⟨fun h j hj=>by rw[← this j hj];exact h j hj,fun h j hj=>by rw[this j hj];exact h j hj⟩
 intro fuel
 induction fuel with
 |zero=>
  intro listed ρ hun0 hfree hr hdry hy H;unfold mH at H;unfold mH;have hd1:l8 fl listed=true:=by rw[← hdone];exact H.1
  rw[if_pos hd1];refine rH hi hpF E hD 0 listed ρ hun0 (fun j oj hj hji hun hno=>?_) hr hy H.2;have:=hfree j oj hj hji hun hno;have hnf: ¬fl.contains j=true:=fun hc=>by
   have:=cCk.1 hd1 j (by simpa using hc);rw[hun] at this;cases this
  rw[if_neg hnf] at this;exact ⟨by unfold pur;rw[this.1.1,this.1.2];rfl,this.2⟩
 |succ fuel ih=>
  intro listed ρ hun0 hfree hr hdry hy H;unfold mH at H;rw[hdone] at H;unfold mH;split
  ·rename_i hd1;rw[if_pos hd1] at H;refine rH hi hpF E hD (fuel+1) listed ρ hun0 (fun j oj hj hji hun hno=>?_) hr hy H;have:=hfree j oj hj hji hun hno;have hnf: ¬fl.contains j=true:=fun hc=>by
    have:=cCk.1 hd1 j (by simpa using hc);rw[hun] at this;cases this
   rw[if_neg hnf] at this;exact ⟨by unfold pur;rw[this.1.1,this.1.2];rfl,this.2⟩
  rename_i hd1;rw[if_neg hd1] at H;obtain ⟨hdry',_,H⟩:=H;refine ⟨hdry,fun h=>(by rw[h] at hr;cases hr),fun j hj=>?_⟩;by_cases hji:j=i
  ·subst hji;unfold sED;rw[hi];simp only;rw[if_neg (by rw[hp2];simp)];refine ⟨by simp only[bZi];exact hp1,d,hy,hdd,?_⟩;unfold mH;rw[hdone,if_neg hd1];exact ⟨hdry',by assumption,H⟩
  have h1:=H j (ready_mono hj hji);obtain ⟨hjun,oj,hoj,hall⟩:=mem_ready.1 hj;have hoj':l[j]?=some oj:=by simpa using hoj
  have hne: ∀m,listed.getD m true=false→ ∀e∈oj.after,Region.binds .any e=true→e.on≠m:=fun m h0 e he hb heq=>by
   have h1:=hall e he hb;rw[heq] at h1;rcases cBd m listed.size with h'|h'
   ·simp[h'] at h0 h1;rw[h0] at h1;cases h1
   simp[cDy h'] at h1
  have hnot: ¬E j:=fun hDj=>by
   obtain ⟨e,he,hb,hon|hon⟩:=hD j oj hDj hoj'
   ·exact hne i (mem_ready.1 hr).1 e he hb hon
   exact hne e.on (hun0 _ hon) e he hb rfl
  have hset: ∀m,j≠m→(listed.setIfInBounds j true).getD m true=listed.getD m true:=fun m h=>getD_set_ne true h;have hun': ∀m,E m→(listed.setIfInBounds j true).getD m true=false:=fun m hm=>by
   rw[hset m (fun e=>hnot (e▸hm))];exact hun0 m hm
  have hfree': ∀m om,l[m]?=some om→m≠i→(listed.setIfInBounds j true).getD m true=false→ ¬E m→if fl.contains m then oi.apart l.toArray om=true∧u0 l oi om=true else ((dT om.op&&om.dst.isSome)=true∧fl2.contains m=false)∧oi.apart l.toArray om=true:=fun m om hm hmi hun hno=>by
   refine hfree m om hm hmi ?_ hno;by_cases hjm:j=m
   ·subst hjm;exact hjun
   rw[hset m hjm] at hun;exact hun
  have hcom:(listed.setIfInBounds i true).setIfInBounds j true=(listed.setIfInBounds j true).setIfInBounds i true:=by rw[cFl _ _ (bZv hji)]
  rw[hcom] at h1;have hre:=ready_mono hr (bZv hji);have hf:=hfree j oj hoj' hji hjun hnot;unfold sED at h1 ⊢;rw[hoj'] at h1 ⊢;simp only at h1 ⊢;split
  ·rename_i hfj;rw[if_pos hfj] at h1 hf;refine ⟨h1.1,?_⟩;have hsrc: ∀t y d ty,aDk oj.op oj.dst=some (t,y,d,ty)→t∉oi.looksAt l.toArray:=fun t y d ty hp=>by
    have:=hf.2;unfold u0 at this;rw[hp] at this;simpa using this
   have h2:=aXc hki hp3 hf.1 hsrc (aGa hw hfj hoj') hdry hy h1.2;exact x0 hdry (fun ρ' hd' h3=>ih (listed.setIfInBounds j true) ρ' hun' hfree' hre hd' h3.1 h3.2) h2
  rename_i hfj;rw[if_neg hfj] at h1 hf;obtain ⟨h0,u,k1,k2,k3⟩:=h1;have h0':=h0;simp only[bZi] at h0';obtain ⟨kj,hkj⟩:=cAu.1 h0'.2;obtain ⟨q1,q2,q3⟩:=aXe hki hkj hf.2 hy k1;rw[q3] at k3;exact ⟨h0,u,q1,k2,ih (listed.setIfInBounds j true) _ hun' hfree' hre (by rw[hkj,cD];exact kA hdry k2) q2 k3⟩
theorem aNb {fl fl2:List Nat} {l:List Oper} {listed:Array Bool} {i:Nat} {oi:Oper} (hi:l[i]?=some oi) (h:aHz fl fl2 l listed i=true):bAk fl i oi=true∧fl2.contains i=false∧
  (∀j oj,j∈jN l i→l[j]?=some oj→ ∃e∈oj.after,Region.binds .any e=true∧(e.on=i∨e.on∈jN l i))∧(∀j,j∈jN l i→listed.getD j true=false)∧
  ∀j oj,l[j]?=some oj→j≠i→listed.getD j true=false→ ¬j∈jN l i→if fl.contains j then oi.apart l.toArray oj=true∧u0 l oi oj=true else ((dT oj.op&&oj.dst.isSome)=true∧fl2.contains j=false)∧oi.apart l.toArray oj=true:=by
 unfold aHz at h;rw[hi] at h;generalize jN l i=E at h ⊢;simp only[bZi] at h;obtain ⟨⟨⟨h0,h1⟩,h2⟩,h3⟩:=h;rw[cCk] at h2 h3;refine ⟨h0,by simpa using h1,fun j oj hj hoj=>?_,fun j hj=>?_,fun j oj hj hne hun hno=>?_⟩
 ·have:=h2 j hj;rw[hoj] at this;simp only[bZi,Array.any_eq_true',cEx,cCe] at this;obtain ⟨_,e,he,hb,hon⟩:=this;exact ⟨e,he,hb,hon.imp id fun h=>by simpa using h⟩
 ·have:=h2 j hj;simp only[bZi,cAz] at this;exact this.1
 have hlt:j<l.length:=by
  rcases cBd j l.length with h|h
  ·exact h
  rw[cAw h] at hj;cases hj
 have:=h3 j (by simpa using hlt);rw[hj] at this;simp only[cEx,cCe] at this;rcases this with ((h|h)|h)|h
 ·exact absurd h hne
 ·rw[hun] at h;cases h
 ·exact absurd (by simpa using h) hno
 split
 ·rename_i hc;rw[if_pos hc] at h;simpa using h
 rename_i hc;rw[if_neg hc] at h;simp only[bZi,cAz] at h ⊢;exact h
def w7 (fl fl2:List Nat) (l:List Oper):List Nat→Array Bool→Bool
 | [],listed=>l8 fl listed&&aFv fl2 l [] listed
 |i::r,listed=>if l8 fl listed then aFv fl2 l (i::r) listed else
   ((Region.ready .any l.toArray listed).contains i&&aHz fl fl2 l listed i||(Region.ready .any l.toArray listed==[i]&&fl.contains i))&&w7 fl fl2 l r (listed.setIfInBounds i true)
def wL (P:Program) (nt:Nat) (D fl sf fl2:List Nat) (l:List Oper) (k:aV→Prop):List Nat→Array Bool→aV→Prop
 | [],_,ρ=>k ρ
 |i::r,listed,ρ=>if l8 fl listed then aDf P nt fl2 l k (i::r) ρ else sED P D fl sf l i (wL P nt D fl sf fl2 l k r (listed.setIfInBounds i true)) ρ
theorem uF {fl sf fl2:List Nat} {l:List Oper} {k:aV→Prop} (hw:aFt D fl l=true): ∀(r:List Nat) (listed:Array Bool) (ρ:aV),w7 fl fl2 l r listed=true→dry D ρ→wL P nt D fl sf fl2 l k r listed ρ→mH P nt D fl sf fl2 l k r.length listed ρ
 | [],listed,ρ,hB,_,h=>by
  unfold w7 at hB;simp only[bZi] at hB;exact ⟨hB.1,nW [] listed ρ hB.2 h⟩
 |i::r,listed,ρ,hB,hdry,h=>by
  unfold w7 at hB;unfold wL at h;by_cases hd:l8 fl listed=true
  ·rw[if_pos hd] at hB h;unfold List.length mH;rw[if_pos hd];exact nW (i::r) listed ρ hB h
  rw[if_neg hd] at hB h;simp only[bZi,cEx] at hB;obtain ⟨hB1,hB2⟩:=hB;rcases hB1 with ⟨hr,hf⟩|hone
  ·cases hi:l[i]? with
   |none=>unfold aHz at hf;rw[hi] at hf;cases hf
   |some oi=>
    obtain ⟨hp,hp2,hD,hun,hfree⟩:=aNb hi hf;unfold sED at h;rw[hi] at h;have hp':=hp;unfold bAk at hp';simp only[bZi,cAz] at hp';simp only[hp'.1.2] at h;rw[if_neg b7] at h;obtain ⟨_,d,k1,k2,k3⟩:=h;have hdry':dry D (putD ρ oi.dst d):=by
     cases hd:oi.dst with
     |none=>exact hdry
     |some kk=>exact kA hdry k2
    exact aLz hi hp hp2 hw k2 (fun j=>j∈jN l i) hD r.length listed ρ hun hfree (by simpa using hr) hdry k1 (uF hw r _ _ hB2 hdry' k3)
  have hone':Region.ready .any l.toArray listed=[i]:=by simpa using hone.1
  unfold List.length mH;rw[if_neg hd];refine ⟨hdry,fun h=>(by rw[hone'] at h;cases h),fun j hj=>?_⟩;rw[hone'] at hj;obtain rfl:j=i:=by simpa using hj
  exact bDc hdry (fun ρ' hd' h'=>uF hw r _ _ hB2 hd' h') h
def bOn (D:List Nat) (kk:Nat) (K:aV→Prop) (ρ:aV):Prop:=zU D (ρ kk)=true∧K ρ
def opW (P:Program) (all:List Oper) (D:List Nat) (o:Oper) (c:Nat) (K:aV→Prop) (ρ:aV):Prop:=
 match c,o.dst with
 |0,some kk=>(match o.guard with
  |none=>prG P ρ o.op (some kk) (bOn D kk K)
  |some (j,want)=>gdG P ρ o.op (some kk) (gAt all ρ j want) (bOn D kk K))
 |1,dst=>o.guard=none∧tJ P D ρ false dst o.op K
 |2,dst=>o.guard=none∧tJ P D ρ true dst o.op K
 |3,_=>oJ P all o false K ρ
 |4,_=>oJ P all o true K ρ
 |_,_=>False
def aEl (P:Program) (all:List Oper) (D:List Nat) (k:aV→Prop):List (Oper×Nat)→aV→Prop
 | [],ρ=>k ρ
 |p::r,ρ=>opW P all D p.1 p.2 (aEl P all D k r) ρ
def pwW (P:Program) (all:List Oper) (D:List Nat) (k:aV→Prop) (l:List (Oper×Nat)) (_:Tg (all,k,l)) (ρ:aV):Prop:=aEl P all D k l ρ
def sW (fl sf fl2:List Nat) (l:List Oper):List Nat→Array Bool→Option (List (Oper×Nat))
 | [],_=>some []
 |i::r,listed=>match l[i]?,sW fl sf fl2 l r (listed.setIfInBounds i true) with
  |some o,some q=>(match l8 fl listed,fl2.contains i,fl.contains i,sf.contains i,dT o.op&&o.dst.isSome with
   |true,true,_,_,_=>some ((o,4)::q)
   |true,false,_,_,_=>some ((o,3)::q)
   |false,_,true,true,_=>some ((o,2)::q)
   |false,_,true,false,_=>some ((o,1)::q)
   |false,_,false,_,true=>some ((o,0)::q)
   |false,_,false,_,false=>none)
  |_,_=>none
theorem aUu {fl:List Nat} {listed:Array Bool} {i:Nat} (h:l8 fl listed=true):l8 fl (listed.setIfInBounds i true)=true:=by
 unfold l8 at h ⊢;rw[cCk] at h ⊢;intro j hj;have:=h j hj;by_cases e:i=j
 ·subst e;by_cases hs:i<listed.size
  ·simp[cBt,cEi,hs]
  simp[cBt,cEi,hs]
 rw[getD_set_ne true e];exact this
theorem aYx (hnt:nt≤100000) {fl:List Nat} {all:List Oper} {i:Nat} {o:Oper} {K K':aV→Prop} (hr:kH nt all=true) (hgo:all.all gOk=true) (hi:all[i]?=some o) (hrec: ∀ρ',K ρ'→K' ρ') (h:oJ P all o (fl.contains i) K ρ):
  if pur fl i o then ∃d,gY P all ρ o d∧K' (putD ρ o.dst d) else OW P nt all.toArray o K' ρ:=by
 obtain ⟨h1,h2⟩:=e9 hr hi;unfold oJ at h;split at h
 ·rename_i hg;split at h
  ·rename_i hf;rw[if_neg (by unfold pur;rw[hf];simp)];exact (aQo hnt hg h1 h2 h).mono hrec
  ·rename_i hf hp;rw[if_pos (by unfold pur;rw[hf,hp];rfl)];obtain ⟨d,k1,k2⟩:=aAb (all:=all) hg h;exact ⟨d,k1,hrec _ k2⟩
  rename_i hf hp;rw[if_neg (by unfold pur;rw[hp];simp)];exact (cC hg h1 h2 h).mono hrec
 rename_i j want hg;split at h
 ·exact h.elim
 rename_i hf;have hgk:=cCk.1 hgo o (cDb hi);unfold gOk at hgk;rw[hg] at hgk;simp only[cAc,cCl] at hgk;obtain ⟨d,k1,k2⟩:=sG hg hgk h;rw[if_pos (by unfold pur;rw[hf,hgk];rfl)];exact ⟨d,k1,hrec _ k2⟩
theorem aGi (hnt:nt≤100000) {fl sf fl2:List Nat} {all:List Oper} {k:aV→Prop} (hr:kH nt all=true) (hgo:all.all gOk=true): ∀(r:List Nat) (listed:Array Bool) (l:List (Oper×Nat)) (ρ:aV),l8 fl listed=true→sW fl sf fl2 all r listed=some l→aEl P all D k l ρ→aDf P nt fl2 all k r ρ
 | [],listed,l,ρ,_,hl,h=>by
  simp[sW] at hl;subst hl;exact h
 |i::r,listed,l,ρ,hd,hl,h=>by
  unfold sW at hl;split at hl
  ·rename_i o q ho hq;rw[hd] at hl;have hrec:=fun ρ'=>aGi (k:=k) hnt hr hgo r _ q ρ' (aUu hd) hq;unfold aDf;rw[ho];simp only;refine aYx hnt hr hgo ho hrec ?_;cases hc:fl2.contains i<;>rw[hc] at hl<;>cases hl<;>unfold aEl at h<;>exact h
  cases hl
theorem aNd (hnt:nt≤100000) {fl sf fl2:List Nat} {all:List Oper} {k:aV→Prop} (hr:kH nt all=true) (hgo:all.all gOk=true): ∀(r:List Nat) (listed:Array Bool) (l:List (Oper×Nat)) (ρ:aV),sW fl sf fl2 all r listed=some l→aEl P all D k l ρ→dry D ρ→wL P nt D fl sf fl2 all k r listed ρ
 | [],listed,l,ρ,hl,h,_=>by
  simp[sW] at hl;subst hl;exact h
 |i::r,listed,l,ρ,hl,h,hdry=>by
  unfold wL;split
  ·rename_i hd;exact aGi hnt hr hgo (i::r) listed l ρ hd hl h
  rename_i hd;unfold sW at hl;split at hl
  ·rename_i o q ho hq;rw[cDg] at hd;rw[hd] at hl;have hrec:=fun ρ'=>aNd (k:=k) hnt hr hgo r _ q ρ' hq;unfold sED;rw[ho];simp only;cases hf:fl.contains i
   case true=>
    rw[if_pos rfl];rw[hf] at hl;have h':o.guard=none∧tJ P D ρ (sf.contains i) o.dst o.op (aEl P all D k q):=by
     cases hc:sf.contains i<;>rw[hc] at hl<;>cases hl<;>unfold aEl at h<;>exact h
    exact ⟨h'.1,x0 hdry (fun ρ' hd' h3=>hrec ρ' h3 hd') h'.2⟩
   case false=>
    rw[if_neg b7];rw[hf] at hl;cases hp:(dT o.op&&o.dst.isSome)
    case true=>
     rw[hp] at hl;cases hl;unfold aEl at h;have hgk:=cCk.1 hgo o (cDb ho);refine ⟨rfl,?_⟩;have hp':=hp;simp only[bZi] at hp';obtain ⟨kk,hkk⟩:=cAu.1 hp'.2;unfold opW at h;rw[hkk] at h;simp only at h;have fin: ∀d,gY P all ρ o d∧bOn D kk (aEl P all D k q) (putD ρ o.dst d)→ ∃d,gY P all ρ o d∧zU D d=true∧wL P nt D fl sf fl2 all k r (listed.setIfInBounds i true) (putD ρ o.dst d):=fun d ⟨q1,q2,q3⟩=>by
      have hdd:zU D d=true:=by rwa [hkk,cD,bC,if_pos rfl] at q2
      refine ⟨d,q1,hdd,hrec _ q3 ?_⟩;rw[hkk,cD];exact kA hdry hdd
     split at h
     ·rename_i hg;obtain ⟨d,q⟩:=aAb (all:=all) (o:=o) hg (by rw[hkk];exact h);exact fin d q
     rename_i j want hg;obtain ⟨d,q⟩:=sG (all:=all) (o:=o) hg hp (by rw[hkk];exact h);exact fin d q
    case false=>
     rw[hp] at hl;cases hl
  cases hl
def aJx (D:List Nat):List Nat→aV→Prop
 | [],_=>True
 |l::L,ρ=>zU D (ρ l)=true∧aJx D L ρ
theorem aFr (hD:D.all (fun s=>decide (s<100000))=true) (hout: ∀s,100000≤s→dH (ρ s)): ∀(L:List Nat),aJx D L ρ→dry D (keepC L ρ)
 | [],_=>fun t=>by
  rw[yH];unfold hi;split
  ·rfl
  rename_i ht;refine rT (fun s hs=>?_) _ (hout t aN);have hs:=cFq hs;simp only[cAz,List.contains_eq_mem,cFu];intro hm;have:=cFq (cCk.1 hD s hm);omega
 |l::L,h=>by
  rw[o0];exact kA (aFr hD hout L h.2) h.1
theorem bAl (L:List Nat) (D r fl sf fl2:List Nat) {id:Nat} {l:List Oper} {Q:Exit→aV→Prop} (hm:P.follows .mixedOrders=true) (h1:kH nt l=true) (h2:l.all gOk=true) (h3:r.length=l.length)
  (h4:w7 fl fl2 l r (Array.replicate l.length false)=true) (h5:aFt D fl l=true) (h6:D.all (fun s=>decide (s<100000))=true) {q:List (Oper×Nat)} (hq:sW fl sf fl2 l r (Array.replicate l.length false)=some q)
  (h:pwW P l D (Q .normal) q ⟨⟩ (keepC L ρ)) (hdr:aJx D L ρ):AW P nt (.region id l.toArray true) Q ρ:=by
 intro ro ds I A a w hs hd;have hdry:=aFr (ρ:=ρ) h6 hs.out L hdr;have hnt:=hs.bound;have hs:=hs.weaken (Le.keepC L ρ);refine wpIn_region_any hm ?_;have h1':=uF (P:=P) (nt:=nt) (sf:=sf) h5 r (Array.replicate l.length false) _ h4 hdry (aNd hnt h1 h2 r _ q _ hq h hdry);rw[h3] at h1';have hgr:mI w I w.drew I:=⟨rfl,⟨rfl,cEq _⟩,rfl,cCq _,fun _ _=>rfl,fun _ h=>h,fun _ h=>.inl h⟩
 have:=aDt (ro:=ro) (Q':=fun e a' w'=> ∃I' A' ρ',cV nt w' I' A' ρ' a'∧a'.defers=ds∧e8 w I A w' I' A'∧Q e ρ') h1 h5 _ _ _ I A a w.drew h1' (hs.grow hgr) hd
  fun I' A' a' w' ρ' q1 q2 q3 q4=>⟨I',A',ρ',q1,q2,(hgr.ext hs.osim).trans q3,q4⟩
 simpa using this
theorem bGd (L:List Nat) (cl:List (Nat×Nat)) (D r fl sf fl2:List Nat) {id:Nat} {l:List Oper} {Q:Exit→aV→Prop} (hm:P.follows .mixedOrders=true)
  (hr:(gL nt l&&decide (r.length=l.length)&&w7 fl fl2 l r (Array.replicate l.length false)&&aFt D fl l&&D.all (fun s=>decide (s<100000))&&cl.all fun p=>decide (p.1<nt)&&decide (p.2<nt)&&p.1 !=p.2)=true)
  (h: ∀q,sW fl sf fl2 l r (Array.replicate l.length false)=some q→pwW P l D (clG cl (Q .normal)) q ⟨⟩ (keepC L ρ)) (hq:(sW fl sf fl2 l r (Array.replicate l.length false)).isSome=true) (hdr:aJx D L ρ):AW P nt (.region id l.toArray true) Q ρ:=by
 simp only[gL,bZi,cFp] at hr;obtain ⟨⟨⟨⟨⟨⟨h1,h2⟩,h3⟩,h4⟩,h5⟩,h6⟩,h7⟩:=hr;obtain ⟨q,hq⟩:=cAu.1 hq;exact aGp h7 (bAl L D r fl sf fl2 hm h1 h2 h3 h4 h5 h6 hq (h q hq) hdr)
end
@[congr] theorem SettleD_congr {D:List Nat} {z:Nat} {xs xs':List (List DV)} {k:DV→Prop} {t:Tg k} (h:xs=xs'):aTn D z xs k t=aTn D z xs' k t:=by rw[h]
@[congr] theorem pwW_congr {P:Program} {all:List Oper} {D:List Nat} {l:List (Oper×Nat)} {k:aV→Prop} {t:Tg (all,k,l)} {ρ ρ':aV} (h:ρ=ρ'):pwW P all D k l t ρ=pwW P all D k l t ρ':=by rw[h]
section
variable {P:Program} {ρ:aV} (all:List Oper) (D:List Nat) (os:List (Oper×Nat)) (k:aV→Prop) (dd:Nat) (d:Option Tmp) (op:Op) (ty:TypeId) (pos:String) (af:Array Edge) (j:Nat) (want:Bool)
theorem cJl:pwW P all D k [] ⟨⟩ ρ=k ρ:=rfl
theorem cHs:pwW P all D k ((⟨some dd,op,ty,pos,af,none⟩,0)::os) ⟨⟩ ρ=prG P ρ op (some dd) (bOn D dd (pwW P all D k os ⟨⟩)):=rfl
theorem cJx:pwW P all D k ((⟨some dd,op,ty,pos,af,some (j,want)⟩,0)::os) ⟨⟩ ρ=gdG P ρ op (some dd) (gAt all ρ j want) (bOn D dd (pwW P all D k os ⟨⟩)):=rfl
theorem cIw:pwW P all D k ((⟨d,op,ty,pos,af,none⟩,1)::os) ⟨⟩ ρ=tJ P D ρ false d op (pwW P all D k os ⟨⟩):=by
 show (_=_∧_)=_;simp;rfl
theorem aZx:pwW P all D k ((⟨d,op,ty,pos,af,none⟩,2)::os) ⟨⟩ ρ=tJ P D ρ true d op (pwW P all D k os ⟨⟩):=by
 show (_=_∧_)=_;simp;rfl
theorem aUk:pwW P all D k ((⟨d,op,ty,pos,af,none⟩,3)::os) ⟨⟩ ρ=(match dT op&&d.isSome with
   |true=>prG P ρ op d (pwW P all D k os ⟨⟩)
   |false=>aEk P ρ op d (pwW P all D k os ⟨⟩)):=by
 unfold pwW;rw[aEl];unfold opW oJ;simp only;generalize (dT op&&d.isSome)=b;cases b<;>rfl
theorem cIv:pwW P all D k ((⟨d,op,ty,pos,af,none⟩,4)::os) ⟨⟩ ρ=cX P ρ op d (pwW P all D k os ⟨⟩):=rfl
theorem cGl:pwW P all D k ((⟨d,op,ty,pos,af,some (j,want)⟩,3)::os) ⟨⟩ ρ=gdG P ρ op d (gAt all ρ j want) (pwW P all D k os ⟨⟩):=rfl
theorem cIr (kk:Nat) (K:aV→Prop):bOn D kk K ρ=(zU D (ρ kk)=true∧K ρ):=rfl
theorem bIq (f:Bool) (t dd:Nat) (y:Operand) (K:aV→Prop):tJ P D ρ f (some dd) (.call ⟨.builtin .append,#[.tmp t,y],#[ty,ty]⟩) K=(t≠dd∧gd (ev ρ y)∧bCl P D f dd t (pT P ty) (un (ev ρ y)) K ρ):=by
 unfold tJ aDk;by_cases h:t=dd
 ·simp[h]
 simp[h]
theorem cJc (f:Bool) (t dd:Nat) (e:TypeId) (z by_ z' m:Nat) (g:Nat→List DV) (K:aV→Prop):bCl P D f dd t (some (e,z,by_)) (.sl z' m g) K ρ=(0<z∧(eE P e).map List.length=some z∧z'=z∧bIs D f dd t e z by_ m g K ρ (ρ t)):=rfl
theorem cHo (f:Bool) (t dd:Nat) (e e':TypeId) (z by_ z' m:Nat) (g:Nat→List DV) (K:aV→Prop) (xs:List (List DV)):bIs D f dd t e z by_ m g K ρ (.row e' z' xs)=(e'=e∧z'=z∧xs.length+m≤9223372036854775807∧(xs.length+m)*by_≤140737488355328∧aPk D f dd e z (xs++(List.range m).map g) K (set ρ t .any)):=rfl
theorem cIi (f:Bool) (t dd:Nat) (e:TypeId) (z by_ m:Nat) (g:Nat→List DV) (K:aV→Prop):bIs D f dd t e z by_ m g K ρ .ez=(m≤9223372036854775807∧m*by_≤140737488355328∧aPk D f dd e z ((List.range m).map g) K ρ):=rfl
theorem cKh (dd:Nat) (e:TypeId) (z:Nat) (K:aV→Prop) (xs:List (List DV)):aPk D true dd e z xs K ρ=aTn D z xs (fun v=>K (set ρ dd v)) ⟨⟩:=rfl
theorem cKy (dd:Nat) (e:TypeId) (z:Nat) (K:aV→Prop) (xs:List (List DV)):aPk D false dd e z xs K ρ=K (set ρ dd (.row e z xs)):=rfl
end
attribute [go_sem] cJl cHs cJx cIw aZx aUk cIv cGl cIr bIq cJc cHo cIi cKh cKy aJx
end Go.Sg
namespace Go.Sg
open Go.Proofs
theorem aPj {α:Type} [Inhabited α] {e:α→List DV} {g:Nat→List DV} {n:Nat} {l:List α} (hn:n=l.length) (h: ∀i,i<n→g i=e (l.getD i default)):(List.range n).map g=l.map e:=by
 subst hn;rw[← oF e l];exact cEe fun i hi=>h i (cCc.1 hi)
theorem aVz {α:Type} (d:α) {l:List α} {i j:Nat} (h:j<i):(l.take i).getD j d=l.getD j d:=by simp[cFk,cEl,h]
theorem aGn {α:Type} (d:α) {l:List α} {i j:Nat}:(l.drop i).getD j d=l.getD (i+j) d:=by simp[cFk,cCg]
theorem bIi {α:Type} [Inhabited α] {z:Nat} (e:α→List DV) (l:List α) {xs:List (List DV)} (h:xs=l.map e):cF (frz z xs) (encL z e l):=by subst h;exact cF.frzL e l
section
variable {t:bP} {i:Nat}
theorem bKf (h:chk t=0):aCt t=true∧qC t=true∧t.fRoutes.all (rtB t)=true∧t.fRoutes.all (seB t)=true∧t.fRoutes.all agB=true∧(List.range t.fRoutes.length).all (nuB t)=true:=by
 unfold chk at h
 repeat' split at h
 all_goals simp_all
end
abbrev aGo (l:List bF):DV:=encL 3 cM l
abbrev aTc (l:List cP):DV:=encL 2 cN l
def w5 (a b:bI):Bool:=decide (a=b)
theorem mN (O:aV) (a b:List Int):bB Tryz.prog O 57 [bT a,bT b] (vb (a==b)):=by
 refine aW 0 rfl (.sl _ _ _) fun ha=>?_;refine aW 1 rfl (.sl _ _ _) fun hb=>?_;refine dD Tryz.func57 ?_;refine aB [0,1] ?_;refine aA fun _ Z1=>aB [0,1] ?_;refine aL (fun c0=>?_) fun c0=>?_
 ·refine aB [] ?_;refine aG (bU 4 (xb ?_))
  (symm;rw[cCr];intro h;exact c0 (by rw[h]))
 refine aC (Z1 _ (aA fun _ Z4=>aB [0,1] ?_));refine aD (aT [0,1,12,13] (fun n ρ=> ∃i,n=a.length-i∧(i≤a.length)∧((a==b)=(a.drop i==b.drop i))∧ρ=cO O [(0,bT a),(1,bT b),(12,vi (a.length:Nat)),(13,vi (i:Nat))]) _ ⟨0,rfl,?_,?_,?_⟩ ?_)
 ·exact bE
 ·rfl
 ·exact b9
 rintro n ρ ⟨i,rfl,l0_0,l0_1,rfl⟩ _ Z6;refine aB [0,1,12,13] ?_;refine aA fun _ Z8=>aL (fun c1=>?_) fun c1=>?_
 ·refine aC (Z8 _ (aA fun _ Z9=>aD (aB [0,1,12,13] ?_)));refine aA fun _ Z11=>dE [0,1,5,12,13] [] ?_;refine Z11 _ (aL (fun c2=>?_) fun c2=>?_)
  ·refine aB [] ?_;refine aG (bU 4 (xb ?_))
   (rw[l0_1,bK default c1,bK default (show i<b.length by omega)];symm;rw[cCr];intro h;exact c2 (by injection h))
  refine aC (Z9 _ (bA [0,1,12,13] ?_));refine Z6 _ _ bE ⟨i+1,rfl,bE,?_,b9⟩
  ·rw[l0_1,bK default c1,bK default (show i<b.length by omega),c2];simp
 refine aY (Z4 _ (aB [] ?_));refine aG (bU 4 (xb ?_))
 (rw[l0_1,cT c1,cT aN];rfl)
theorem tZ (O:aV) (a b:List bF):bB Tryz.prog O 193 [aGo a,aGo b] (vb (a==b)):=by
 refine aW 0 rfl (.sl _ _ _) fun ha=>?_;refine aW 1 rfl (.sl _ _ _) fun hb=>?_;refine dD Tryz.func193 ?_;refine aB [0,1] ?_;refine aA fun _ Z1=>aB [0,1] ?_;refine aL (fun c0=>?_) fun c0=>?_
 ·refine aB [] ?_;refine aG (bU 4 (xb ?_))
  (symm;rw[cCr];intro h;exact c0 (by rw[h]))
 refine aC (Z1 _ (aA fun _ Z4=>aB [0,1] ?_));refine aD (aT [0,1,5] (fun n ρ=> ∃i,n=a.length-i∧(i≤a.length)∧((a==b)=(a.drop i==b.drop i))∧ρ=cO O [(0,aGo a),(1,aGo b),(5,vi (i:Nat))]) _ ⟨0,rfl,?_,?_,?_⟩ ?_)
 ·exact bE
 ·rfl
 ·exact b9
 rintro n ρ ⟨i,rfl,l0_0,l0_1,rfl⟩ _ Z6;refine aA fun _ Z7=>aB [0,1,5] ?_;refine aL (fun c1=>?_) fun c1=>?_
 ·refine aC (Z7 _ (aA fun _ Z9=>aD (aA fun _ Z10=>dE [0,1,5] [] ?_)));refine Z10 _ (aL (fun c2=>?_) fun c2=>?_)
  ·have c2:a.getD i default≠b.getD i default:=(by intro h;rw[h] at c2;simp at c2);refine aB [] ?_;refine aG (bU 4 (xb ?_))
   (rw[l0_1,bK default c1,bK default (show i<b.length by omega)];symm;rw[cCr];intro h;exact c2 (by injection h))
  have c2:a.getD i default=b.getD i default:=(by rw[bJc];simpa using c2);refine aC (Z9 _ (bA [0,1,5] ?_));refine Z6 _ _ bE ⟨i+1,rfl,bE,?_,b9⟩
  ·rw[l0_1,bK default c1,bK default (show i<b.length by omega),c2];simp
 refine aY (Z4 _ (aB [] ?_));refine aG (bU 4 (xb ?_))
 (rw[l0_1,cT c1,cT aN];rfl)
theorem pU (O:aV) (a b:List aM):bB Tryz.prog O 194 [mF a,mF b] (vb (a==b)):=by
 refine aW 0 rfl (.sl _ _ _) fun ha=>?_;refine aW 1 rfl (.sl _ _ _) fun hb=>?_;refine dD Tryz.func194 ?_;refine aB [0,1] ?_;refine aA fun _ Z1=>aB [0,1] ?_;refine aL (fun c0=>?_) fun c0=>?_
 ·refine aB [] ?_;refine aG (bU 4 (xb ?_))
  (symm;rw[cCr];intro h;exact c0 (by rw[h]))
 refine aC (Z1 _ (aA fun _ Z4=>aB [0,1] ?_));refine aD (aT [0,1,5] (fun n ρ=> ∃i,n=a.length-i∧(i≤a.length)∧((a==b)=(a.drop i==b.drop i))∧ρ=cO O [(0,mF a),(1,mF b),(5,vi (i:Nat))]) _ ⟨0,rfl,?_,?_,?_⟩ ?_)
 ·exact bE
 ·rfl
 ·exact b9
 rintro n ρ ⟨i,rfl,l0_0,l0_1,rfl⟩ _ Z6;refine aA fun _ Z7=>aB [0,1,5] ?_;refine aL (fun c1=>?_) fun c1=>?_
 ·refine aC (Z7 _ (aA fun _ Z9=>aD (aA fun _ Z10=>dE [0,1,5] [] ?_)));refine Z10 _ (aL (fun c2=>?_) fun c2=>?_)
  ·have c2:a.getD i default≠b.getD i default:=(by intro h;rw[h] at c2;simp at c2);refine aB [] ?_;refine aG (bU 4 (xb ?_))
   (rw[l0_1,bK default c1,bK default (show i<b.length by omega)];symm;rw[cCr];intro h;exact c2 (by injection h))
  have c2:a.getD i default=b.getD i default:=(by rw[gO];simpa using c2);refine aC (Z9 _ (bA [0,1,5] ?_));refine Z6 _ _ bE ⟨i+1,rfl,bE,?_,b9⟩
  ·rw[l0_1,bK default c1,bK default (show i<b.length by omega),c2];simp
 refine aY (Z4 _ (aB [] ?_));refine aG (bU 4 (xb ?_))
 (rw[l0_1,cT c1,cT aN];rfl)
theorem uX (O:aV) (a b:List Int):bB Tryz.prog O 195 [bT a,bT b] (vb (a==b)):=by
 refine aW 0 rfl (.sl _ _ _) fun ha=>?_;refine aW 1 rfl (.sl _ _ _) fun hb=>?_;refine dD Tryz.func195 ?_;refine aB [0,1] ?_;refine aA fun _ Z1=>aB [0,1] ?_;refine aL (fun c0=>?_) fun c0=>?_
 ·refine aB [] ?_;refine aG (bU 4 (xb ?_))
  (symm;rw[cCr];intro h;exact c0 (by rw[h]))
 refine aC (Z1 _ (aA fun _ Z4=>aB [0,1] ?_));refine aD (aT [0,1,5] (fun n ρ=> ∃i,n=a.length-i∧(i≤a.length)∧((a==b)=(a.drop i==b.drop i))∧ρ=cO O [(0,bT a),(1,bT b),(5,vi (i:Nat))]) _ ⟨0,rfl,?_,?_,?_⟩ ?_)
 ·exact bE
 ·rfl
 ·exact b9
 rintro n ρ ⟨i,rfl,l0_0,l0_1,rfl⟩ _ Z6;refine aA fun _ Z7=>aB [0,1,5] ?_;refine aL (fun c1=>?_) fun c1=>?_
 ·refine aC (Z7 _ (aA fun _ Z9=>aD (aA fun _ Z10=>dE [0,1,5] [] ?_)));refine Z10 _ (aL (fun c2=>?_) fun c2=>?_)
  ·refine aB [] ?_;refine aG (bU 4 (xb ?_))
   (rw[l0_1,bK default c1,bK default (show i<b.length by omega)];symm;rw[cCr];intro h;exact c2 (by injection h))
  refine aC (Z9 _ (bA [0,1,5] ?_));refine Z6 _ _ bE ⟨i+1,rfl,bE,?_,b9⟩
  ·rw[l0_1,bK default c1,bK default (show i<b.length by omega),c2];simp
 refine aY (Z4 _ (aB [] ?_));refine aG (bU 4 (xb ?_))
 (rw[l0_1,cT c1,cT aN];rfl)
theorem uY (O:aV) (a b:List cP):bB Tryz.prog O 120 [aTc a,aTc b] (vb (a==b)):=by
 refine aW 0 rfl (.sl _ _ _) fun ha=>?_;refine aW 1 rfl (.sl _ _ _) fun hb=>?_;refine dD Tryz.func120 ?_;refine aB [0,1] ?_;refine aA fun _ Z1=>aB [0,1] ?_;refine aL (fun c0=>?_) fun c0=>?_
 ·refine aB [] ?_;refine aG (bU 4 (xb ?_))
  (symm;rw[cCr];intro h;exact c0 (by rw[h]))
 refine aC (Z1 _ (aA fun _ Z4=>aB [0,1] ?_));refine aD (aT [0,1,5] (fun n ρ=> ∃i,n=a.length-i∧(i≤a.length)∧((a==b)=(a.drop i==b.drop i))∧ρ=cO O [(0,aTc a),(1,aTc b),(5,vi (i:Nat))]) _ ⟨0,rfl,?_,?_,?_⟩ ?_)
 ·exact bE
 ·rfl
 ·exact b9
 rintro n ρ ⟨i,rfl,l0_0,l0_1,rfl⟩ _ Z6;refine aA fun _ Z7=>aB [0,1,5] ?_;refine aL (fun c1=>?_) fun c1=>?_
 ·refine aC (Z7 _ (aA fun _ Z9=>aD (aA fun _ Z10=>dE [0,1,5] [] ?_)));refine Z10 _ (aL (fun c2=>?_) fun c2=>?_)
  ·have c2:a.getD i default≠b.getD i default:=(by intro h;rw[h] at c2;simp at c2);refine aB [] ?_;refine aG (bU 4 (xb ?_))
   (rw[l0_1,bK default c1,bK default (show i<b.length by omega)];symm;rw[cCr];intro h;exact c2 (by injection h))
  have c2:a.getD i default=b.getD i default:=(by rw[fT];simpa using c2);refine aC (Z9 _ (bA [0,1,5] ?_));refine Z6 _ _ bE ⟨i+1,rfl,bE,?_,b9⟩
  ·rw[l0_1,bK default c1,bK default (show i<b.length by omega),c2];simp
 refine aY (Z4 _ (aB [] ?_));refine aG (bU 4 (xb ?_))
 (rw[l0_1,cT c1,cT aN];rfl)
theorem l4 (O:aV) (a b:List bF):bB Tryz.prog O 117 [aGo a,aGo b] (vb (a==b)):=by
 refine dD Tryz.func117 ?_;refine aB [0,1] ?_;refine aA fun _ Z1=>bL [0,1] ?_;refine fF (tZ _ a b) ?_;refine Z1 _ (aG (bU 4 ?_));exact xd
theorem gJ (O:aV) (a b:List aM):bB Tryz.prog O 118 [mF a,mF b] (vb (a==b)):=by
 refine dD Tryz.func118 ?_;refine aB [0,1] ?_;refine aA fun _ Z1=>bL [0,1] ?_;refine fF (pU _ a b) ?_;refine Z1 _ (aG (bU 4 ?_));exact xd
theorem jA (O:aV) (a b:List Int):bB Tryz.prog O 119 [bT a,bT b] (vb (a==b)):=by
 refine dD Tryz.func119 ?_;refine aB [0,1] ?_;refine aA fun _ Z1=>bL [0,1] ?_;refine fF (uX _ a b) ?_;refine Z1 _ (aG (bU 4 ?_));exact xd
theorem aEm (O:aV) (a b:bI):bB Tryz.prog O 58 [.agg (bR a),.agg (bR b)] (vb (w5 a b)):=by
 refine dD Tryz.func58 ?_;refine aB [0,1] ?_;refine aA fun _ Z1=>aB [2,3] ?_;refine aL (fun c0=>?_) fun c0=>?_
 ·refine aB [] ?_;refine aG (bU 4 (xb ?_))
  (symm;rw[w5,cFu,aDn];(try simp only[aAz] at c0);grind)
 refine aC (Z1 _ (aA fun _ Z4=>aA fun _ Z5=>bL [2,3] ?_));refine fF (l4 _ a.fPath b.fPath) ?_;refine i0 (fun g0=>gJ _ a.fPoints b.fPoints) ?_;refine i0 (fun g1=>jA _ a.fSections b.fSections) ?_;refine Z5 _ (aL (fun c1=>?_) fun c1=>?_)
 ·refine aB [] ?_;refine aG (bU 4 (xb ?_))
  (symm;rw[w5,cFu,aDn];grind)
 refine aC (Z4 _ (aA fun _ Z7=>bL [2,3] ?_));refine fF (l4 _ a.fOver b.fOver) ?_;refine i0 (fun g2=>gJ _ a.fOverPoints b.fOverPoints) ?_;refine i0 (fun g3=>jA _ a.fOverSections b.fOverSections) ?_;refine i0 (fun g4=>gJ _ a.fFlank b.fFlank) ?_;refine i0 (fun g5=>jA _ a.fGuards b.fGuards) ?_;refine i0 (fun g6=>uY _ a.fGaps b.fGaps) ?_;refine Z7 _ (aG (bU 4 (xb ?_)))
 (rw[w5,cBk];simp[aDn,aAz,and_assoc];(try simp only[aAz] at c0);grind)
def aAh (t u:bP):Bool:=decide (t=u)
theorem aFg (O:aV) (t u:bP):bB Tryz.prog O 19 [.agg (bW t),.agg (bW u)] (vb (aAh t u)):=by
 refine aW 0 rfl (.agg (d:=jL t.fRoutes) (by simp[bW]) (.sl _ _ _)) fun ha=>?_;refine aW 1 rfl (.agg (d:=jL u.fRoutes) (by simp[bW]) (.sl _ _ _)) fun hb=>?_;refine dD Tryz.func19 ?_;refine aB [0,1] ?_;refine aA fun _ Z1=>aA fun _ Z2=>bL [2,3] ?_;refine i0 (fun g0=>mN _ t.fPoints u.fPoints) ?_;refine i0 (fun g1=>mN _ t.fHomes u.fHomes) ?_;refine Z2 _ (aL (fun c0=>?_) fun c0=>?_)
 ·refine aB [] ?_;refine aG (bU 4 (xb ?_))
  (symm;rw[aAh,cFu,aCh];grind)
 have hl:t.fRoutes.length=u.fRoutes.length:=by grind
 refine aC (Z1 _ (aA fun _ Z4=>aB [2,3] ?_));refine aD (aT [2,3,45,46] (fun n ρ=> ∃i,n=t.fRoutes.length-i∧(i≤t.fRoutes.length)∧((t.fRoutes==u.fRoutes)=(t.fRoutes.drop i==u.fRoutes.drop i))∧ρ=cO O [(2,.bx (bW t)),(3,.bx (bW u)),(45,vi (t.fRoutes.length:Nat)),(46,vi (i:Nat))]) _ ⟨0,rfl,?_,?_,?_⟩ ?_)
 ·exact bE
 ·rfl
 ·exact b9
 rintro n ρ ⟨i,rfl,l0_0,l0_1,rfl⟩ _ Z6;refine aB [2,3,45,46] ?_;refine aA fun _ Z8=>aL (fun c1=>?_) fun c1=>?_
 ·refine aC (Z8 _ (aA fun _ Z9=>aD (aB [2,3,45,46] ?_)));refine aA fun _ Z11=>dE [2,3,5,45,46] [] ?_;refine w4 (aEm _ (t.fRoutes.getD i default) (u.fRoutes.getD i default)) ?_;refine Z11 _ (aL (fun c2=>?_) fun c2=>?_)
  ·have c2:t.fRoutes.getD i default≠u.fRoutes.getD i default:=cFx (by simpa[w5] using c2);refine aB [] ?_;refine aG (bU 4 (xb ?_))
   (symm;rw[aAh,cFu,aCh];intro h;have h1:(t.fRoutes==u.fRoutes)=true:=(by simpa using h.1);rw[l0_1,bK default c1,bK default (show i<u.fRoutes.length by omega)] at h1;simp at h1;exact c2 (by simpa using h1.1))
  have c2:t.fRoutes.getD i default=u.fRoutes.getD i default:=cFq (by simpa[w5] using c2);refine aC (Z9 _ (bA [2,3,45,46] ?_));refine Z6 _ _ bE ⟨i+1,rfl,bE,?_,b9⟩
  ·rw[l0_1,bK default c1,bK default (show i<u.fRoutes.length by omega),c2];simp
 refine aY (Z4 _ (aB [] ?_));refine aG (bU 4 (xb ?_))
 (have h1:(t.fRoutes==u.fRoutes)=true:=(by rw[l0_1,cT c1,cT aN];rfl);have h1:t.fRoutes=u.fRoutes:=(by simpa using h1);rw[aAh,cBk];simp[aCh];grind)
def mM (a b:aM):Bool:=decide (a.fEl<b.fEl∨a.fEl=b.fEl∧a.fPos<b.fPos)
theorem gN {a b:aM}:mM a b=true↔a.fEl<b.fEl∨a.fEl=b.fEl∧a.fPos<b.fPos:=decide_eq_true_iff
theorem uO (a:aM):mM a a=false:=by rw[← cDg,gN];omega
theorem wG {a b c:aM} (h:mM a b=true) (k:mM b c=true):mM a c=true:=by rw[gN] at*;omega
theorem aIx {a b:aM} (h:mM a b=false) (k:mM b a=false):a=b:=by
 rw[← cDg,gN] at h k;rw[gO];omega
theorem bNn {a b c:aM} (h:mM b a=false) (k:mM b c=true):mM a c=true:=by
 rw[← cDg,gN] at h;rw[gN] at*;omega
theorem bPu {a b c:aM} (h:mM a b=true) (k:mM c b=false):mM a c=true:=by
 rw[← cDg,gN] at k;rw[gN] at*;omega
def Asc (l:List aM):Prop:=l.Pairwise fun a b=>mM a b=true
theorem pE: ∀{l m:List aM},Asc l→Asc m→(∀x,x∈l↔x∈m)→l=m
 | [],[],_,_,_=>rfl
 | [],b::m,_,_,h=>absurd ((h b).2 b7) b7
 |a::l,[],_,_,h=>absurd ((h a).1 b7) b7
 |a::l,b::m,hl,hm,h=>by
  unfold Asc at hl hm;rw[cBi] at hl hm;have key:a=b:=by
   rcases cDt.1 ((h a).1 b7) with e|e
   ·exact e
   rcases cDt.1 ((h b).2 b7) with e'|e'
   ·exact e'.symm
   have:=wG (hl.1 b e') (hm.1 a e);rw[uO] at this;cases this
  subst key;rw[pE hl.2 hm.2 fun x=>?_];constructor
  ·intro hx;rcases cDt.1 ((h x).1 (by simp[hx])) with e|e
   ·subst e;have:=hl.1 x hx;rw[uO] at this;cases this
   exact e
  intro hx;rcases cDt.1 ((h x).2 (by simp[hx])) with e|e
  ·subst e;have:=hm.1 x hx;rw[uO] at this;cases this
  exact e
theorem aMc {l:List aM} {x:aM} (h:Asc l) (hx: ∀y∈l,mM y x=true):Asc (l++[x]):=by
 unfold Asc at*;rw[cDa];exact ⟨h,List.pairwise_singleton _ _,fun a ha b hb=>by rw[cBq.1 hb];exact hx a ha⟩
abbrev iR (l:List aM) (i:Nat):aM:=l.getD i default
def ddS (s:List aM):Nat→List aM
 |0=>[]
 |n+1=>ddS s n++if n=0∨iR s n≠iR s (n-1) then [iR s n] else []
theorem aIr (s:List aM): ∀n,(ddS s n).length≤n
 |0=>cCq _
 |n+1=>by
  unfold ddS;have:=aIr s n;rw[cAb];split<;>simp<;>omega
theorem aIb {s:List aM}: ∀n x,x∈ddS s n↔ ∃k,k<n∧iR s k=x
 |0,x=>by simp[ddS]
 |n+1,x=>by
  unfold ddS;rw[cEh,aIb n x];constructor
  ·rintro (⟨k,hk,rfl⟩|h)
   ·exact ⟨k,by omega,rfl⟩
   split at h
   ·exact ⟨n,by omega,(cBq.1 h).symm⟩
   cases h
  rintro ⟨k,hk,rfl⟩;rcases cEs (cDn hk) with q|q
  ·exact .inl ⟨k,q,rfl⟩
  subst q;by_cases hc:k=0∨iR s k≠iR s (k-1)
  ·rw[if_pos hc];exact .inr b7
  simp only[not_or,cBo] at hc;exact .inl ⟨k-1,by omega,hc.2.symm⟩
theorem aHp {s:List aM} (hs: ∀i j,i<j→j<s.length→mM (iR s j) (iR s i)=false): ∀n,n≤s.length→Asc (ddS s n)
 |0,_=>List.Pairwise.nil
 |n+1,h=>by
  unfold ddS;split
  ·rename_i hc;refine aMc (aHp hs n aN) fun y hy=>?_;obtain ⟨k,hk,rfl⟩:=(aIb n y).1 hy;have hne:iR s n≠iR s (n-1):=by rcases hc with h|h;omega;exact h
   have h1:mM (iR s (n-1)) (iR s n)=true:=by
    cases hq:mM (iR s (n-1)) (iR s n) with
    |true=>rfl
    |false=>exact absurd (aIx (hs (n-1) n aN aN) hq) hne
   rcases cEs (show k≤n-1 by omega) with q|q
   ·exact bNn (hs k (n-1) q aN) h1
   rw[q];exact h1
  rw[cEw];exact aHp hs n aN
def msS (l:List aM):List aM:=l.mergeSort fun x y=> !mM y x
theorem aIk (l:List aM):(msS l).length=l.length:=List.length_mergeSort l
theorem bEq (l:List aM): ∀i j,i<j→j<(msS l).length→mM (iR (msS l) j) (iR (msS l) i)=false:=by
 have h:=List.pairwise_mergeSort (le:=fun x y=> !mM y x) (fun a b c h k=>by
  simp only[cAz] at*;cases hq:mM c a with
  |false=>rfl
  |true=>rw[bPu hq h] at k;cases k) (fun a b=>by
  simp only[cEx,cAz];cases hq:mM b a with
  |false=>exact .inl rfl
  |true=>
   right;rw[← cDg,gN];rw[gN] at hq;omega) l
 intro i j hij hj;have:=cAn.1 h i j (by show i<(msS l).length;omega) hj hij;simp only[cAz] at this;simp only[iR,cFk,cEn hj,cEn (show i<(msS l).length by omega),bZy];exact this
def eK (l:List aM):List aM:=ddS (msS l) (msS l).length
theorem qK (l:List aM):Asc (eK l):=aHp (bEq l) _ (cCq _)
theorem jD (l:List aM) (x:aM):x∈eK l↔x∈l:=by
 unfold eK;rw[aIb,show x∈l↔x∈msS l from List.mem_mergeSort.symm];rw[cAo];constructor
 ·rintro ⟨k,hk,rfl⟩;exact ⟨k,hk,by simp[iR,cFk,hk]⟩
 rintro ⟨k,hk,rfl⟩;exact ⟨k,hk,by simp[iR,cFk,hk]⟩
def wW (out:List aM) (x:aM):Bool:=decide (out.length=0)||mM (iR out (out.length-1)) x
theorem bEu {out:List aM} {x:aM} (h:Asc out) (hx:wW out x=true): ∀y∈out,mM y x=true:=by
 intro y hy;obtain ⟨k,hk,rfl⟩:=cAo.1 hy;unfold wW at hx;rw[cEx,cFp] at hx;rcases hx with hx|hx
 ·omega
 have e:iR out (out.length-1)=out[out.length-1]'(by omega):=by simp[iR,cFk,show out.length-1<out.length by omega]
 rw[e] at hx;rcases cEs (show k≤out.length-1 by omega) with q|q
 ·exact wG (cAn.1 h k (out.length-1) hk aN q) hx
 subst q;exact hx
theorem aAw (out:List aM) (m x:aM):wW (out++[m]) x=mM m x:=by
 unfold wW;rw[cFs b7,cCl];congr 1;simp[iR,cFk]
structure zN (A out:List aM):Prop where
 asc:Asc out
 sub: ∀x∈out,x∈A
 rest: ∀x∈A,x∈out∨wW out x=true
theorem zN.nil (A:List aM):zN A []:=⟨List.Pairwise.nil,by simp,fun x _=>.inr rfl⟩
theorem zN.step {A out:List aM} {m:aM} (h:zN A out) (hm:m∈A) (hg:wW out m=true) (hl: ∀x∈A,wW out x=true→mM x m=false):zN A (out++[m]) where
 asc:=aMc h.asc (bEu h.asc hg)
 sub:=fun x hx=>by
  rcases cEh.1 hx with q|q
  ·exact h.sub x q
  rw[cBq.1 q];exact hm
 rest:=fun x hx=>by
  rcases h.rest x hx with q|q
  ·exact .inl (by simp[q])
  rw[aAw];cases hq:mM m x with
  |true=>exact .inr rfl
  |false=>exact .inl (by rw[aIx (hl x hx q) hq];simp)
theorem zN.fin {A out:List aM} (h:zN A out) (hn: ∀x∈A,wW out x=false):out=eK A:=
 pE h.asc (qK A) fun x=>by
  rw[jD];exact ⟨h.sub x,fun hx=>(h.rest x hx).resolve_right (by rw[hn x hx];simp)⟩
def aHe (A out:List aM):Nat:=(A.filter (wW out)).length
theorem bAt {A out:List aM} {m:aM} (hm:m∈A) (hg:wW out m=true):aHe A (out++[m])<aHe A out:=by
 have hsub: ∀x,wW (out++[m]) x=true→wW out x=true:=fun x hx=>by
  rw[aAw] at hx;unfold wW at*;rw[cEx] at*;rcases hg with q|q
  ·exact .inl q
  exact .inr (wG q hx)
 have hno:wW (out++[m]) m=false:=by rw[aAw];exact uO m
 unfold aHe;have key: ∀B:List aM,(B.filter (wW (out++[m]))).length≤(B.filter (wW out)).length:=fun B=>by
  induction B with
  |nil=>simp
  |cons b B ih=>
   rw[cFc,cFc];cases hq:wW (out++[m]) b with
   |true=>rw[hsub b hq];simpa using ih
   |false=>
    simp only[cEy,cFv];split
    ·simp;omega
    exact ih
 induction A with
 |nil=>cases hm
 |cons b B ih=>
  rw[cFc,cFc];rcases cDt.1 hm with e|e
  ·subst e;rw[hno,hg];have:=key B;simp;omega
  have:=ih e;cases hq:wW (out++[m]) b with
  |true=>rw[hsub b hq];simpa using this
  |false=>
   simp only[cEy,cFv];split
   ·simp;omega
   exact this
theorem bQg (A:List aM):([]:List aM).length+aHe A []≤A.length:=by
 have:(A.filter (wW [])).length≤A.length:=cCf _ _;unfold aHe;simpa using this
def g9 (r:bI):List aM:=r.fPoints++r.fOverPoints++r.fFlank
def aHg (A out:List aM) (i:Nat) (f:Int):Prop:=
 (f= -1∧ ∀k,k<i→wW out (iR A k)=false)∨ ∃m:Nat,f=(m:Int)∧m<i∧wW out (iR A m)=true∧ ∀k,k<i→wW out (iR A k)=true→mM (iR A k) (iR A m)=false
theorem bOm (A out:List aM):aHg A out 0 (-1):=.inl ⟨rfl,fun k hk=>absurd hk (cBg _)⟩
theorem aWm {A out:List aM} {i:Nat} {f:Int} (h:aHg A out i f) (hg:wW out (iR A i)=true) (hl:f<0∨mM (iR A i) (iR A f.toNat)=true):aHg A out (i+1) (i:Int):=by
 refine .inr ⟨i,rfl,by omega,hg,fun k hk hgk=>?_⟩;rcases cEs (cDn hk) with q|q
 ·rcases h with ⟨_,h⟩|⟨m,rfl,hm,hgm,h⟩
  ·rw[h k q] at hgk;cases hgk
  rcases hl with hl|hl
  ·omega
  simp only[cDe] at hl;cases hq:mM (iR A k) (iR A i) with
  |false=>rfl
  |true=>have:=h k q hgk;rw[wG hq hl] at this;cases this
 subst q;exact uO _
theorem aYz {A out:List aM} {i:Nat} {f:Int} (h:aHg A out i f) (hn:wW out (iR A i)=false∨(0≤f∧mM (iR A i) (iR A f.toNat)=false)):aHg A out (i+1) f:=by
 rcases h with ⟨rfl,h⟩|⟨m,rfl,hm,hgm,h⟩
 ·refine .inl ⟨rfl,fun k hk=>?_⟩;rcases cEs (cDn hk) with q|q
  ·exact h k q
  subst q;rcases hn with hn|hn
  ·exact hn
  omega
 refine .inr ⟨m,rfl,by omega,hgm,fun k hk hgk=>?_⟩;rcases cEs (cDn hk) with q|q
 ·exact h k q hgk
 subst q;rcases hn with hn|hn
 ·rw[hn] at hgk;cases hgk
 simpa using hn.2
theorem bFa {A out:List aM} {i:Nat} {f:Int} (h:aHg A out i f):f= -1∨(0≤f∧f.toNat<i):=by
 rcases h with ⟨rfl,_⟩|⟨m,rfl,hm,_⟩
 ·exact .inl rfl
 exact .inr ⟨by omega,by omega⟩
theorem bFq {A:List aM} {k:Nat} (h:k<A.length):iR A k∈A:=by simp[iR,cFk,h]
theorem aSs {A:List aM} {x:aM} (h:x∈A): ∃k,k<A.length∧iR A k=x:=by
 obtain ⟨k,hk,rfl⟩:=cAo.1 h;exact ⟨k,hk,by simp[iR,cFk,hk]⟩
theorem aLt {A out:List aM} {f:Int} (h:aHg A out A.length f) (hf:f<0) (hs:zN A out):out=eK A:=by
 rcases h with ⟨_,h⟩|⟨m,rfl,hm,_⟩
 ·exact hs.fin fun x hx=>by obtain ⟨k,hk,rfl⟩:=aSs hx;exact h k hk
 omega
theorem aRj {A out:List aM} {f:Int} (h:aHg A out A.length f) (hf: ¬f<0) (hs:zN A out):iR A f.toNat∈A∧zN A (out++[iR A f.toNat])∧aHe A (out++[iR A f.toNat])<aHe A out:=by
 rcases h with ⟨rfl,_⟩|⟨m,rfl,hm,hg,h⟩
 ·omega
 simp only[cDe];have hmem:=bFq hm;exact ⟨hmem,hs.step hmem hg fun x hx hgx=>(by obtain ⟨k,hk,rfl⟩:=aSs hx;exact h k hk hgx),bAt hmem hg⟩
theorem nI (O:aV) (a b:aM):bB Tryz.prog O 200 [.agg (bJ a),.agg (bJ b)] (vb (mM a b)):=by
 refine dD Tryz.func200 ?_;refine aB [0,1] ?_;refine aB [2,3] ?_;refine aG (bU 4 (xb ?_))
 (rw[cBk,gN];simp)
section
attribute [local go_sem] cBn
theorem wC (O:aV) (r:bI) (hb:(g9 r).length≤240):bB Tryz.prog O 123 [.agg (bR r)] (mF (eK (g9 r))):=by
 have hb':r.fPoints.length+r.fOverPoints.length+r.fFlank.length≤240:=by simp only[g9,cAb] at hb;omega
 refine aW 0 rfl (.agg (d:=mF r.fPoints) (by simp[bR]) (.sl _ _ _)) fun h1=>?_;refine aW 0 rfl (.agg (d:=mF r.fOverPoints) (by simp[bR]) (.sl _ _ _)) fun h2=>?_;refine aW 0 rfl (.agg (d:=mF r.fFlank) (by simp[bR]) (.sl _ _ _)) fun h3=>?_;refine dD Tryz.func123 ?_;refine aA fun _ Z0=>aU [0] aZ ?_;simp (disch:=omega) only[go_sem,seval,← cAl]
 repeat refine bZh bM ?_
 refine Z0 _ (aA fun _ Z1=>aU [1] aZ ?_);simp (disch:=omega) only[go_sem,seval,← cAl]
 repeat refine bZh bM ?_
 refine Z1 _ (aA fun _ Z2=>dF 3 131 2 bJ rfl rfl ?_);refine dF 4 131 2 bJ rfl rfl ?_;refine aU [1,3,4] aZ ?_;simp (disch:=omega) only[go_sem,seval,← cAl]
 repeat refine bZh bM ?_
 refine Z2 _ (aA fun _ Z3=>aU [1,3,4] aZ ?_);simp (disch:=omega) only[go_sem,seval,← cAl]
 repeat refine bZh bM ?_
 refine Z3 _ (aA fun _ Z4=>aU [1,3,4] aZ ?_);simp (disch:=omega) only[go_sem,seval,← cAl]
 repeat refine bZh bM ?_
 refine Z4 _ (aD ?_);refine cB (e:=bJ) 3 (g9 r) rfl (by rw[g9,cAl,cAl];rfl) ?_;refine aT [3,4] (fun n ρ=> ∃out,n=aHe (g9 r) out∧(zN (g9 r) out)∧(out.length+aHe (g9 r) out≤(g9 r).length)∧ρ=cO O [(3,mF (g9 r)),(4,rowL 131 2 bJ out)]) _ ⟨[],rfl,?_,?_,?_⟩ ?_
 ·exact zN.nil _
 ·exact bQg _
 ·simp (disch:=omega) only[go_sem,seval,← cAl]<;>first|rfl|omega|simp|simp_all
 rintro n ρ ⟨out,rfl,l0_0,l0_1,rfl⟩ _ Z5;refine aD (aA fun _ Z6=>aU [3,4] aZ ?_);simp (disch:=omega) only[go_sem,seval,← cAl]
 repeat refine bZh bM ?_
 refine Z6 _ (aA fun _ Z7=>aA fun _ Z8=>aU [3,4,5] aZ ?_);simp (disch:=omega) only[go_sem,seval,← cAl]
 repeat refine bZh bM ?_
 refine Z8 _ (aD (aT [3,4,5,20,21,22] (fun n ρ=> ∃i,∃f,n=(g9 r).length-i∧(i≤(g9 r).length)∧(aHg (g9 r) out i f)∧ρ=cO O [(3,mF (g9 r)),(4,rowL 131 2 bJ out),(5,vi f),(20,mF (g9 r)),(21,vi ((g9 r).length:Nat)),(22,vi (i:Nat))]) _ ⟨0,-1,rfl,?_,?_,?_⟩ ?_))
 ·exact bE
 ·exact bOm _ _
 ·simp (disch:=omega) only[go_sem,seval,← cAl]<;>first|rfl|omega|simp|simp_all
 rintro n ρ ⟨i,f,rfl,l1_0,l1_1,rfl⟩ _ Z9;have hbd:=bFa l1_1;have hz0:(out=[]∧(out.length==0)=true)∨(0<out.length∧(out.length==0)=false):=(by cases out<;>simp);rcases hz0 with ⟨h0,hz⟩|⟨h0,hz⟩
 ·skip
  refine aA fun _ Z10=>aU [3,4,5,20,21,22] aZ ?_;simp (disch:=omega) only[go_sem,seval,← cAl,hz]
  repeat refine bZh bM ?_
  refine Z10 _ (aA fun _ Z11=>aL (fun c0=>?_) fun c0=>?_)
  ·refine aC (Z11 _ (aA fun _ Z12=>aD (aA fun _ Z13=>aU [3,4,5,20,21,22] aZ ?_)));simp (disch:=omega) only[go_sem,seval,← cAl,hz]
   repeat refine bZh bM ?_
   refine Z13 _ (aA fun _ Z14=>eC [3,4,5,6,7,20,21,22] [] eG aZ ?_);simp (disch:=omega) only[go_sem,seval,← cAl,hz]
   repeat refine bZh bM ?_
   refine jC (r:=vb true) (fun g0=>by simp at g0) ?_ ?_ ?_
   ·simp
   ·rfl
   try simp (disch:=omega) only[go_sem,seval,← cAl,hz]
   repeat refine bZh bM ?_
   refine jC (fun g1=>nI _ (iR (g9 r) i) (iR (g9 r) f.toNat)) ?_ ?_ ?_
   ·first|exact fun _=>trivial|simp
   ·rfl
   try simp (disch:=omega) only[go_sem,seval,← cAl,hz]
   repeat refine bZh bM ?_
   refine Z14 _ (aL (fun c1=>?_) fun c1=>?_)
   ·refine aU [3,4,6,20,21,22] aZ ?_;simp (disch:=omega) only[go_sem,seval,← cAl,hz]
    repeat refine bZh bM ?_
    refine Z12 _ (aU [3,4,5,20,21,22] aZ ?_);simp (disch:=omega) only[go_sem,seval,← cAl,hz]
    repeat refine bZh bM ?_
    refine Z9 _ _ bE ⟨i+1,(i:Int),rfl,bE,?_,?_⟩
    ·exact aWm l1_1 (by unfold wW;rw[h0];rfl) (by simpa[iR] using c1)
    simp (disch:=omega) only[go_sem,seval,← cAl,hz]<;>first|rfl|omega|simp|simp_all
   refine aC (Z12 _ (aU [3,4,5,20,21,22] aZ ?_));simp (disch:=omega) only[go_sem,seval,← cAl,hz]
   repeat refine bZh bM ?_
   refine Z9 _ _ bE ⟨i+1,f,rfl,bE,?_,?_⟩
   ·refine aYz l1_1 (.inr ?_);simpa[iR] using c1
   simp (disch:=omega) only[go_sem,seval,← cAl,hz]<;>first|rfl|omega|simp|simp_all
  have hie:i=(g9 r).length:=by omega
  subst hie;refine aY (Z7 _ (aA fun _ Z15=>aA fun _ Z16=>aU [3,4,5] aZ ?_));simp (disch:=omega) only[go_sem,seval,← cAl,hz]
  repeat refine bZh bM ?_
  refine Z16 _ (aL (fun c2=>?_) fun c2=>?_)
  ·refine aA fun _ Z17=>cB 4 out rfl rfl ?_;refine aU [4] aZ ?_;simp (disch:=omega) only[go_sem,seval,← cAl,hz]
   repeat refine bZh bM ?_
   refine Z17 _ (aG (d5 2 rfl (by simp (disch:=omega) only[go_sem,seval,← cAl,hz]) ?_));exact cG.encL rfl (by exact aLt l1_1 c2 l0_0)
  refine aC (Z15 _ (aU [3,4,5] aZ ?_));simp (disch:=omega) only[go_sem,seval,← cAl,hz]
  repeat refine bZh bM ?_
  obtain ⟨hm,hst,hlt⟩:=aRj l1_1 (bZu.2 c2) l0_0;refine Z5 _ _ ?_ ⟨out++[iR (g9 r) f.toNat],rfl,?_,?_,?_⟩
  ·exact hlt
  ·exact hst
  ·rw[cAb,bZp];omega
  simp (disch:=omega) only[go_sem,seval,← cAl,hz]<;>first|rfl|omega|simp|simp_all
 skip
 refine aA fun _ Z18=>aU [3,4,5,20,21,22] aZ ?_;simp (disch:=omega) only[go_sem,seval,← cAl,hz]
 repeat refine bZh bM ?_
 refine Z18 _ (aA fun _ Z19=>aL (fun c3=>?_) fun c3=>?_)
 ·refine aC (Z19 _ (aA fun _ Z20=>aD (aA fun _ Z21=>aU [3,4,5,20,21,22] aZ ?_)));simp (disch:=omega) only[go_sem,seval,← cAl,hz]
  repeat refine bZh bM ?_
  refine Z21 _ (aA fun _ Z22=>eC [3,4,5,6,7,20,21,22] [] eG aZ ?_);simp (disch:=omega) only[go_sem,seval,← cAl,hz]
  repeat refine bZh bM ?_
  refine jC (fun g2=>nI _ (iR out (out.length-1)) (iR (g9 r) i)) ?_ ?_ ?_
  ·first|exact fun _=>trivial|simp
  ·rfl
  try simp (disch:=omega) only[go_sem,seval,← cAl,hz]
  repeat refine bZh bM ?_
  refine jC (fun g3=>nI _ (iR (g9 r) i) (iR (g9 r) f.toNat)) ?_ ?_ ?_
  ·first|exact fun _=>trivial|simp
  ·rfl
  try simp (disch:=omega) only[go_sem,seval,← cAl,hz]
  repeat refine bZh bM ?_
  refine Z22 _ (aL (fun c4=>?_) fun c4=>?_)
  ·refine aU [3,4,6,20,21,22] aZ ?_;simp (disch:=omega) only[go_sem,seval,← cAl,hz]
   repeat refine bZh bM ?_
   refine Z20 _ (aU [3,4,5,20,21,22] aZ ?_);simp (disch:=omega) only[go_sem,seval,← cAl,hz]
   repeat refine bZh bM ?_
   refine Z9 _ _ bE ⟨i+1,(i:Int),rfl,bE,?_,?_⟩
   ·refine aWm l1_1 (by unfold wW;simp[iR] at c4 ⊢;exact .inr c4.1) (by simp[iR] at c4 ⊢;exact c4.2)
   simp (disch:=omega) only[go_sem,seval,← cAl,hz]<;>first|rfl|omega|simp|simp_all
  refine aC (Z20 _ (aU [3,4,5,20,21,22] aZ ?_));simp (disch:=omega) only[go_sem,seval,← cAl,hz]
  repeat refine bZh bM ?_
  refine Z9 _ _ bE ⟨i+1,f,rfl,bE,?_,?_⟩
  ·refine aYz l1_1 ?_;unfold wW;simp[iR] at c4 ⊢;grind
  simp (disch:=omega) only[go_sem,seval,← cAl,hz]<;>first|rfl|omega|simp|simp_all
 have hie:i=(g9 r).length:=by omega
 subst hie;refine aY (Z7 _ (aA fun _ Z23=>aA fun _ Z24=>aU [3,4,5] aZ ?_));simp (disch:=omega) only[go_sem,seval,← cAl,hz]
 repeat refine bZh bM ?_
 refine Z24 _ (aL (fun c5=>?_) fun c5=>?_)
 ·refine aA fun _ Z25=>cB 4 out rfl rfl ?_;refine aU [4] aZ ?_;simp (disch:=omega) only[go_sem,seval,← cAl,hz]
  repeat refine bZh bM ?_
  refine Z25 _ (aG (d5 2 rfl (by simp (disch:=omega) only[go_sem,seval,← cAl,hz]) ?_));exact cG.encL rfl (by exact aLt l1_1 c5 l0_0)
 refine aC (Z23 _ (aU [3,4,5] aZ ?_));simp (disch:=omega) only[go_sem,seval,← cAl,hz]
 repeat refine bZh bM ?_
 obtain ⟨hm,hst,hlt⟩:=aRj l1_1 (bZu.2 c5) l0_0;refine Z5 _ _ ?_ ⟨out++[iR (g9 r) f.toNat],rfl,?_,?_,?_⟩
 ·exact hlt
 ·exact hst
 ·rw[cAb,bZp];omega
 simp (disch:=omega) only[go_sem,seval,← cAl,hz]<;>first|rfl|omega|simp|simp_all
end
def kS (q:List aM) (s:aM):Nat:=(q.takeWhile fun x=>mM x s).length
def aEw (q:List aM) (s:aM):List aM:=q.take (kS q s)++(if kS q s=q.length∨iR q (kS q s)≠s then [s] else [])++q.drop (kS q s)
theorem bKv {f:aM→Bool}: ∀{q:List aM} {i:Nat},iF f q i→i≤q.length→(i=q.length∨f (q.getD i default)=false)→(q.takeWhile f).length=i
 | [],i,_,h,_=>by simp at h;simp[h]
 |a::q,0,_,_,h=>by
  rcases h with h|h
  ·simp at h
  rw[cCs];simp at h;rw[h];rfl
 |a::q,i+1,ha,hl,h=>by
  have h0:f a=true:=ha 0 aN;rw[cCs,h0,if_pos rfl,cDx];congr 1;exact bKv (fun j hj=>ha (j+1) aN) (by simpa using hl) (by simpa using h)
theorem bLv (q:List aM) (s:aM): ∀x∈q.take (kS q s),mM x s=true:=by
 unfold kS
 induction q with
 |nil=>simp
 |cons a q ih=>
  rw[cCs];cases h:mM a s with
  |false=>simp
  |true=>
   rw[if_pos rfl,cDx,cDc];intro x hx;rcases cDt.1 hx with rfl|hx
   ·exact h
   exact ih x hx
theorem bUr (q:List aM) (s:aM):kS q s=q.length∨mM (iR q (kS q s)) s=false:=by
 unfold kS iR
 induction q with
 |nil=>left;rfl
 |cons a q ih=>
  rw[cCs];cases h:mM a s with
  |false=>right;simpa using h
  |true=>
   rw[if_pos rfl,cDx,cDx];rcases ih with ih|ih
   ·left;rw[ih]
   right;simpa using ih
theorem bJu (q:List aM) (s:aM):kS q s≤q.length:=by unfold kS;exact (List.takeWhile_sublist _).length_le
theorem bIe (q:List aM) (s x:aM):x∈aEw q s↔x∈q∨x=s:=by
 have hm: ∀x,x∈q↔x∈q.take (kS q s)∨x∈q.drop (kS q s):=fun x=>by
  rw[← cEh,cCo]
 unfold aEw;rw[cEh,cEh,hm x];split
 ·simp only[cBq];constructor
  ·rintro ((h|h)|h)
   ·exact .inl (.inl h)
   ·exact .inr h
   exact .inl (.inr h)
  rintro ((h|h)|h)
  ·exact .inl (.inl h)
  ·exact .inr h
  exact .inl (.inr h)
 rename_i hc;simp only[not_or,cBo] at hc;have hlt:kS q s<q.length:=Nat.lt_of_le_of_ne (bJu q s) hc.1;simp only[cDp,or_false];constructor
 ·exact fun h=>.inl h
 rintro (h|h)
 ·exact h
 right;rw[bK default hlt,h];exact cDt.2 (.inl hc.2.symm)
theorem bGs {q:List aM} (h:Asc q) (s:aM):Asc (aEw q s):=by
 have hq:Asc (q.take (kS q s)++q.drop (kS q s)):=by rw[cCo];exact h
 unfold aEw;split
 ·rename_i hc;unfold Asc at hq ⊢;rw[cDa] at hq;have hd: ∀y∈q.drop (kS q s),mM s y=true:=fun y hy=>by
   by_cases hl:kS q s=q.length
   ·rw[cDf aN] at hy;cases hy
   have hlt:kS q s<q.length:=Nat.lt_of_le_of_ne (bJu q s) hl;have h1:=(bUr q s).resolve_left hl;have h2:=hc.resolve_left hl;have h3:mM s (iR q (kS q s))=true:=by
    cases hx:mM s (iR q (kS q s)) with
    |true=>rfl
    |false=>exact absurd (aIx h1 hx) h2
   have hp:=hq.2.1;rw[bK default hlt] at hy hp;rcases cDt.1 hy with rfl|hy
   ·exact h3
   exact wG h3 ((cBi.1 hp).1 y hy)
  rw[cFe,cDa];refine ⟨hq.1,?_,fun a ha b hb=>?_⟩
  ·rw[List.singleton_append,cBi];exact ⟨hd,hq.2.1⟩
  rcases cEh.1 hb with hb|hb
  ·rw[cBq.1 hb];exact bLv q s a ha
  exact hq.2.2 a ha b hb
 rw[cEw];exact hq
theorem bHu (a:List aM) (s:aM):aEw (eK a) s=eK (a++[s]):=
 pE (bGs (qK a) s) (qK _) fun x=>by
  rw[bIe,jD,jD,cEh,cBq]
theorem aBw (O:aV) (q:List aM) (s:aM) (hb:q.length≤1000):bB Tryz.prog O 191 [dJ q,.agg (bJ s)] (aNu (aEw q s)):=by
 refine aW 0 rfl (.sl _ _ _) fun hql=>?_;refine dD Tryz.func191 ?_;refine aB [0,1] ?_;refine aB [0,3] ?_;refine aB [0,3,5] ?_;refine aA fun _ Z3=>aD (dF 5 131 2 bJ rfl rfl ?_);refine aT [0,3,5,6] (fun n ρ=> ∃i,n=q.length-i∧(i≤q.length)∧(iF (fun x=>mM x s) q i)∧ρ=cO O [(0,dJ q),(3,.bx (bJ s)),(5,aNu (q.take i)),(6,vi (i:Nat))]) _ ⟨0,rfl,?_,?_,?_⟩ ?_
 ·exact bE
 ·exact fZ _ _
 ·exact b9
 rintro n ρ ⟨i,rfl,l0_0,l0_1,rfl⟩ _ Z4;refine aA fun _ Z5=>aA fun _ Z6=>dE [0,3,5,6] [] ?_;refine Z6 _ (aL (fun c0=>?_) fun c0=>?_)
 ·have hcc:i<q.length∧((q.getD i default).fEl<s.fEl∨(q.getD i default).fEl=s.fEl∧(q.getD i default).fPos<s.fPos):=(by simpa using c0);have hil:=hcc.1;refine aC (Z5 _ (aD (aB [0,3,5,6] ?_)));refine bA [0,3,5,6] ?_;refine Z4 _ _ bE ⟨i+1,rfl,bE,?_,?_⟩
  ·exact gA l0_1 (gN.2 hcc.2)
  simp (disch:=omega) only[go_sem,seval]<;>(rw[d9 default hil,cAl];rfl)
 have hcc: ¬(i<q.length∧((q.getD i default).fEl<s.fEl∨(q.getD i default).fEl=s.fEl∧(q.getD i default).fPos<s.fPos)):=(by have c9:q.length≤i∨s.fEl≤(q.getD i default).fEl∧(¬(q.getD i default).fEl=s.fEl∨s.fPos≤(q.getD i default).fPos):=(by simpa using c0);rintro ⟨h1,h2⟩;omega);have hk:kS q s=i:=bKv l0_1 l0_0 (by rcases cBd i q.length with h|h;right;rw[← cDg,gN];exact fun h2=>hcc ⟨h,h2⟩;left;omega);refine aY (Z3 _ (aA fun _ Z8=>aA fun _ Z9=>dE [0,3,5,6] [] ?_));refine Z9 _ (aL (fun c1=>?_) fun c1=>?_)
 ·have hc1:i=q.length∨iR q i≠s:=(by have c9:i=q.length∨ ¬(q.getD i default).fEl=s.fEl∨ ¬(q.getD i default).fPos=s.fPos:=(by simpa using c1);rcases c9 with h|h|h;exact .inl h;exact .inr (fun e=>h (by rw[← e]));exact .inr (fun e=>h (by rw[← e])));have hins:q.take i++[s]++q.drop i=aEw q s:=(by unfold aEw;rw[hk,if_pos hc1]);refine bA [0,3,5,6] ?_;refine Z8 _ (aA fun _ Z10=>aU [0,5,6] aZ ?_);simp (disch:=omega) only[go_sem,seval]
  repeat refine bZh (by first|exact rfl|exact trivial|exact cCq _|(simp only[cCw,cAr,cAb,bZp,cEv,cCz];omega)|exact bM) ?_
  refine Z10 _ (aA fun _ Z11=>?_);rw[aPj (l:=q.drop i) (e:=bJ) b7 (fun j hj=>by rw[aGn];rfl),← cAl,hins];refine bA [5] ?_;refine Z11 _ (aG (bU 4 ?_));exact cG.ownL rfl aN rfl rfl (by rfl)
 have hc1: ¬(i=q.length∨iR q i≠s):=(by have c9: ¬i=q.length∧(q.getD i default).fEl=s.fEl∧(q.getD i default).fPos=s.fPos:=(by simpa using c1);rintro (h|h);exact c9.1 h;exact h ((gO _ _).2 c9.2));have hins:q.take i++q.drop i=aEw q s:=(by unfold aEw;rw[hk,if_neg hc1,cEw]);refine aC (Z8 _ (aA fun _ Z12=>aU [0,5,6] aZ ?_));simp (disch:=omega) only[go_sem,seval]
 repeat refine bZh (by first|exact rfl|exact trivial|exact cCq _|(simp only[cCw,cAr,cAb,bZp,cEv,cCz];omega)|exact bM) ?_
 refine Z12 _ (aA fun _ Z13=>?_);rw[aPj (l:=q.drop i) (e:=bJ) b7 (fun j hj=>by rw[aGn];rfl),← cAl,hins];refine bA [5] ?_;refine Z13 _ (aG (bU 4 ?_));exact cG.ownL rfl aN rfl rfl (by rfl)
def aVa (l:aE) (s:bF):List aM:=if (jI l s).2=true∧(eP l s.fEl.toNat).fKind=2 then [⟨s.fEl,(jI l s).1⟩] else []
def zD (l:aE) (q:List bF):List aM:=q.flatMap (aVa l)
def pV (l:aE) (q:List bF):List aM:=eK (zD l q)
theorem aXw (l:aE) {q:List bF} {i:Nat} (h:i<q.length):zD l (q.take (i+1))=zD l (q.take i)++aVa l (q.getD i default):=by
 rw[d9 default h];unfold zD;rw[cAk];simp
theorem aXq (l:aE) (s:bF):(aVa l s).length≤1:=by unfold aVa;split<;>simp
theorem aDu (l:aE) (q:List bF):(zD l q).length≤q.length:=by
 unfold zD
 induction q with
 |nil=>simp
 |cons a q ih=>rw[cAj,cAb,cDx];have:=aXq l a;omega
theorem aPz {l:aE} {s:bF} (h:(jI l s).2=true):0≤s.fEl∧s.fEl<(l.fElements.length:Int):=by
 cases he:pQ l s.fEl with
 |true=>exact iI.1 he
 |false=>rw[aJf he] at h;cases h
theorem aNl {l:aE} {s:bF} (h:(jI l s).2=true):(jI l s).1≠0↔(eP l s.fEl.toNat).fKind=2:=by
 have he:=iI.2 (aPz h);rw[aAp he] at h ⊢;generalize (eP l s.fEl.toNat).fKind=k at*;unfold cS at h ⊢;split
 ·simp;omega
 rename_i hk;rw[if_neg hk] at h;split
 ·rename_i h2;simp[h2.1]
 rename_i hk2;rw[if_neg hk2] at h;split
 ·rename_i h2;simp[h2.1]
 rename_i hk3;rw[if_neg hk3] at h;cases h
theorem z7 (a:List aM):(eK a).length≤a.length:=by
 unfold eK;have:=aIr (msS a) (msS a).length;rw[aIk] at this ⊢;exact this
theorem aMw (l:aE):eK (zD l [])=[]:=by
 have:=z7 (zD l []);exact cEj (Nat.le_zero.1 (by simpa[zD] using this))
theorem jE (O:aV) (l:aE) (q:List bF) (hl:hM l) (hq:q.length≤100):bB Tryz.prog O 115 [.agg (aQ l),cA q] (dJ (pV l q)):=by
 have hl1:=hl.sec;have hl2:=hl.el;have hl3:=hl.jo;have hl4:=hl.sg;have hl5:=hl.bl;refine aW 0 rfl (.agg (d:=lD l.fElements) (by simp[aQ]) (.sl _ _ _)) fun he=>?_;refine aW 1 rfl (.sl _ _ _) fun hql=>?_;refine dD Tryz.func115 ?_;refine aB [0,1] ?_;refine aB [1,2] ?_;refine aA fun _ Z2=>aB [1,2,5] ?_;refine aD (kC 5 2 bJ rfl rfl ?_);refine aT [1,2,5,6] (fun n ρ=> ∃i,n=q.length-i∧(i≤q.length)∧ρ=cO O [(1,cA q),(2,.bx (aQ l)),(5,dJ (eK (zD l (q.take i)))),(6,vi (i:Nat))]) _ ⟨0,rfl,?_,?_⟩ ?_
 ·exact bE
 ·simp (disch:=omega) only[go_sem,seval]<;>(rw[aMw l];rfl)
 rintro n ρ ⟨i,rfl,l0_0,rfl⟩ _ Z4;have hrl:=aDu l (q.take i);have hrl2:=cBr i q;have hrl3:=aDu l q;have hsl:=z7 (zD l (q.take i));refine aA fun _ Z5=>aB [1,2,5,6] ?_;refine aL (fun c0=>?_) fun c0=>?_
 ·refine aC (Z5 _ (aA fun _ Z7=>aD (aA fun _ Z8=>dE [1,2,5,6] [] ?_)));refine w4 (sX _ l (q.getD i default) hl) ?_;refine Z8 _ (aB [1,2,5,6,7,8] ?_);refine aL (fun c1=>?_) fun c1=>?_
  ·have hcc:(jI l (q.getD i default)).2=true∧ ¬(jI l (q.getD i default)).1=0:=(by simpa using c1);have hcd:=bZh hcc.1 ((aNl hcc.1).1 hcc.2);refine bL [1,2,5,6,7] ?_;refine fF (uD (aBw _ (eK (zD l (q.take i))) ⟨(q.getD i default).fEl,(jI l (q.getD i default)).1⟩ aN)) ?_;refine Z7 _ (bA [1,2,5,6] ?_);refine Z4 _ _ bE ⟨i+1,rfl,bE,?_⟩;simp (disch:=omega) only[go_sem,seval]<;>(rw[aXw l c0,aVa,if_pos hcd,← bHu];rfl)
  have hcc: ¬((jI l (q.getD i default)).2=true∧(eP l (q.getD i default).fEl.toNat).fKind=2):=(by have c9:(jI l (q.getD i default)).2=false∨(jI l (q.getD i default)).1=0:=(by simpa using c1);rintro ⟨h1,h2⟩;have h3:=(aNl h1).2 h2;rcases c9 with h|h;rw[h1] at h;cases h;exact h3 h);refine aC (Z7 _ (bA [1,2,5,6] ?_));refine Z4 _ _ bE ⟨i+1,rfl,bE,?_⟩;simp (disch:=omega) only[go_sem,seval]<;>(rw[aXw l c0,aVa,if_neg hcc,cEw];rfl)
 refine aY (Z2 _ (aB [5] ?_));refine aG (bU 4 ?_);exact cG.encL rfl (by (rw[cCi c0];rfl))
def m8 (l:aE) (r:bI):hZ×Bool:=if r.fExit<0∨(l.fSignals.length:Int)≤r.fExit then (default,false) else (l.fSignals.getD r.fExit.toNat default,true)
theorem bJp {l:aE} {r:bI} (h:r.fExit<0∨(l.fSignals.length:Int)≤r.fExit):m8 l r=(default,false):=by unfold m8;rw[if_pos h]
theorem bKg {l:aE} {r:bI} (h: ¬(r.fExit<0∨(l.fSignals.length:Int)≤r.fExit)):m8 l r=(l.fSignals.getD r.fExit.toNat default,true):=by unfold m8;rw[if_neg h]
def gC (l:aE) (s:bF):Int:=sL l ⟨s.fEl,s.fOut⟩
def nmT (l:aE) (a b:Int):ByteArray:=if b<0 then (l.fSignals.getD a.toNat default).fName++⟨#[45,101,110,100]⟩ else (l.fSignals.getD a.toNat default).fName++⟨#[45]⟩++(l.fSignals.getD b.toNat default).fName
theorem bJl {n k:Nat} (h:n≤1000) (hk:k≤10):n+k≤maxLen:=by unfold maxLen;omega
theorem bMt {n k m:Nat} (h:n≤1000) (hk:k≤10) (hm:m≤1000):n+k+m≤maxLen:=by unfold maxLen;omega
def sT (l:aE) (s:bF):Bool:=decide (0≤gC l s)|| !(cR l s).2
theorem aEz (O:aV) (l:aE) (r:bI):bB Tryz.prog O 110 [.agg (aQ l),.agg (bR r)] (.tup [.agg (fC (m8 l r).1),vb (m8 l r).2]):=by
 refine aW 0 rfl (.agg (d:=mW l.fSignals) (by simp[aQ]) (.sl _ _ _)) fun hsl=>?_;refine dD Tryz.func110 ?_;refine aB [0,1] ?_;refine aA fun _ Z1=>aB [2,3,4] ?_;refine aL (fun c0=>?_) fun c0=>?_
 ·refine aB [4] ?_;refine aG (yJ (.cons ?_ (.cons ?_ .nil)))
  ·exact roC (by simp (disch:=omega) only[go_sem,seval]<;>rfl) (by simp (disch:=omega) only[go_sem,seval]<;>((rw[bJp c0];try rfl))) aZ (by first|rfl|(simp (disch:=omega) only[go_sem,seval]))
  exact kD (by simp (disch:=omega) only[go_sem,seval]<;>((rw[bJp c0];try rfl))) rfl rfl
 refine aC (Z1 _ (aB [2,3,4] ?_));refine aG (yJ (.cons ?_ (.cons ?_ .nil)))
 ·exact roC (by simp (disch:=omega) only[go_sem,seval]<;>rfl) (by simp (disch:=omega) only[go_sem,seval]<;>((rw[bKg aN]))) aZ (by first|rfl|(simp (disch:=omega) only[go_sem,seval]))
 exact kD (by simp (disch:=omega) only[go_sem,seval]<;>((rw[bKg aN]))) rfl rfl
theorem nD (O:aV) (l:aE) (s:bF):bB Tryz.prog O 179 [.agg (aQ l),.agg (cM s)] (.tup [vi (gC l s),vb (sT l s)]):=by
 refine aW 0 rfl (.agg (d:=mW l.fSignals) (by simp[aQ]) (.sl _ _ _)) fun hsl=>?_;refine dD Tryz.func179 ?_;refine aB [0,1] ?_;refine aA fun _ Z1=>bL [2,3] ?_;refine fF (pL _ l ⟨s.fEl,s.fOut⟩) ?_;refine Z1 _ (aA fun _ Z2=>bL [2,3,6] ?_);refine fF (kB _ l s) ?_;refine Z2 _ (aB [6,8] ?_);refine aG (yJ (.cons ?_ (.cons ?_ .nil)))
 ·exact kD (by simp (disch:=omega) only[go_sem,seval]<;>(rfl)) rfl rfl
 exact kD (by simp (disch:=omega) only[go_sem,seval]<;>(rfl)) rfl rfl
theorem m7 (O:aV) (l:aE) (a b:Int) (ha:0≤a∧a<(l.fSignals.length:Int)) (hb:b<(l.fSignals.length:Int)) (hs: ∀i,i<l.fSignals.length→(l.fSignals.getD i default).fName.size≤1000):bB Tryz.prog O 180 [.agg (aQ l),vi a,vi b] (vs (nmT l a b)):=by
 refine aW 0 rfl (.agg (d:=mW l.fSignals) (by simp[aQ]) (.sl _ _ _)) fun hsl=>?_;refine dD Tryz.func180 ?_;refine aB [0,1,2] ?_;refine aA fun _ Z1=>aB [1,2,3] ?_;refine aL (fun c0=>?_) fun c0=>?_
 ·refine aA fun _ Z3=>aU [1,3] aZ ?_;simp (disch:=omega) only[go_sem,seval]
  repeat refine bZh (by first|exact bJl (hs _ aN) gS|exact bM) ?_
  refine Z3 _ (aG (bU 6 ?_));exact cG.is (by simp (disch:=omega) only[go_sem,seval]<;>((unfold nmT;rw[if_pos c0]))) rfl rfl
 refine aC (Z1 _ (aA fun _ Z4=>eC [1,2,3] [(6,29)] eG aZ ?_));simp (disch:=omega) only[go_sem,seval]
 repeat refine bZh (by first|exact bJl (hs _ aN) gS|exact bMt (hs _ aN) gS (hs _ aN)|exact bM) ?_
 refine Z4 _ (aG (bU 6 ?_));exact cG.is (by simp (disch:=omega) only[go_sem,seval]<;>((unfold nmT;rw[if_neg aN]))) rfl rfl
abbrev lsN (q:List bF):bF:=q.getD (q.length-1) default
def goP (l:aE):Nat→cP→List bF→List (List bF)
 |0,_,_=>[]
 |n+1,a,q=>if q.length=12∨vK l q a.fEl=false then [] else (e7 l a).flatMap fun s=>if sT l s=true then [q++[s]] else goP l n (cR l s).1 (q++[s])
def srP (l:aE) (f:cP):Nat→cP→List bF→List (List bF)
 |0,_,_=>[]
 |n+1,a,q=>(e7 l a).flatMap fun s=>if uC l f (q++[s])=true then (if sT l s=true then [q++[s]] else srP l f n (cR l s).1 (q++[s])) else []
theorem aGs: ∀{L:List Pas} {k i:Int} {p:Pas},p∈L→p.k=k→p.i=i→(lY L k i p.o).2=true
 | [],_,_,_,h,_,_=>by cases h
 |x::L,k,i,p,h,hk,hi=>by
  unfold lY;split
  ·rfl
  rename_i hn;rcases cDt.1 h with rfl|h
  ·exact absurd ⟨hk,hi,rfl⟩ hn
  exact aGs h hk hi
theorem aVm {k i o:Int} (h:o∈dK k i):(cS k i o).2=true:=by
 unfold dK yU at h;obtain ⟨p,hp,rfl⟩:=cAy.1 h;rw[cFh] at hp;have:=cFq hp.2;rw[← uI];exact aGs hp.1 this.1 this.2
theorem z8 {l:aE} {a:cP} {s:bF} (h:s∈e7 l a):s.fEl=a.fEl∧s.fIn=a.fSide∧(jI l s).2=true∧pQ l a.fEl=true:=by
 cases he:pQ l a.fEl with
 |false=>rw[bDb he] at h;cases h
 |true=>
  rw[bAx he] at h;obtain ⟨o,ho,rfl⟩:=cAy.1 h;refine ⟨rfl,rfl,?_,rfl⟩;rw[aAp he];exact aVm ho
theorem aZg (k i:Int):(dK k i).length≤2:=by
 unfold dK yU;rw[cAr];have hk:k=1∨k=2∨k=3∨(k≠1∧k≠2∧k≠3):=by omega
 have hi:i=0∨i=1∨i=2∨i=3∨(i≠0∧i≠1∧i≠2∧i≠3):=by omega
 rcases hk with rfl|rfl|rfl|⟨h1,h2,h3⟩
 ·rcases hi with rfl|rfl|rfl|rfl|⟨q0,q1,q2,q3⟩<;>first|decide|(simp[qX,cFc,bZv q0,bZv q1,bZv q2,bZv q3])
 ·rcases hi with rfl|rfl|rfl|rfl|⟨q0,q1,q2,q3⟩<;>first|decide|(simp[qX,cFc,bZv q0,bZv q1,bZv q2,bZv q3])
 ·rcases hi with rfl|rfl|rfl|rfl|⟨q0,q1,q2,q3⟩<;>first|decide|(simp[qX,cFc,bZv q0,bZv q1,bZv q2,bZv q3])
 simp[qX,cFc,bZv h1,bZv h2,bZv h3]
theorem aIv (l:aE) (a:cP):(e7 l a).length≤2:=by
 unfold e7;split
 ·rw[cAr];exact aZg _ _
 simp
theorem uT {α β:Type} {f:α→List β} {c:Nat}: ∀{L:List α},(∀x∈L,(f x).length≤c)→(L.flatMap f).length≤L.length*c
 | [],_=>by simp
 |a::L,h=>by
  rw[cAj,cAb,cDx,cBb];have h1:=h a b7;have h2:=uT (L:=L) fun x hx=>h x (by simp[hx]);omega
theorem aSm (l:aE): ∀(n:Nat) (a:cP) (q:List bF),(goP l n a q).length≤2^n
 |0,_,_=>by simp[goP]
 |n+1,a,q=>by
  unfold goP;split
  ·simp
  refine cBc (uT (c:=2^n) fun s _=>?_) ?_
  ·split
   ·simp;exact bZs
   exact aSm l n _ _
  rw[Nat.pow_succ,bZx];exact cBh _ (aIv l a)
theorem aKb (q:List bF) (s:bF):lsN (q++[s])=s:=by
 unfold lsN;simp[cFk]
theorem qP (q:List bF) (s:bF):jH (q++[s]) q.length=s:=by
 unfold jH;simp[cFk]
theorem kF {q:List bF} {i:Nat} (s:bF) (h:i<q.length):jH (q++[s]) i=jH q i:=by
 unfold jH;rw[cFk,cFk,cAf h]
theorem aJc {l:aE}: ∀{n:Nat} {a:cP} {q p:List bF},q.length≤12→(q.map (·.fEl)).Nodup→p∈goP l n a q→0<p.length∧p.length≤12∧(p.map (·.fEl)).Nodup∧sT l (lsN p)=true
 |0,_,_,_,_,_,h=>by cases h
 |n+1,a,q,p,hq,hn,h=>by
  unfold goP at h;split at h
  ·cases h
  rename_i hc;obtain ⟨s,hs,hp⟩:=cFb.1 h;have hlt:q.length<12:=by omega
  have ho:vK l q a.fEl=true:=by
   cases hx:vK l q a.fEl with
   |true=>rfl
   |false=>exact absurd (.inr hx) hc
  have hn2:((q++[s]).map (·.fEl)).Nodup:=by
   rw[cAl,cCx];refine ⟨hn,by simp,fun x hx y hy e=>?_⟩;simp only[cEb,cDk,cBq] at hy;rw[(z8 hs).1] at hy;obtain ⟨t,ht,hte⟩:=cAy.1 hx;obtain ⟨i,hi,rfl⟩:=cAo.1 ht;unfold vK at ho;have:=cCk.1 ho i (by simpa using hi);unfold aVj at this;simp only[bZi,cFp] at this;apply this.1;rw[cFk,cEn hi];simp only[bZy];rw[hte,e,hy]
  split at hp
  ·rename_i he;rw[cBq.1 hp];exact ⟨by simp,by simp;omega,hn2,by rw[aKb];exact he⟩
  exact aJc (by simp;omega) hn2 hp
abbrev t8 (l:aE) (q:List bF) (i:Nat):Int:=cJ l (jH q i).fEl
theorem aSx {l:aE} {e:Int} (h:pQ l e=true):cJ l e=(eP l e.toNat).fSection:=by
 unfold cJ;rw[if_pos (iI.1 h)]
theorem aCv {l:aE} {q:List bF} (hex: ∀i,i<q.length→pQ l (jH q i).fEl=true): ∀n,n≤q.length→ ∀x,x∈dC l (q.take n)↔ ∃i,i<n∧t8 l q i=x
 |0,_,x=>by simp[dC]
 |n+1,h,x=>by
  have ih:=aCv hex n aN x;have he:=hex n aN;rw[tH l aN];unfold iL;rw[if_pos he];have hs:(eP l (q.getD n default).fEl.toNat).fSection=t8 l q n:=(aSx he).symm;rw[hs];have key:(x∈aEb (dC l (q.take n)) (t8 l q n))↔x∈dC l (q.take n)∨x=t8 l q n:=by
   unfold aEb;split
   ·rename_i hm;constructor
    ·exact .inl
    rintro (h|rfl)
    ·exact h
    exact hm
   simp
  rw[key,ih];constructor
  ·rintro (⟨i,hi,rfl⟩|rfl)
   ·exact ⟨i,by omega,rfl⟩
   exact ⟨n,by omega,rfl⟩
  rintro ⟨i,hi,rfl⟩;rcases cEs (cDn hi) with h|rfl
  ·exact .inl ⟨i,h,rfl⟩
  exact .inr rfl
def bFn (l:aE) (q:List bF) (n:Nat):Prop:= ∀m,m<n→0<m→t8 l q m≠t8 l q (m-1)→ ∀j,j<m→t8 l q j≠t8 l q m
theorem aIl {l:aE} {q:List bF} (hex: ∀i,i<q.length→pQ l (jH q i).fEl=true): ∀n,n≤q.length→(dC l (q.take n)).length≤nN l q n∧(nN l q n=(dC l (q.take n)).length↔bFn l q n)
 |0,_=>by
  refine ⟨by simp[dC],?_⟩;constructor
  ·intro _ m hm;omega
  intro _;simp[dC,nN]
 |n+1,h=>by
  obtain ⟨ih1,ih2⟩:=aIl hex n aN;have he:=hex n aN;have hm:=aCv hex n aN (t8 l q n);rw[tH l aN];unfold iL;rw[if_pos he];have hs:(eP l (q.getD n default).fEl.toNat).fSection=t8 l q n:=(aSx he).symm;rw[hs];have hcon:bFn l q (n+1)↔bFn l q n∧(0<n→t8 l q n≠t8 l q (n-1)→ ∀j,j<n→t8 l q j≠t8 l q n):=by
   constructor
   ·exact fun h=>⟨fun m hm=>h m aN,fun h0=>h n aN h0⟩
   rintro ⟨h1,h2⟩ m hm h0;rcases cEs (cDn hm) with h|rfl
   ·exact h1 m h h0
   exact h2 h0
  rw[hcon,← ih2,show nN l q (n+1)=nN l q n+(if n=0∨cJ l (jH q n).fEl≠cJ l (jH q (n-1)).fEl then 1 else 0) from rfl];unfold aEb;by_cases hc:n=0∨cJ l (jH q n).fEl≠cJ l (jH q (n-1)).fEl
  ·rw[if_pos hc];split
   ·rename_i hin;refine ⟨by omega,?_⟩;constructor
    ·intro hx;omega
    rintro ⟨_,h2⟩;obtain ⟨j,hj,hje⟩:=hm.1 hin;rcases hc with h0|h0
    ·omega
    exact absurd hje (h2 aN h0 j hj)
   rename_i hin;rw[cAb,bZp];refine ⟨by omega,?_⟩;constructor
   ·intro hx;exact ⟨by omega,fun _ _ j hj hje=>hin (hm.2 ⟨j,hj,hje⟩)⟩
   rintro ⟨h1,_⟩;omega
  rw[if_neg hc];simp only[not_or,cBo] at hc;have hin:t8 l q n∈dC l (q.take n):=hm.2 ⟨n-1,by omega,hc.2.symm⟩;rw[if_pos hin];refine ⟨by omega,?_⟩;constructor
  ·intro hx;exact ⟨by omega,fun _ h2=>absurd hc.2 h2⟩
  rintro ⟨h1,_⟩;omega
theorem bMg {l:aE} {q:List bF} (h:oL l q=true) {i:Nat} (hi:i<q.length):pQ l (jH q i).fEl=true:=by
 unfold oL at h;rw[bZi] at h;have:=cCk.1 h.2 i (by simpa using hi);unfold o4 aDq at this;simp only[bZi] at this;exact iI.2 (aPz this.1.1)
theorem aWl {l:aE} {q:List bF} (s:bF) {i:Nat} (h:i<q.length):o4 l (q++[s]) i=o4 l q i:=by
 unfold o4 aDq;rw[kF s h];have h1: ∀k,k<i→neN (q++[s]) i k=neN q i k:=fun k hk=>by unfold neN;rw[kF s h,kF s aN]
 have h2:(List.range i).all (neN (q++[s]) i)=(List.range i).all (neN q i):=by
  rw[cBk,cCk,cCk];constructor
  ·intro hx k hk;rw[← h1 k (by simpa using hk)];exact hx k hk
  intro hx k hk;rw[h1 k (by simpa using hk)];exact hx k hk
 rw[h2];by_cases h0:i=0
 ·subst h0;simp
 rw[kF s (show i-1<q.length by omega)]
def bJo (l:aE) (f a:cP) (q:List bF):Prop:=(q=[]∧a=f)∨(0<q.length∧uC l f q=true∧cR l (lsN q)=(a,true))
theorem sA {l:aE} {f:cP} {q:List bF}:uC l f q=true↔((0<q.length∧q.length≤12)∧(jH q 0).fEl=f.fEl∧(jH q 0).fIn=f.fSide)∧(∀i,i<q.length→o4 l q i=true)∧nN l q q.length=(dC l q).length:=by
 unfold uC aHb oL;simp only[bZi,cFp,cCk,cCc];constructor
 ·rintro ⟨⟨h1,_,h2⟩,h3⟩;exact ⟨h1,h2,h3⟩
 rintro ⟨h1,h2,h3⟩;exact ⟨⟨h1,⟨h1.1.1,by omega⟩,h2⟩,h3⟩
theorem aMr {l:aE} {f a:cP} {q:List bF} {s:bF} (hinv:bJo l f a q) (hs:s∈e7 l a):uC l f (q++[s])=true↔q.length<12∧vK l q a.fEl=true:=by
 obtain ⟨hs1,hs2,hs3,hs4⟩:=z8 hs;have hes:pQ l s.fEl=true:=by rw[hs1];exact hs4
 rcases hinv with ⟨rfl,rfl⟩|⟨h0,hfit,hnx⟩
 ·rw[cEz,sA];refine ⟨fun _=>⟨by simp,rfl⟩,fun _=>⟨⟨by simp,hs1,hs2⟩,fun i hi=>?_,?_⟩⟩
  ·simp at hi;subst hi;unfold o4 aDq;rw[show jH [s] 0=s from rfl,hs3];rfl
  show nN l [s] 1=_;rw[bQn];unfold dC;rw[cAm,List.foldl_nil];unfold iL aEb;rw[if_pos hes];simp
 obtain ⟨⟨q1,q2,q3⟩,q4,q5⟩:=sA.1 hfit;have hexq: ∀i,i<q.length→pQ l (jH q i).fEl=true:=fun i hi=>by
  have:=q4 i hi;unfold o4 aDq at this;simp only[bZi] at this;exact iI.2 (aPz this.1.1)
 have hlast:jH q (q.length-1)=lsN q:=rfl;have hvl:o4 l (q++[s]) q.length=true↔ ∀k,k<q.length→(jH q k).fEl≠a.fEl:=by
  unfold o4 aDq;rw[qP,hs3,kF s (show q.length-1<q.length by omega),hlast,hnx,cFs (show ¬q.length=0 by omega),cFr ((fT _ _).2 ⟨hs1.symm,hs2.symm⟩:(a:cP)=⟨s.fEl,s.fIn⟩)];simp only[Bool.or_true,Bool.and_true,cDm,cCl,cCk,cCc];constructor
  ·intro h k hk;have:=h k hk;unfold neN at this;rw[qP,kF s hk,hs1] at this;exact cFq this
  intro h k hk;unfold neN;rw[qP,kF s hk,hs1];exact cFr (h k hk)
 have hcon:bFn l q q.length:=((aIl hexq q.length (cCq _)).2).1 (by rw[cBn];exact q5);have hexs: ∀i,i<(q++[s]).length→pQ l (jH (q++[s]) i).fEl=true:=fun i hi=>by
  simp only[cAb,bZp] at hi;rcases cEs (cDn hi) with h|rfl
  ·rw[kF s h];exact hexq i h
  rw[qP];exact hes
 have hlen:(q++[s]).length=q.length+1:=by simp
 have hsec:nN l (q++[s]) (q++[s]).length=(dC l (q++[s])).length↔(cJ l a.fEl≠t8 l q (q.length-1)→ ∀j,j<q.length→t8 l q j≠cJ l a.fEl):=by
  have:=(aIl hexs (q++[s]).length (cCq _)).2;rw[cBn] at this;rw[this,hlen];have hsn: ∀i,i<q.length→t8 l (q++[s]) i=t8 l q i:=fun i hi=>by unfold t8;rw[kF s hi]
  have hsl:t8 l (q++[s]) q.length=cJ l a.fEl:=by unfold t8;rw[qP,hs1]
  constructor
  ·intro h hne j hj;have:=h q.length aN h0 (by rw[hsl,hsn _ aN];exact hne) j hj;rw[hsl,hsn j hj] at this;exact this
  intro h m hm hm0 hne j hj;rcases cEs (cDn hm) with hm|rfl
  ·rw[hsn m hm,hsn (m-1) aN] at hne;rw[hsn m hm,hsn j aN];exact hcon m hm hm0 hne j hj
  rw[hsl,hsn _ aN] at hne;rw[hsl,hsn j hj];exact h hne j hj
 have hop:vK l q a.fEl=true↔(∀k,k<q.length→(jH q k).fEl≠a.fEl)∧ ∀i,i<q.length→0<i→t8 l q (i-1)=cJ l a.fEl→t8 l q i=cJ l a.fEl:=by
  unfold vK;simp only[cCk,cCc];constructor
  ·intro h;refine ⟨fun k hk=>?_,fun i hi hi0 he=>?_⟩
   ·have:=h k hk;unfold aVj at this;simp only[bZi,cFp] at this;exact this.1
   have:=h i hi;unfold aVj at this;simp only[bZi,cFp,cAz,cDz,cFu] at this;rcases this.2 with h|h|h
   ·omega
   ·exact absurd he h
   exact cBo.1 h
  rintro ⟨h1,h2⟩ i hi;refine bPe (h1 i hi) ?_;rintro ⟨⟨g1,g2⟩,g3⟩;exact g3 (h2 i hi g1 g2)
 rw[sA,hop];constructor
 ·rintro ⟨⟨⟨_,g1⟩,_⟩,g2,g3⟩;rw[hlen] at g1;have hne:=hvl.1 (g2 q.length aN);refine ⟨by omega,hne,fun i hi hi0 he=>cEt fun hx=>?_⟩;have hsc:=hsec.1 g3;by_cases hL:cJ l a.fEl=t8 l q (q.length-1)
  ·have hex: ∃m,i<m∧m<q.length∧t8 l q m=cJ l a.fEl:=by
    refine ⟨q.length-1,?_,by omega,hL.symm⟩;rcases cEs (show i≤q.length-1 by omega) with h|h
    ·exact h
    exact absurd (by rw[h];exact hL.symm) hx
   have: ∃m,(i<m∧m<q.length∧t8 l q m=cJ l a.fEl)∧ ∀k,k<m→ ¬(i<k∧k<q.length∧t8 l q k=cJ l a.fEl):=by
    obtain ⟨m,hm⟩:=hex
    induction m using Nat.strongRecOn with
    |_ m ih=>
     by_cases hk: ∃k,k<m∧(i<k∧k<q.length∧t8 l q k=cJ l a.fEl)
     ·obtain ⟨k,hk1,hk2⟩:=hk;exact ih k hk1 hk2
     exact ⟨m,hm,fun k hk1 hk2=>hk ⟨k,hk1,hk2⟩⟩
   obtain ⟨m,⟨m1,m2,m3⟩,m4⟩:=this;have hpre:t8 l q (m-1)≠cJ l a.fEl:=by
    rcases cEs (show i≤m-1 by omega) with h|h
    ·exact fun e=>m4 (m-1) aN ⟨h,by omega,e⟩
    rw[← h];exact hx
   exact hcon m m2 aN (by rw[m3];exact bZv hpre) (i-1) aN (by rw[he,m3])
  exact hsc hL (i-1) aN he
 rintro ⟨g1,g2,g3⟩;refine ⟨⟨⟨by omega,by omega⟩,?_⟩,fun i hi=>?_,hsec.2 fun hne j hj he=>?_⟩
 ·rw[kF s h0];exact ⟨q2,q3⟩
 ·rw[hlen] at hi;rcases cEs (cDn hi) with h|rfl
  ·rw[aWl s h];exact q4 i h
  exact hvl.2 g2
 have: ∀d,j+d<q.length→t8 l q (j+d)=cJ l a.fEl:=fun d=>by
  induction d with
  |zero=>intro _;exact he
  |succ d ih=>intro hd;exact g3 (j+(d+1)) hd aN (by rw[show j+(d+1)-1=j+d by omega];exact ih aN)
 have h1:=this (q.length-1-j) aN;rw[show j+(q.length-1-j)=q.length-1 by omega] at h1;exact hne h1.symm
theorem aUi {l:aE} {s:bF} (h: ¬sT l s=true):cR l s=((cR l s).1,true):=by
 unfold sT at h;simp only[cEx,cAz,not_or,cCj] at h;exact Prod.ext rfl h.2
theorem aSe {l:aE} {f:cP}: ∀(n:Nat) {a:cP} {q:List bF},bJo l f a q→q.length≤12→goP l n a q=srP l f n a q
 |0,_,_,_,_=>rfl
 |n+1,a,q,hinv,hq=>by
  unfold goP srP;split
  ·rename_i hc;symm;rw[List.flatMap_eq_nil_iff];intro s hs;rw[if_neg];intro hf;have:=(aMr hinv hs).1 hf;rcases hc with h|h
   ·omega
   rw[this.2] at h;cases h
  rename_i hc;have hcc:q.length<12∧vK l q a.fEl=true:=by
   refine ⟨by omega,?_⟩;cases hx:vK l q a.fEl with
   |true=>rfl
   |false=>exact absurd (.inr hx) hc
  have: ∀L:List bF,(∀s∈L,s∈e7 l a)→(L.flatMap fun s=>if sT l s=true then [q++[s]] else goP l n (cR l s).1 (q++[s]))=L.flatMap fun s=>if uC l f (q++[s])=true then (if sT l s=true then [q++[s]] else srP l f n (cR l s).1 (q++[s])) else []:=by
   intro L
   induction L with
   |nil=>intro _;rfl
   |cons s L ih=>
    intro hL;have hf:=(aMr hinv (hL s b7)).2 hcc;rw[cAj,cAj,if_pos hf,ih fun x hx=>hL x (by simp[hx])];congr 1;by_cases he:sT l s=true
    ·rw[if_pos he,if_pos he]
    rw[if_neg he,if_neg he];refine aSe n (.inr ⟨by simp,hf,?_⟩) (by simp;omega);rw[aKb];exact aUi he
  exact this _ fun _ h=>h
def aNz (x:Int):Bool:= !decide (x<0∨4<x)
def bJh (w:bS):Bool:=w.fProgress.all aNz&&(((decide ((zR w.fTrips w.fPlan.fStarts).2=0)&&decide (w.fProgress.length=w.fTrips.length))&&decide (0≤w.fNow))&&decide (w.fNow≤1073741824))
theorem bWe {l:aE} {q:List bF} (hes:kQ l=true) (h:oL l q=true) {i:Nat} (hi:i<q.length):(0≤(q.getD i default).fEl∧(q.getD i default).fEl<l.fElements.length)∧500≤lgI l (q.getD i default)∧lgI l (q.getD i default)≤1000000:=by
 have h1:=bMg h hi;unfold pQ at h1;have h2:0≤(q.getD i default).fEl∧(q.getD i default).fEl<(l.fElements.length:Int):=cFq h1;have h3:yG l (l.fElements.getD (q.getD i default).fEl.toNat default)=true:=pF hes aN;unfold yG at h3;simp only[bZi,cFp] at h3;unfold lgI;exact ⟨h2,by omega,by omega⟩
theorem bEe {l:aE} {q:List bF} (h:oL l q=true):0<q.length∧q.length≤64:=by
 unfold oL at h;rw[bZi,cFp] at h;exact h.1
def aFi (l:aE) (b:wJ):Nat→Int
 |0=>b.fHead
 |k+1=>aFi l b k+lgI l (b.fSteps.getD k default)
def bHk (l:aE) (b:wJ):Bool:=(((!oL l b.fSteps||decide (b.fLength<1))||decide (1000000<b.fLength))||decide (b.fHead<1))||decide (lgI l (b.fSteps.getD (b.fSteps.length-1) default)<b.fHead)
def bQo (l:aE) (b:wJ):Bool:=decide (aFi l b (b.fSteps.length-1)<b.fLength)||(decide (1<b.fSteps.length)&&decide (b.fLength≤aFi l b (b.fSteps.length-1)-lgI l (b.fSteps.getD 0 default)))
def bAb (l:aE) (b:wJ):Int:=if bHk l b=true then 1 else if bQo l b=true then 10 else 0
theorem aQe {l:aE} {b:wJ} (hh: -2000000≤b.fHead∧b.fHead≤2000000) (hE: ∀i,i<b.fSteps.length→500≤lgI l (b.fSteps.getD i default)∧lgI l (b.fSteps.getD i default)≤1000000): ∀k,k≤b.fSteps.length→ -2000000≤aFi l b k∧aFi l b k≤2000000+1000000*(k:Int)
 |0,_=>by rw[aFi];omega
 |k+1,hk=>by
  have h1:=aQe hh hE k aN;have h2:=hE k aN;rw[aFi];omega
theorem wU (O:aV) (w:bS) (hf:xH w):bB Tryz.prog O 25 [.agg (dM w)] (vb (bJh w)):=by
 obtain ⟨f1,f2,f3,f4,f5,f6,f7,f8,f9,f10,f11,f12,f13,f14,f15,f16,f17,f18,f19⟩:=id hf;refine dD Tryz.func25 ?_;refine aB [0] ?_;refine aA fun _ Z1=>bL [1] ?_;refine fF (aBf _ w.fTrips w.fPlan.fStarts f6 f7) ?_;refine Z1 _ (aA fun _ Z2=>aB [1,4] ?_);refine aD (aT [1,4,5] (fun n ρ=> ∃i,n=w.fProgress.length-i∧(i≤w.fProgress.length)∧(w.fProgress.all aNz=(w.fProgress.drop i).all aNz)∧ρ=cO O [(1,.bx (dM w)),(4,vi (zR w.fTrips w.fPlan.fStarts).2),(5,vi (i:Nat))]) _ ⟨0,rfl,?_,?_,?_⟩ ?_)
 ·exact bE
 ·rfl
 ·exact b9
 rintro n ρ ⟨i,rfl,l0_0,l0_1,rfl⟩ _ Z4;refine aA fun _ Z5=>aB [1,4,5] ?_;refine aL (fun c0=>?_) fun c0=>?_
 ·refine aC (Z5 _ (aA fun _ Z7=>aD (aB [1,4,5] ?_)));refine aL (fun c1=>?_) fun c1=>?_
  ·refine aB [] ?_;refine aG (bU 2 (xb ?_))
   (rw[bJh,l0_1,bK default c0,cCm,show aNz (w.fProgress.getD i default)=false from by rw[aNz,cFr aN];rfl,cBl,cBl])
  refine aC (Z7 _ (bA [1,4,5] ?_));refine Z4 _ _ bE ⟨i+1,rfl,bE,?_,b9⟩
  ·rw[l0_1,bK default c0,cCm,show aNz (w.fProgress.getD i default)=true from by rw[aNz,cFs aN];rfl,cDm]
 refine aY (Z2 _ (aB [1,4] ?_));refine aG (bU 2 (xb ?_))
 (rw[bJh,l0_1,cT c0];rfl)
theorem xS (O:aV) (l:aE) (b:wJ) (hq:b.fSteps.length≤100) (hh: -2000000≤b.fHead∧b.fHead≤2000000) (hE: ∀i,i<b.fSteps.length→(0≤(b.fSteps.getD i default).fEl∧(b.fSteps.getD i default).fEl<l.fElements.length)∧500≤lgI l (b.fSteps.getD i default)∧lgI l (b.fSteps.getD i default)≤1000000):bB Tryz.prog O 133 [.agg (aQ l),.agg (y9 b)] (vi (aFi l b (b.fSteps.length-1))):=by
 refine dD Tryz.func133 ?_;refine aB [0,1] ?_;refine aB [2,3] ?_;refine aA fun _ Z2=>aB [2,3,5] ?_;refine aD (aT [2,3,5,6] (fun n ρ=> ∃i,n=b.fSteps.length-i∧(i≤b.fSteps.length-1)∧ρ=cO O [(2,.bx (aQ l)),(3,.bx (y9 b)),(5,vi (aFi l b i)),(6,vi (i:Nat))]) _ ⟨0,rfl,?_,?_⟩ ?_)
 ·exact bE
 ·exact b9
 rintro n ρ ⟨i,rfl,l0_0,rfl⟩ _ Z4;have hsb:=aQe hh (fun i hi=>(hE i hi).2) i aN;refine aA fun _ Z5=>aB [2,3,5,6] ?_;refine aL (fun c0=>?_) fun c0=>?_
 ·refine aC (Z5 _ (aA fun _ Z7=>aD ?_));have hE1:=hE i aN;refine dE [2,3,5,6] [] ?_;refine w4 (nG _ l (b.fSteps.getD i default) (hE i aN).1.1 (hE i aN).1.2) ?_;refine Z7 _ (bA [2,3,5,6] ?_);refine Z4 _ _ bE ⟨i+1,rfl,bE,?_⟩;simp (config := { maxSteps := 2000000 }) (disch:=omega) only[go_sem,seval]<;>(rw[aFi];try rfl)
 refine aY (Z2 _ (aB [5] ?_));refine aG (bU 4 ?_);exact cG.is (by simp (config := { maxSteps := 2000000 }) (disch:=omega) only[go_sem,seval]<;>(rw[show i=b.fSteps.length-1 by omega])) rfl rfl
theorem aBm (O:aV) (l:aE) (b:wJ) (hl:hM l) (hes:kQ l=true) (hq:b.fSteps.length≤100):bB Tryz.prog O 64 [.agg (aQ l),.agg (y9 b)] (vi (bAb l b)):=by
 have hE:oL l b.fSteps=true→ ∀i,i<b.fSteps.length→(0≤(b.fSteps.getD i default).fEl∧(b.fSteps.getD i default).fEl<l.fElements.length)∧500≤lgI l (b.fSteps.getD i default)∧lgI l (b.fSteps.getD i default)≤1000000:=fun h i hi=>bWe hes h hi;have hN:oL l b.fSteps=true→0<b.fSteps.length:=fun h=>(bEe h).1;refine dD Tryz.func64 ?_;refine aB [0,1] ?_;refine aA fun _ Z1=>aA fun _ Z2=>dE [2,3] [] ?_;refine w4 (qO _ l b.fSteps hl hq) ?_;refine i0 (fun g0=>nG _ l (b.fSteps.getD (b.fSteps.length-1) default) (by simp at g0;exact (hE g0.1.1.1 _ (by have:=hN g0.1.1.1;omega)).1.1) (by simp at g0;exact (hE g0.1.1.1 _ (by have:=hN g0.1.1.1;omega)).1.2)) ?_;refine Z2 _ (aL (fun c0=>?_) fun c0=>?_)
 ·refine aB [] ?_;refine aG (bU 4 ?_);exact cG.is (by simp (config := { maxSteps := 2000000 }) (disch:=omega) only[go_sem,seval]<;>(rw[bAb,if_pos (by simpa[bHk] using c0)])) rfl rfl
 refine aC (Z1 _ (aA fun _ Z4=>?_));obtain ⟨⟨⟨⟨hv,hb3⟩,hb4⟩,hb5⟩,hb6⟩:=id c0;have hb1:bHk l b=false:=by unfold bHk;rw[hv,cFs aN,cFs aN,cFs aN,cFs aN];rfl
 have hz:=(hE hv (b.fSteps.length-1) (by have:=hN hv;omega)).2;have hh2: -2000000≤b.fHead∧b.fHead≤2000000:=by omega
 have hsb:=aQe hh2 (fun i hi=>(hE hv i hi).2) (b.fSteps.length-1) aN;have hz0:=(hE hv 0 (hN hv)).2;refine bL [2,3] ?_;refine fF (xS _ l b hq hh2 (hE hv)) ?_;refine Z4 _ (aA fun _ Z5=>aA fun _ Z6=>dE [2,3,5] [] ?_);refine i0 (fun g1=>nG _ l (b.fSteps.getD 0 default) (hE hv 0 (hN hv)).1.1 (hE hv 0 (hN hv)).1.2) ?_;refine Z6 _ (aL (fun c1=>?_) fun c1=>?_)
 ·refine aB [] ?_;refine aG (bU 4 ?_);exact cG.is (by simp (config := { maxSteps := 2000000 }) (disch:=omega) only[go_sem,seval]<;>(rw[bAb,if_neg (by rw[hb1];simp),if_pos (by simpa[bQo] using c1)])) rfl rfl
 refine aC (Z5 _ (aB [] ?_));refine aG (bU 4 ?_);exact cG.is (by simp (config := { maxSteps := 2000000 }) (disch:=omega) only[go_sem,seval]<;>(rw[bAb,if_neg (by rw[hb1];simp),if_neg (by unfold bQo;simp only[cEx,bZi,cFp];omega)])) rfl rfl
def zL (x:d6) (n:Int):Bool:=
 if x.fState=0∨x.fState=1∨x.fState=2 then decide (x.fRel=0)&&decide (x.fTimer=0)
 else if x.fState=3 then (((decide (0≤x.fRel)&&decide (x.fRel<n))&&decide (0≤x.fTimer))&&decide (x.fTimer<4))&&(decide (x.fTimer=0)||decide (x.fRel=n-1))
 else if x.fState=4 then ((decide (0≤x.fRel)&&decide (x.fRel<n))&&decide (0≤x.fTimer))&&decide (x.fTimer<12) else false
theorem kX {x:d6} {n:Int} (h:x.fState=0∨x.fState=1∨x.fState=2):zL x n=(decide (x.fRel=0)&&decide (x.fTimer=0)):=by rw[zL,if_pos h]
theorem lB {x:d6} {n:Int} (h:x.fState=3):zL x n=((((decide (0≤x.fRel)&&decide (x.fRel<n))&&decide (0≤x.fTimer))&&decide (x.fTimer<4))&&(decide (x.fTimer=0)||decide (x.fRel=n-1))):=by rw[zL,if_neg aN,if_pos h]
theorem lC {x:d6} {n:Int} (h:x.fState=4):zL x n=(((decide (0≤x.fRel)&&decide (x.fRel<n))&&decide (0≤x.fTimer))&&decide (x.fTimer<12)):=by rw[zL,if_neg aN,if_neg aN,if_pos h]
theorem kY {x:d6} {n:Int} (h: ¬(x.fState=0∨x.fState=1∨x.fState=2)) (h3: ¬x.fState=3) (h4: ¬x.fState=4):zL x n=false:=by rw[zL,if_neg h,if_neg h3,if_neg h4]
theorem bHl {x:d6} {n:Int} (h:zL x n=true) (h0: ¬x.fState=0) (hn:0≤n):0≤x.fRel∧x.fRel≤n:=by
 unfold zL at h;split at h
 ·simp only[bZi,cFp] at h;omega
 split at h
 ·simp only[bZi,cFp] at h;omega
 split at h
 ·simp only[bZi,cFp] at h;omega
 cases h
abbrev rtN (t:bP) (r:Int):bI:=t.fRoutes.getD r.toNat default
abbrev rsN (s:dO) (r:Int):d6:=s.fRoutes.getD r.toNat default
def aKh (a b:List Int):Bool:=a.any fun x=>b.contains x
def bDf (t:bP) (a b:Int):Bool:=decide (0≤(rtN t a).fExit)&&decide ((rtN t b).fEntry=(rtN t a).fExit)
def aIz (t:bP) (s:dO) (r:Int):List Int:=if (rsN s r).fState=0 then [] else (rtN t r).fSections.drop (rsN s r).fRel.toNat
def aHj (t:bP) (s:dO) (r:Int):List Int:=if (rsN s r).fState=0 then [] else (rtN t r).fOverSections
structure InR (t:bP) (s:dO) (r:Int):Prop where
 h0:0≤r
 h1:r<t.fRoutes.length
 h2:r<s.fRoutes.length
 rel: ¬(rsN s r).fState=0→0≤(rsN s r).fRel∧(rsN s r).fRel≤(rtN t r).fSections.length
 sec:(rtN t r).fSections.length≤1000
 ovr:(rtN t r).fOverSections.length≤1000
theorem t7 (O:aV) (x:d6) (n:Int) (h0:0≤n) (h1:n≤1000000):bB Tryz.prog O 122 [.agg (iX x),vi n] (vb (zL x n)):=by
 refine dD Tryz.func122 ?_;refine aB [0,1] ?_;refine aA fun _ Z1=>aB [1,2] ?_;refine aD (aA fun _ Z3=>aB [1,2,6] ?_);refine aL (fun c0=>?_) fun c0=>?_
 ·refine aC (Z3 _ (aL (fun c1=>?_) fun c1=>?_))
  ·refine aB [2] ?_;refine aG (bU 4 (xb ?_))
   ((first|(exfalso;omega)|(rw[kX aN]<;>first|rfl|simp)|(rw[lB aN]<;>first|rfl|simp)|(rw[lC aN]<;>first|rfl|simp)|(rw[kY aN aN aN])))
  refine aB [1,2,6] ?_;refine aL (fun c2=>?_) fun c2=>?_
  ·refine aB [1,2] ?_;refine aG (bU 4 (xb ?_))
   ((first|(exfalso;omega)|(rw[kX aN]<;>first|rfl|simp)|(rw[lB aN]<;>first|rfl|simp)|(rw[lC aN]<;>first|rfl|simp)|(rw[kY aN aN aN])))
  refine aB [1,2,6] ?_;refine aL (fun c3=>?_) fun c3=>?_
  ·refine aB [1,2] ?_;refine aG (bU 4 (xb ?_))
   ((first|(exfalso;omega)|(rw[kX aN]<;>first|rfl|simp)|(rw[lB aN]<;>first|rfl|simp)|(rw[lC aN]<;>first|rfl|simp)|(rw[kY aN aN aN])))
  refine aC (Z1 _ (aB [] ?_));refine aG (bU 4 (xb ?_))
  ((first|(exfalso;omega)|(rw[kX aN]<;>first|rfl|simp)|(rw[lB aN]<;>first|rfl|simp)|(rw[lC aN]<;>first|rfl|simp)|(rw[kY aN aN aN])))
 refine aB [1,2,6] ?_;refine aL (fun c4=>?_) fun c4=>?_
 ·refine aC (Z3 _ (aL (fun c5=>?_) fun c5=>?_))
  ·refine aB [2] ?_;refine aG (bU 4 (xb ?_))
   ((first|(exfalso;omega)|(rw[kX aN]<;>first|rfl|simp)|(rw[lB aN]<;>first|rfl|simp)|(rw[lC aN]<;>first|rfl|simp)|(rw[kY aN aN aN])))
  refine aB [1,2,6] ?_;refine aL (fun c6=>?_) fun c6=>?_
  ·refine aB [1,2] ?_;refine aG (bU 4 (xb ?_))
   ((first|(exfalso;omega)|(rw[kX aN]<;>first|rfl|simp)|(rw[lB aN]<;>first|rfl|simp)|(rw[lC aN]<;>first|rfl|simp)|(rw[kY aN aN aN])))
  refine aB [1,2,6] ?_;refine aL (fun c7=>?_) fun c7=>?_
  ·refine aB [1,2] ?_;refine aG (bU 4 (xb ?_))
   ((first|(exfalso;omega)|(rw[kX aN]<;>first|rfl|simp)|(rw[lB aN]<;>first|rfl|simp)|(rw[lC aN]<;>first|rfl|simp)|(rw[kY aN aN aN])))
  refine aC (Z1 _ (aB [] ?_));refine aG (bU 4 (xb ?_))
  ((first|(exfalso;omega)|(rw[kX aN]<;>first|rfl|simp)|(rw[lB aN]<;>first|rfl|simp)|(rw[lC aN]<;>first|rfl|simp)|(rw[kY aN aN aN])))
 refine bA [1,2,6] ?_;refine Z3 _ (aL (fun c8=>?_) fun c8=>?_)
 ·refine aB [2] ?_;refine aG (bU 4 (xb ?_))
  ((first|(exfalso;omega)|(rw[kX aN]<;>first|rfl|simp)|(rw[lB aN]<;>first|rfl|simp)|(rw[lC aN]<;>first|rfl|simp)|(rw[kY aN aN aN])))
 refine aB [1,2,6] ?_;refine aL (fun c9=>?_) fun c9=>?_
 ·refine aB [1,2] ?_;refine aG (bU 4 (xb ?_))
  ((first|(exfalso;omega)|(rw[kX aN]<;>first|rfl|simp)|(rw[lB aN]<;>first|rfl|simp)|(rw[lC aN]<;>first|rfl|simp)|(rw[kY aN aN aN])))
 refine aB [1,2,6] ?_;refine aL (fun c10=>?_) fun c10=>?_
 ·refine aB [1,2] ?_;refine aG (bU 4 (xb ?_))
  ((first|(exfalso;omega)|(rw[kX aN]<;>first|rfl|simp)|(rw[lB aN]<;>first|rfl|simp)|(rw[lC aN]<;>first|rfl|simp)|(rw[kY aN aN aN])))
 refine aC (Z1 _ (aB [] ?_));refine aG (bU 4 (xb ?_))
 ((first|(exfalso;omega)|(rw[kX aN]<;>first|rfl|simp)|(rw[lB aN]<;>first|rfl|simp)|(rw[lC aN]<;>first|rfl|simp)|(rw[kY aN aN aN])))
theorem oX (O:aV) (q:List aM) (s:aM):bB Tryz.prog O 124 [dJ q,.agg (bJ s)] (vb (eL q s)):=by
 refine aW 0 rfl (.sl _ _ _) fun hql=>?_;refine dD Tryz.func124 ?_;refine aB [0,1] ?_;refine aA fun _ Z1=>aB [0,3] ?_;refine aD (aT [0,3,5] (fun n ρ=> ∃i,n=q.length-i∧(i≤q.length)∧(eL q s=eL (q.drop i) s)∧ρ=cO O [(0,dJ q),(3,.bx (bJ s)),(5,vi (i:Nat))]) _ ⟨0,rfl,?_,?_,?_⟩ ?_)
 ·exact bE
 ·rfl
 ·exact b9
 rintro n ρ ⟨i,rfl,l0_0,l0_1,rfl⟩ _ Z3;refine aA fun _ Z4=>aB [0,3,5] ?_;refine aL (fun c0=>?_) fun c0=>?_
 ·refine aC (Z4 _ (aA fun _ Z6=>aD (aA fun _ Z7=>dE [0,3,5] [] ?_)));refine Z7 _ (aL (fun c1=>?_) fun c1=>?_)
  ·refine aB [] ?_;refine aG (bU 4 (xb ?_))
   ((rw[l0_1,bK default c0,oP,cFr ((gO _ _).2 (by simpa using c1))];rfl))
  refine aC (Z6 _ (bA [0,3,5] ?_));refine Z3 _ _ bE ⟨i+1,rfl,bE,?_,b9⟩
  ·rw[l0_1,bK default c0,oP,cFs (fun h=>by rw[gO] at h;simp_all)];rfl
 refine aY (Z1 _ (aB [] ?_));refine aG (bU 4 (xb ?_))
 ((rw[l0_1,cT c0];rfl))
theorem nF (O:aV) (a b:List Int):bB Tryz.prog O 126 [bT a,bT b] (vb (aKh a b)):=by
 refine aW 0 rfl (.sl _ _ _) fun hql=>?_;refine dD Tryz.func126 ?_;refine aB [0,1] ?_;refine aA fun _ Z1=>aB [0,1] ?_;refine aD (aT [0,1,5] (fun n ρ=> ∃i,n=a.length-i∧(i≤a.length)∧(aKh a b=aKh (a.drop i) b)∧ρ=cO O [(0,bT a),(1,bT b),(5,vi (i:Nat))]) _ ⟨0,rfl,?_,?_,?_⟩ ?_)
 ·exact bE
 ·rfl
 ·exact b9
 rintro n ρ ⟨i,rfl,l0_0,l0_1,rfl⟩ _ Z3;refine aA fun _ Z4=>aB [0,1,5] ?_;refine aL (fun c0=>?_) fun c0=>?_
 ·refine aC (Z4 _ (aA fun _ Z6=>aD (aA fun _ Z7=>bL [0,1,5] ?_)));refine fF (pD _ b (a.getD i default)) ?_;refine Z7 _ (aL (fun c1=>?_) fun c1=>?_)
  ·refine aB [] ?_;refine aG (bU 4 (xb ?_))
   (rw[l0_1,bK default c0];unfold aKh;rw[cEc,show b.contains (a.getD i default)=true by simpa using c1];rfl)
  refine aC (Z6 _ (bA [0,1,5] ?_));refine Z3 _ _ bE ⟨i+1,rfl,bE,?_,b9⟩
  ·rw[l0_1,bK default c0];unfold aKh;rw[cEc,show b.contains (a.getD i default)=false by simpa using c1];rfl
 refine aY (Z1 _ (aB [] ?_));refine aG (bU 4 (xb ?_))
 (rw[l0_1,cT c0];rfl)
theorem jO (O:aV) (t:bP) (a b:Int) (ha:0≤a∧a<t.fRoutes.length) (hb:0≤b∧b<t.fRoutes.length):bB Tryz.prog O 129 [.agg (bW t),vi a,vi b] (vb (bDf t a b)):=by
 refine dD Tryz.func129 ?_;refine aB [0,1,2] ?_;refine aA fun _ Z1=>dE [1,2,3] [] ?_;refine Z1 _ (aG (bU 6 (xb ?_)))
 ((unfold bDf;first|rfl|simp))
theorem aKu {α β:Type} [Inhabited α] (e:α→β) (l:List α) (k:Nat):(List.range (l.length-k)).map (fun i=>e (l.getD (k+i) default))=(l.drop k).map e:=by
 apply cDs
 ·simp
 intro i h1 h2;simp only[cAr,cEv] at h1;simp[cFk,cEn (show k+i<l.length by omega)]
theorem m5 (O:aV) (t:bP) (s:dO) (r:Int) (hr:InR t s r):bB Tryz.prog O 127 [.agg (bW t),.agg (iT s),vi r] (bT (aIz t s r)):=by
 obtain ⟨h0,h1,h2,hrel,hsec,hovr⟩:=id hr;refine dD Tryz.func127 ?_;refine aB [0,1,2] ?_;refine aA fun _ Z1=>aB [2,3,4] ?_;refine aL (fun c0=>?_) fun c0=>?_
 ·refine aB [] ?_;refine kC 6 1 eI rfl rfl ?_;refine aG (bU 6 ?_);exact cG.encL rfl (by rw[aIz,if_pos c0])
 refine aC (Z1 _ (aA fun _ Z4=>?_));have hre:=hrel c0;refine bGd [2,3,4] [(6,28)] [14,28] [1,2,3,4,5,6,7,8,9,10,11,12,13,0,14,15] [14] [14] [] eG aZ (fun q hq=>?_) aZ (by simp (config := { maxSteps := 2000000 }) (disch:=omega) only[go_sem,seval]<;>repeat' first|exact rfl|exact trivial|apply bZh);cases hq;simp (config := { maxSteps := 2000000 }) (disch:=omega) only[go_sem,seval]
 repeat first|refine bZh rfl ?_|refine bZh bM ?_
 refine aPn (encL _ eI ((rtN t r).fSections.drop (rsN s r).fRel.toNat)) (bIi _ _ ?_) rfl rfl ?_
 ·first|exact aKu _ _ _|(simp;exact aKu _ _ _)
 simp (config := { maxSteps := 2000000 }) (disch:=omega) only[go_sem,seval]
 repeat first|refine bZh rfl ?_|refine bZh bM ?_
 refine Z4 _ (aG (bU 6 ?_));exact cG.encL rfl (by rw[aIz,if_neg c0])
theorem nJ (O:aV) (t:bP) (s:dO) (r:Int) (hr:InR t s r):bB Tryz.prog O 128 [.agg (bW t),.agg (iT s),vi r] (bT (aHj t s r)):=by
 obtain ⟨h0,h1,h2,hrel,hsec,hovr⟩:=id hr;refine dD Tryz.func128 ?_;refine aB [0,1,2] ?_;refine aA fun _ Z1=>aB [2,3,4] ?_;refine aL (fun c0=>?_) fun c0=>?_
 ·refine aB [] ?_;refine kC 6 1 eI rfl rfl ?_;refine aG (bU 6 ?_);exact cG.encL rfl (by rw[aHj,if_pos c0])
 refine aC (Z1 _ (aB [2,3] ?_));refine cB (e:=eI) 6 ((rtN t r).fOverSections) rfl (by simp (config := { maxSteps := 2000000 }) (disch:=omega) only[go_sem,seval];rfl) ?_;refine aG (bU 6 ?_);exact cG.encL rfl (by rw[aHj,if_neg c0])
def bLt (t:bP) (s:dO) (a b:Int):Bool:=aKh (aIz t s a) (aIz t s b)||(aKh (aHj t s a) (aIz t s b)&& !bDf t a b)
def bSr (t:bP) (s:dO) (a b:Int):Bool:=(!aKh (aHj t s a) (aHj t s b)||bDf t a b)||bDf t b a
def bHi (t:bP) (s:dO) (a b:Int):Bool:=if bLt t s a b=true then false else bSr t s a b
theorem aAk (O:aV) (t:bP) (s:dO) (a b:Int) (ha:InR t s a) (hb:InR t s b):bB Tryz.prog O 62 [.agg (bW t),.agg (iT s),vi a,vi b] (vb (bHi t s a b)):=by
 refine dD Tryz.func62 ?_;refine aB [0,1,2,3] ?_;refine aA fun _ Z1=>aA fun _ Z2=>dE [2,3,4,5] [] ?_;refine w4 (m5 _ t s a ha) ?_;refine w4 (m5 _ t s b hb) ?_;refine w4 (nF _ (aIz t s a) (aIz t s b)) ?_;refine i0 (fun g0=>nJ _ t s a ha) ?_;refine i0 (fun g1=>m5 _ t s b hb) ?_;refine i0 (fun g2=>nF _ (aHj t s a) (aIz t s b)) ?_;refine i0 (fun g3=>jO _ t a b ⟨ha.h0,ha.h1⟩ ⟨hb.h0,hb.h1⟩) ?_;refine Z2 _ (aL (fun c0=>?_) fun c0=>?_)
 ·refine aB [] ?_;refine aG (bU 8 (xb ?_))
  (rw[bHi,if_pos (by simpa[bLt] using c0)])
 refine aC (Z1 _ (aA fun _ Z4=>dE [2,3,4,5] [] ?_));refine w4 (nJ _ t s a ha) ?_;refine w4 (nJ _ t s b hb) ?_;refine w4 (nF _ (aHj t s a) (aHj t s b)) ?_;refine i0 (fun g4=>jO _ t a b ⟨ha.h0,ha.h1⟩ ⟨hb.h0,hb.h1⟩) ?_;refine i0 (fun g5=>jO _ t b a ⟨hb.h0,hb.h1⟩ ⟨ha.h0,ha.h1⟩) ?_;refine Z4 _ (aG (bU 8 (xb ?_)))
 (rw[bHi,if_neg (by unfold bLt;rw[c0.1];rcases c0.2 with h|h<;>rw[h]<;>simp)];first|rfl|simp[bSr])
def aOo (t:bP) (s:dO) (i:Nat):Bool:=zL (s.fRoutes.getD i default) ((t.fRoutes.getD i default).fSections.length:Int)
def aNv (x:Int):Bool:=decide (x=1)||decide (x=2)
def ftA (t:bP) (s:dO):Bool:=(decide (chk t=0)&&decide (s.fRoutes.length=t.fRoutes.length))&&decide (s.fLies.length=t.fPoints.length)
def ftB (t:bP) (s:dO):Bool:=ftA t s&&((List.range s.fRoutes.length).all (aOo t s)&&s.fLies.all aNv)
structure aUl (t:bP) (s:dO):Prop where
 rt:t.fRoutes.length≤50
 pt:t.fPoints.length≤40
 rs: ∀i,i<t.fRoutes.length→(t.fRoutes.getD i default).fSections.length≤30∧(t.fRoutes.getD i default).fOverSections.length≤30∧(t.fRoutes.getD i default).fPoints.length≤30∧(t.fRoutes.getD i default).fOverPoints.length≤30∧(t.fRoutes.getD i default).fFlank.length≤30
 ir:s.fRoutes.length≤50
 il:s.fLies.length≤40
theorem aUl.ck {t:bP} {s:dO} (h:aUl t s): ∀i,i<t.fRoutes.length→((t.fRoutes.getD i default).fSections++(t.fRoutes.getD i default).fOverSections).length≤100000:=fun i hi=>by
 have:=h.rs i hi;rw[cAb];omega
theorem aFb (O:aV) (t:bP) (s:dO) (hf:aUl t s):bB Tryz.prog O 59 [.agg (bW t),.agg (iT s)] (vb (ftB t s)):=by
 obtain ⟨f1,f2,f3,f4,f5⟩:=id hf;refine dD Tryz.func59 ?_;refine aB [0,1] ?_;refine aA fun _ Z1=>aA fun _ Z2=>bL [2,3] ?_;refine fF (aDc _ t hf.ck) ?_;refine Z2 _ (aL (fun c0=>?_) fun c0=>?_)
 ·refine aB [] ?_;refine aG (bU 4 (xb ?_))
  (rw[ftB,show ftA t s=false from by unfold ftA;rw[← cDg];intro h;simp only[bZi,cFp] at h;omega];rfl)
 refine aC (Z1 _ (aA fun _ Z4=>aB [2,3] ?_));refine aD (aT [2,3,5] (fun n ρ=> ∃i,n=s.fRoutes.length-i∧(i≤s.fRoutes.length)∧(gK (aOo t s) i)∧ρ=cO O [(2,.bx (bW t)),(3,.bx (iT s)),(5,vi (i:Nat))]) _ ⟨0,rfl,?_,?_,?_⟩ ?_)
 ·exact bE
 ·exact eD _
 ·exact b9
 rintro n ρ ⟨i,rfl,l0_0,l0_1,rfl⟩ _ Z6;have hle:s.fRoutes.length=t.fRoutes.length:=c0.1.2;refine aA fun _ Z7=>aB [2,3,5] ?_;refine aL (fun c1=>?_) fun c1=>?_
 ·refine aC (Z7 _ (aA fun _ Z9=>aD (aA fun _ Z10=>?_)));have hi2:i<t.fRoutes.length:=by omega
  have hsl:=f3 i hi2;refine dE [2,3,5] [] ?_;refine w4 (t7 _ (s.fRoutes.getD i default) ((t.fRoutes.getD i default).fSections.length:Int) aN (by have:=f3 i aN;omega)) ?_;refine Z10 _ (aL (fun c2=>?_) fun c2=>?_)
  ·refine aB [] ?_;refine aG (bU 4 (xb ?_))
   (rw[ftB,kK c1 (show aOo t s i=false by unfold aOo;simpa using c2),cBl,cBw])
  refine aC (Z9 _ (bA [2,3,5] ?_));refine Z6 _ _ bE ⟨i+1,rfl,bE,?_,b9⟩
  ·exact eA l0_1 (show aOo t s i=true by unfold aOo;simpa using c2)
 refine aY (Z4 _ (aA fun _ Z12=>aB [3] ?_));refine aD (aT [3,6] (fun n ρ=> ∃j,n=s.fLies.length-j∧(j≤s.fLies.length)∧(s.fLies.all aNv=(s.fLies.drop j).all aNv)∧ρ=cO O [(3,.bx (iT s)),(6,vi (j:Nat))]) _ ⟨0,rfl,?_,?_,?_⟩ ?_)
 ·exact bE
 ·rfl
 ·exact b9
 rintro n ρ ⟨j,rfl,l1_0,l1_1,rfl⟩ _ Z14;refine aA fun _ Z15=>aB [3,6] ?_;refine aL (fun c3=>?_) fun c3=>?_
 ·refine aC (Z15 _ (aA fun _ Z17=>aD (aB [3,6] ?_)));refine aL (fun c4=>?_) fun c4=>?_
  ·refine aB [] ?_;refine aG (bU 4 (xb ?_))
   (rw[ftB,l1_1,bK default c3,cCm,show aNv (s.fLies.getD j default)=false from by unfold aNv;rw[cFs aN,cFs aN];rfl,cBl,cBw,cBw])
  refine aC (Z17 _ (bA [3,6] ?_));refine Z14 _ _ bE ⟨j+1,rfl,bE,?_,b9⟩
  ·rw[l1_1,bK default c3,cCm,show aNv (s.fLies.getD j default)=true from by unfold aNv;rw[cEx,cFp,cFp];omega,cDm]
 refine aY (Z12 _ (aB [] ?_));refine aG (bU 4 (xb ?_))
 (rw[ftB,show ftA t s=true from by unfold ftA;rw[cFr c0.1.1,cFr c0.1.2,cFr c0.2];rfl,jT l0_1 aN,l1_1,cT c3];rfl)
theorem cF.takeL {α:Type} [Inhabited α] {z k:Nat} {e:α→List DV} {l:List α} {f:Nat→List DV} (h:k≤l.length) (hf: ∀i,i<k→f i=e (l.getD i default)):cF (.sl z k f) (encL z e (l.take k)):=by
 have hl:(l.take k).length=k:=by rw[cCw];omega
 show cF _ (.sl z (l.take k).length _);rw[hl];exact cF.sl z k (fun i hi=>by rw[hf i hi,aVz _ hi])
def o6 (t:bP) (s:dO) (r:Int):List Int:=(rtN t r).fSections.take (rsN s r).fRel.toNat
def hmS (t:bP) (x:aM):Int:=t.fHomes.getD (plI t x.fEl).toNat default
def aMb (t:bP) (s:dO) (r:Int) (x:aM):Bool:=((eL (rtN t r).fPoints x&& !(o6 t s r).contains (hmS t x))||eL (rtN t r).fOverPoints x)||eL (rtN t r).fFlank x
def zB (t:bP) (r:Int):List aM:=eK (g9 (rtN t r))
def lX (t:bP) (s:dO) (r:Int):List aM:=if (rsN s r).fState=0 then [] else (zB t r).filter (aMb t s r)
def zF (t:bP) (s:dO) (r:Int) (i:Nat):List aM:=((zB t r).take i).filter (aMb t s r)
theorem bQe {t:bP} {s:dO} {r:Int} {i:Nat} (hi:i<(zB t r).length) (h:aMb t s r ((zB t r).getD i default)=true):zF t s r (i+1)=zF t s r i++[(zB t r).getD i default]:=by
 unfold zF;rw[d9 default hi,cDu,cFc,if_pos h];rfl
theorem bLf {t:bP} {s:dO} {r:Int} {i:Nat} (hi:i<(zB t r).length) (h:aMb t s r ((zB t r).getD i default)=false):zF t s r (i+1)=zF t s r i:=by
 unfold zF;rw[d9 default hi,cDu,cFc,if_neg (by rw[h];simp)];simp
theorem aXg (t:bP) (s:dO) (r:Int) (i:Nat):(zF t s r i).length≤i:=by
 unfold zF;refine cBc (cCf _ _) ?_;rw[cCw];omega
theorem bOe {t:bP} {s:dO} {r:Int} {i:Nat} (h: ¬(rsN s r).fState=0) (hi:(zB t r).length≤i):zF t s r i=lX t s r:=by
 unfold zF lX;rw[if_neg h,cCi hi]
structure aFu (t:bP) (s:dO) (r:Int):Prop where
 ir:InR t s r
 pl: ∀x∈g9 (rtN t r),0≤plI t x.fEl∧plI t x.fEl<t.fHomes.length
 hb:(g9 (rtN t r)).length≤240
 al:(zB t r).length≤240
theorem aFu.at {t:bP} {s:dO} {r:Int} (h:aFu t s r) {i:Nat} (hi:i<(zB t r).length):0≤plI t ((zB t r).getD i default).fEl∧plI t ((zB t r).getD i default).fEl<t.fHomes.length:=by
 refine h.pl _ ((jD _ _).1 ?_);have:(zB t r).getD i default∈zB t r:=by rw[cFk,cEn hi];exact cDh _
 exact this
theorem aCi (O:aV) (t:bP) (s:dO) (r:Int) (hk:aFu t s r):bB Tryz.prog O 60 [.agg (bW t),.agg (iT s),vi r] (dJ (lX t s r)):=by
 obtain ⟨⟨h0,h1,h2,hrel,hsec,hovr⟩,hpl,hbb,hal⟩:=id hk;refine dD Tryz.func60 ?_;refine aB [0,1,2] ?_;refine aA fun _ Z1=>aB [2,3,4] ?_;refine aL (fun c0=>?_) fun c0=>?_
 ·refine aB [] ?_;refine kC 6 2 bJ rfl rfl ?_;refine aG (bU 6 ?_);exact cG.encL rfl (by rw[lX,if_pos c0])
 refine aC (Z1 _ (aB [2,3,4] ?_));refine aA fun _ Z5=>?_;have hre:=hrel c0;have hre2:(rsN s r).fRel.toNat≤(rtN t r).fSections.length:=by have:=hrel c0;omega
 refine dE [2,3,4,7] [(8,34)] ?_;refine Z5 _ (aA fun _ Z6=>aZa 8 (bT (o6 t s r)) rfl rfl (cF.takeL hre2 (fun i hi=>by first|rfl|simp)) rfl rfl ?_);refine bL [3,7,8,26,27,33] ?_;refine fF (wC _ (rtN t r) hbb) ?_;refine Z6 _ (aB [3,7,8,9,26,27,33] ?_);refine aA fun _ Z8=>aB [3,7,8,9,10,26,27,33] ?_;refine aD (dF 10 131 2 bJ rfl rfl ?_);refine aT [3,7,8,9,10,11] (fun n ρ=> ∃i,n=(zB t r).length-i∧(i≤(zB t r).length)∧ρ=cO O [(3,.bx (bW t)),(7,.bx (bR (rtN t r))),(8,bT (o6 t s r)),(9,dJ (zB t r)),(10,rowL 131 2 bJ (zF t s r i)),(11,vi (i:Nat))]) _ ⟨0,rfl,?_,?_⟩ ?_
 ·exact bE
 ·exact b9
 rintro n ρ ⟨i,rfl,l0_0,rfl⟩ _ Z10;have hkl:=aXg t s r i;refine aA fun _ Z11=>aB [3,7,8,9,10,11,26,27,33] ?_;refine aL (fun c1=>?_) fun c1=>?_
 ·refine aC (Z11 _ (aA fun _ Z13=>aD (aA fun _ Z14=>?_)));have hat:=hk.at c1;refine dE [3,7,8,9,10,11,26,27,33] [] ?_;refine w4 (l9 _ t ((zB t r).getD i default).fEl) ?_;refine Z14 _ (aA fun _ Z15=>dE [3,7,8,9,10,11,12,26,27,33] [] ?_);refine w4 (oX _ (rtN t r).fPoints ((zB t r).getD i default)) ?_;refine i0 (fun g0=>pD _ (o6 t s r) (hmS t ((zB t r).getD i default))) ?_;refine Z15 _ (aA fun _ Z16=>dE [3,7,8,9,10,11,13,26,27,33] [] ?_);refine i0 (fun g1=>oX _ (rtN t r).fOverPoints ((zB t r).getD i default)) ?_;refine i0 (fun g2=>oX _ (rtN t r).fFlank ((zB t r).getD i default)) ?_;refine Z16 _ (aL (fun c2=>?_) fun c2=>?_)
  ·refine bA [3,7,8,9,10,11,26,27,33] ?_;refine Z13 _ (bA [3,7,8,9,10,11,26,27,33] ?_);refine Z10 _ _ bE ⟨i+1,rfl,bE,?_⟩;simp (config := { maxSteps := 2000000 }) (disch:=omega) only[go_sem,seval]<;>(rw[bQe c1 (show aMb t s r ((zB t r).getD i default)=true by unfold aMb;simpa using c2),cAl];rfl)
  refine aC (Z13 _ (bA [3,7,8,9,10,11,26,27,33] ?_));refine Z10 _ _ bE ⟨i+1,rfl,bE,?_⟩;simp (config := { maxSteps := 2000000 }) (disch:=omega) only[go_sem,seval]<;>(rw[bLf c1 (show aMb t s r ((zB t r).getD i default)=false by unfold aMb;rw[c2.2,c2.1.2];rcases c2.1.1 with h|h<;>rw[h]<;>simp)];rfl)
 refine aY (Z8 _ (aA fun _ Z17=>cB (e:=bJ) 10 (zF t s r i) rfl rfl ?_));refine bA [10] ?_;refine Z17 _ (aG (bU 6 ?_));exact cG.encL rfl (by rw[bOe c0 aN])
end Go.Sg
