/- Several texts as one. -/
import Derived.Test.YtanpjnlhfdcicaaGreatDoorK6
import Derived.Lib.ItoaLen
import Derived.Lib.ItoaMem
import Derived.Lib.RowBridge
import Derived.Recover
set_option linter.unusedSectionVars false
set_option linter.unusedVariables false
set_option linter.unusedSimpArgs false
set_option maxRecDepth 20000
set_option maxHeartbeats 16000000
namespace Go.Sg
open Go.Proofs
theorem stbh {p q:Prop} (k:q) (h:Wr q→p:=by intro hk;(try simp (config := { maxSteps := 2000000 }) only[go_sem,seval,hsx,hbQ]);(try simp (config := { maxSteps := 2000000 }) (disch:=omega) only[go_sem,seval,hsx,hbQ]);(repeat refine cP kN ?_);exact hk.out):p:=h ⟨k⟩
theorem sfbh {p:Prop} (h:p:=by first|rfl|(((try simp (config := { maxSteps := 2000000 }) only[go_sem,seval,hsx,hbQ]);(try simp (config := { maxSteps := 2000000 }) (disch:=omega) only[go_sem,seval,hsx,hbQ]));done)|(((try simp (config := { maxSteps := 2000000 }) only[go_sem,seval,hsx,hbQ]);(try simp (config := { maxSteps := 2000000 }) (disch:=omega) only[go_sem,seval,hsx,hbQ]))<;>rfl)):p:=h
theorem eqbh {p:Prop} (h:p:=by ((try simp (config := { maxSteps := 2000000 }) only[go_sem,seval,hsx,hbQ]);(try simp (config := { maxSteps := 2000000 }) (disch:=omega) only[go_sem,seval,hsx,hbQ]))<;>first|rfl|simp):p:=h
attribute [go_sem] uJ
def aWh (x:Int):List Int→List Int
 | []=>[x]
 |y::s=>if x<y then x::y::s else y::aWh x s
def aBm (s:List Int) (x:Int):List Int:=if s.contains x then s else aWh x s
abbrev bQz (l:List Int):DV:=rowL 3 1 eI l
theorem bTi (x:Int) (l:List Int):(aWh x l).length=l.length+1:=by
 induction l with
 |nil=>rfl
 |cons y s ih=>unfold aWh;split<;>simp[ih]
theorem aBp (O:aN) (l:List Int) (x:Int):aZ Tryz.prog O 70 [d5 l,vi x] (vb (l.contains x)):=by
 refine bG 0 rfl (.sl _ _ _) fun hl=>?_;refine eV Tryz.func70 ?_;refine aB [0,1] ?_;refine aA fun _ Z1=>aB [0,1] ?_;refine aI (aX [0,1,5] (fun n ρ=> ∃i,n=l.length-i∧(i≤l.length)∧(l.contains x=(l.drop i).contains x)∧ρ=dU O [(0,d5 l),(1,vi x),(5,vi (i:Nat))]) _ ⟨0,rfl,?_,?_,?_⟩ ?_)
 ·exact bD
 ·exact bD
 ·exact dT
 rintro n ρ ⟨i,rfl,l0_0,l0_1,rfl⟩ _ Z3;refine aA fun _ Z4=>aB [0,1,5] ?_;refine aO (fun c0=>?_) fun c0=>?_
 ·refine aD (Z4 _ (aA fun _ Z6=>aI (aB [0,1,5] ?_)));refine aO (fun c1=>?_) fun c1=>?_
  ·refine aB [] ?_;refine aL (dN 4 (xb ?_))
   (rw[l0_1,dL default c0];simp[← c1])
  refine aD (Z6 _ (bE [0,1,5] ?_));refine Z3 _ _ bD ⟨i+1,rfl,bD,?_,dT⟩
  ·rw[l0_1,dL default c0,List.contains_cons,oF.2 (fC c1)];rfl
 refine bA (Z1 _ (aB [] ?_));refine aL (dN 4 (xb ?_))
 (rw[l0_1,iW c0];rfl)
theorem aGf (O:aN) (l:List Int) (x:Int) (hb:l.length≤1000000):aZ Tryz.prog O 71 [d5 l,vi x] (d5 (aBm l x)):=by
 refine eV Tryz.func71 ?_;refine aB [0,1] ?_;refine aA fun _ Z1=>aA fun _ Z2=>bN [0,1] ?_;refine f9 (aBp _ _ _) ?_;refine Z2 _ (aO (fun c0=>?_) fun c0=>?_)
 ·refine aB [0] ?_;refine aL (dN 4 ?_);exact dX.encL rfl (by rw[aBm,if_pos c0])
 refine aD (Z1 _ (aB [0,1] ?_));refine aB [0,1,5] ?_;refine aA fun _ Z6=>aB [0,1,5,6] ?_;refine aI (l4 5 3 1 eI rfl rfl ?_);refine aX [0,1,5,6,7] (fun n ρ=> ∃i,∃out,∃dn,n=l.length-i∧(i≤l.length)∧((if dn then out++l.drop i else out++aWh x (l.drop i))=aWh x l)∧(dn=false→out.length≤i)∧(out.length≤i+1)∧ρ=dU O [(0,d5 l),(1,vi x),(5,bQz out),(6,vb dn),(7,vi (i:Nat))]) _ ⟨0,[],false,rfl,?_,?_,?_,?_,?_⟩ ?_
 ·exact bD
 ·exact bD
 ·exact bD
 ·exact bD
 ·exact dT
 rintro n ρ ⟨i,out,dn,rfl,l0_0,l0_1,l0_2,l0_3,rfl⟩ _ Z8;refine aA fun _ Z9=>aB [0,1,5,6,7] ?_;refine aO (fun c1=>?_) fun c1=>?_
 ·refine aD (Z9 _ (aA fun _ Z11=>aI (aA fun _ Z12=>aB [0,1,5,6,7] ?_)));refine aO (fun c2=>?_) fun c2=>?_
  ·refine aB [0,1,5,7] ?_;refine bE [0,1,5,7] ?_;refine Z12 _ (bE [0,1,5,6,7] ?_);refine Z11 _ (bE [0,1,5,6,7] ?_);refine Z8 _ _ bD ⟨i+1,out++[x,l.getD i default],true,rfl,bD,?_,?_,?_,dT⟩
   ·rw[if_pos rfl,← l0_1,if_neg (by simp[c2.1]),dL default c1,aWh,if_pos c2.2];simp
   ·intro h;cases h
   ·have:=l0_2 c2.1;simp<;>omega
  refine aD (Z12 _ (bE [0,1,5,6,7] ?_));refine Z11 _ (bE [0,1,5,6,7] ?_);refine Z8 _ _ bD ⟨i+1,out++[l.getD i default],dn,rfl,bD,?_,?_,?_,dT⟩
  ·rw[← l0_1];rcases dn with _|_
   ·have: ¬x<l.getD i default:=by simpa using c2
    rw[dL default c1,aWh,if_neg this];simp
   rw[dL default c1];simp
  ·intro h;have:=l0_2 h;simp;omega
  ·simp;omega
 refine bA (Z6 _ (aA fun _ Z15=>aB [1,5,6] ?_));refine aO (fun c3=>?_) fun c3=>?_
 ·refine bE [1,5] ?_;refine Z15 _ (aA fun _ Z17=>iS 5 _ rfl rfl ?_);refine bE [5] ?_;refine Z17 _ (aL (dN 4 ?_));exact dX.encL rfl (by rw[aBm,if_neg (by rw[c0];decide),← l0_1,if_neg (by simp[c3]),iW c1];rfl)
 refine aD (Z15 _ (aA fun _ Z18=>iS 5 _ rfl rfl ?_));refine bE [5] ?_;refine Z18 _ (aL (dN 4 ?_));exact dX.encL rfl (by rw[aBm,if_neg (by rw[c0];decide),← l0_1,if_pos c3,iW c1,kZ])
theorem sD (O:aN) (l:List Int) (hb:l.length≤1000000):aZ Tryz.prog O 99 [d5 l] (bQz l):=by
 refine eV Tryz.func99 ?_;refine aB [0] ?_;refine aA fun _ Z1=>aA fun _ Z2=>bN [0] ?_;intro β hβ;refine Z2 _ (aO (fun c0=>?_) fun c0=>?_)
 ·obtain rfl:l=[]:=by
   cases l with
   |nil=>rfl
   |cons x l=>have:=hβ dH;simp_all
  refine aB [] ?_;refine aL (dN 2 ?_);exact dX.nilrow _ _ sz
 refine aD (Z1 _ (aB [0] ?_));refine aL (dN 2 ?_);exact dX.rowL rfl (by rfl)
theorem bVk (s:List Int) (x:Int):(aBm s x).length≤s.length+1:=by
 unfold aBm;split
 ·omega
 rw[bTi];omega
def xE (a b:List Int) (w:Bool):List Int:=a.foldl (fun acc x=>if b.contains x==w then aBm acc x else acc) []
theorem aJp (O:aN) (a b:List Int) (w:Bool) (ha:a.length≤1000):aZ Tryz.prog O 30 [d5 a,d5 b,vb w] (d5 (xE a b w)):=by
 refine bG 0 rfl (.sl _ _ _) fun hl=>?_;refine eV Tryz.func30 ?_;refine aB [0,1,2] ?_;refine aB [0,1,2] ?_;refine aA fun _ Z2=>aB [0,1,2,7] ?_;refine aI (xL 7 1 eI rfl rfl ?_);refine aX [0,1,2,7,8] (fun n ρ=> ∃i,∃acc,n=a.length-i∧(i≤a.length)∧((a.drop i).foldl (fun acc x=>if b.contains x==w then aBm acc x else acc) acc=xE a b w)∧(acc.length≤i)∧ρ=dU O [(0,d5 a),(1,d5 b),(2,vb w),(7,d5 acc),(8,vi (i:Nat))]) _ ⟨0,[],rfl,?_,?_,?_,?_⟩ ?_
 ·exact bD
 ·rfl
 ·exact bD
 ·exact dT
 rintro n ρ ⟨i,acc,rfl,l0_0,l0_1,l0_2,rfl⟩ _ Z4;refine aA fun _ Z5=>aB [0,1,2,7,8] ?_;refine aO (fun c0=>?_) fun c0=>?_
 ·refine aD (Z5 _ (aA fun _ Z7=>aI (aA fun _ Z8=>bN [0,1,2,7,8] ?_)));refine f9 (aBp _ _ _) ?_;refine Z8 _ (aO (fun c1=>?_) fun c1=>?_)
  ·refine bN [0,1,2,7,8] ?_;refine f9 (aGf _ _ _ (by first|assumption|omega|decide)) ?_;refine Z7 _ (bE [0,1,2,7,8] ?_);refine Z4 _ _ bD ⟨i+1,aBm acc (a.getD i default),rfl,bD,?_,?_,dT⟩
   ·rw[← l0_1,dL default c0,aNh,if_pos (by simpa using c1)]
   ·have:=bVk acc (a.getD i default);omega
  refine aD (Z7 _ (bE [0,1,2,7,8] ?_));refine Z4 _ _ bD ⟨i+1,acc,rfl,bD,?_,bD,dT⟩
  ·rw[← l0_1,dL default c0,aNh,if_neg (by simpa using c1)]
 refine bA (Z2 _ (aB [7] ?_));refine aL (dN 6 ?_);exact dX.encL rfl (by rw[← l0_1,iW c0];rfl)
theorem aIv (O:aN) (a b:List Int) (ha:a.length≤1000) (hb:b.length≤1000):aZ Tryz.prog O 9 [d5 a,d5 b] (d5 (xE a b true)):=by
 refine eV Tryz.func9 ?_;refine aB [0,1] ?_;refine aA fun _ Z1=>bN [0,1] ?_;refine f9 (aJp _ _ _ _ (by first|assumption|omega|decide)) ?_;refine Z1 _ (aL (dN 4 ?_));exact dX.encL rfl (by rfl)
theorem aFt (O:aN) (p q:Bool):aZ Tryz.prog O 233 [vb p,vb q] (vb (p&&q)):=by
 refine eV Tryz.func233 ?_;refine aB [0,1] ?_;refine aB [0,1] ?_;refine aL (dN 4 ?_);exact xd
def mrg (k:Bool→Bool→Bool):List Int→List Int→List Int
 | [],[]=>[]
 |x::a,[]=>(if k true false then [x] else [])++mrg k a []
 | [],y::b=>(if k false true then [y] else [])++mrg k [] b
 |x::a,y::b=>
  if x<y then (if k true false then [x] else [])++mrg k a (y::b)
  else if y<x then (if k false true then [y] else [])++mrg k (x::a) b
  else (if k true true then [x] else [])++mrg k a b
termination_by a b=>a.length+b.length
theorem cTj (l:List Int):(Lib.compact (srt l)).length≤l.length:=by
 have:=Lib.compact_length_le (srt l);simpa using this
def mkZ (l:List Int):List Int:=Lib.compact (srt l)
theorem aTr (O:aN) (l:List Int) (hb:l.length≤100000):aZ Tryz.prog O 232 [d5 l] (rowL 3 1 eI (mkZ l)):=by
 refine eV Tryz.func232 ?_;refine aB [0] ?_;refine aA fun _ Z1=>bN [0] ?_;refine f9 (sD _ l aV) ?_;refine Z1 _ (aA fun _ Z2=>bN [3] ?_);refine ⟨_,aCd (s:=3) rfl Tryz.slices_Sort_int_none (fun blk off cap zs w h1 h2 h3=>Tryz.slices_Sort_int blk off cap zs w h1 h2 h3) aV,?_⟩;rintro O1 r1 ⟨rfl,rfl⟩;refine lL ?_;refine Z2 _ (aA fun _ Z3=>bN [3] ?_);refine ⟨_,aBg (s:=3) (l:=srt l) rfl Tryz.slices_Compact_int_empty (fun blk off cap zs w h1 h2 h3=>Tryz.slices_Compact_int blk off cap zs w h1 h2 h3) (Lib.compact_length_le _),?_⟩;rintro O1 r1 ⟨rfl,rfl⟩;refine lL ?_;refine Z3 _ (aL (dN 2 (dX.cut rfl aV rfl ?_ ?_)))
 ·simp
 simp[mkZ]
theorem aBv (O:aN) (l:List Int) (hb:l.length≤100000):aZ Tryz.prog O 232 [d5 l] (d5 (mkZ l)):=dA (aTr O l hb)
theorem aDq (O:aN) (a b:List Int) (kf:FuncId) (k:Bool→Bool→Bool) (hk: ∀O p q,aZ Tryz.prog O kf [vb p,vb q] (vb (k p q))) (hsx:aM Tryz.prog kf=true) (hb:a.length+b.length≤1000000):aZ Tryz.prog O 231 [d5 a,d5 b,.fn kf [] []] (rowL 3 1 eI (mrg k a b)):=by
 refine eV Tryz.func231 ?_;refine bB [0,1,2] ?_;refine bB [0,1,2] ?_;refine aA fun _ Z2=>aI (l4 7 3 1 eI rfl rfl ?_);refine aX [0,1,2,7] (fun n ρ=> ∃c,∃d,∃out,n=c.length+d.length∧(out++mrg k c d=mrg k a b)∧(out.length+c.length+d.length≤a.length+b.length)∧ρ=dU O [(0,d5 c),(1,d5 d),(2,.fn kf [] []),(7,bQz out)]) _ ⟨a,b,[],rfl,?_,?_,?_⟩ ?_
 ·rfl
 ·exact bD
 ·exact eX
 rintro n ρ ⟨c,d,out,rfl,l0_0,l0_1,rfl⟩ _ Z3;rcases c with _|⟨x,c⟩<;>rcases d with _|⟨y,d⟩
 ·skip
  refine aA fun _ Z4=>bB [0,1,2,7] ?_;refine dY false (by rfl) (rfl) (fun h=>by cases h) (fun _=>?_);refine bA (Z2 _ (bB [7] ?_));refine aL (mA 6 ?_);exact dX.ownL rfl aV rfl rfl (by rw[mrg] at l0_0;simpa using l0_0)
 ·skip
  refine aA fun _ Z7=>bB [0,1,2,7] ?_;refine dY true (by rfl) (rfl) (fun _=>?_) (fun h=>by cases h);refine aD (Z7 _ (aI (aA fun _ Z9=>jF [0,1,2,7] [] ?_)));refine Z9 _ (aA fun _ Z10=>jF [0,1,2,7,8] [] ?_);refine Z10 _ (bB [0,1,2,7,8,9] ?_);refine aA fun _ Z12=>bB [0,1,2,7,8,9,10] ?_;refine dY false (by rfl) (rfl) (fun h=>by cases h) (fun _=>?_);refine aD (Z12 _ (aA fun _ Z14=>bB [0,1,2,7,8,9,10] ?_));refine dY true (by rfl) (rfl) (fun _=>?_) (fun h=>by cases h);refine jF [0,1,2,7,8,9] [(1,64)] ?_;refine Z14 _ (aA fun _ Z16=>eZ [0,1,2,7,8,9,10] ?_);refine pV (hk _ _ _) ?_;refine Z16 _ (aO (fun c4=>?_) fun c4=>?_)
  ·refine cS [0,1,2,7,10] bF ?_;refine gE ?_;refine Z3 _ _ bD ⟨[],d,out++[y],rfl,?_,bD,?_⟩
   ·rw[← l0_0,mrg];simp_all
   exact eX
  refine aD (Z3 _ _ bD ⟨[],d,out,rfl,?_,bD,?_⟩)
  ·rw[← l0_0,mrg];simp_all
  exact eX
 ·skip
  refine aA fun _ Z17=>bB [0,1,2,7] ?_;refine dY true (by rfl) (rfl) (fun _=>?_) (fun h=>by cases h);refine aD (Z17 _ (aI (aA fun _ Z19=>jF [0,1,2,7] [] ?_)));refine Z19 _ (aA fun _ Z20=>jF [0,1,2,7,8] [] ?_);refine Z20 _ (bB [0,1,2,7,8,9] ?_);refine aA fun _ Z22=>bB [0,1,2,7,8,9,10] ?_;refine dY true (by rfl) (rfl) (fun _=>?_) (fun h=>by cases h);refine jF [0,1,2,7,8,9] [(0,58)] ?_;refine Z22 _ (aA fun _ Z24=>bB [0,1,2,7,8,9,10] ?_);refine dY false (by rfl) (rfl) (fun h=>by cases h) (fun _=>?_);refine aD (Z24 _ (aA fun _ Z26=>eZ [0,1,2,7,8,9,10] ?_));refine pV (hk _ _ _) ?_;refine Z26 _ (aO (fun c8=>?_) fun c8=>?_)
  ·refine cS [0,1,2,7,10] bF ?_;refine gE ?_;refine Z3 _ _ bD ⟨c,[],out++[x],rfl,?_,bD,?_⟩
   ·rw[← l0_0,mrg];simp_all
   exact eX
  refine aD (Z3 _ _ bD ⟨c,[],out,rfl,?_,bD,?_⟩)
  ·rw[← l0_0,mrg];simp_all
  exact eX
 skip
 refine aA fun _ Z27=>bB [0,1,2,7] ?_;refine dY true (by rfl) (rfl) (fun _=>?_) (fun h=>by cases h);refine aD (Z27 _ (aI (aA fun _ Z29=>jF [0,1,2,7] [] ?_)));refine Z29 _ (aA fun _ Z30=>jF [0,1,2,7,8] [] ?_);refine Z30 _ (bB [0,1,2,7,8,9] ?_);refine aA fun _ Z32=>bB [0,1,2,7,8,9,10] ?_;refine aO (fun c10=>?_) fun c10=>?_
 ·refine nP [0,1,2,7,8,9] [(0,58)] kR bF ?_;refine gE ?_;refine Z32 _ (aA fun _ Z34=>bB [0,1,2,7,8,9,10] ?_);refine aO (fun c11=>?_) fun c11=>?_
  ·refine nP [0,1,2,7,8,9] [(1,64)] kR bF ?_;refine gE ?_;refine Z34 _ (aA fun _ Z36=>eZ [0,1,2,7,8,9,10] ?_);refine pV (hk _ _ _) ?_;refine Z36 _ (aO (fun c12=>?_) fun c12=>?_)
   ·refine cS [0,1,2,7,10] bF ?_;refine gE ?_;refine Z3 _ _ bD ⟨c,d,out++[y],rfl,?_,bD,?_⟩
    ·have e:x=y:=by omega
     subst e;rw[← l0_0,mrg,if_neg aV,if_neg aV];simp_all
    exact eX
   refine aD (Z3 _ _ bD ⟨c,d,out,rfl,?_,bD,?_⟩)
   ·have e:x=y:=by omega
    subst e;rw[← l0_0,mrg,if_neg aV,if_neg aV];simp_all
   exact eX
  refine aD (Z34 _ (aA fun _ Z37=>eZ [0,1,2,7,8,9,10] ?_));refine pV (hk _ _ _) ?_;refine Z37 _ (aO (fun c13=>?_) fun c13=>?_)
  ·refine cS [0,1,2,7,10] bF ?_;refine gE ?_;refine Z3 _ _ bD ⟨c,y::d,out++[x],rfl,?_,bD,?_⟩
   ·have h1: ¬y≤x:=by omega
    rw[← l0_0,mrg,if_pos aV];simp_all
   exact eX
  refine aD (Z3 _ _ bD ⟨c,y::d,out,rfl,?_,bD,?_⟩)
  ·have h1: ¬y≤x:=by omega
   rw[← l0_0,mrg,if_pos aV];simp_all
  exact eX
 refine aD (Z32 _ (aA fun _ Z38=>bB [0,1,2,7,8,9,10] ?_));refine aO (fun c14=>?_) fun c14=>?_
 ·refine nP [0,1,2,7,8,9] [(1,64)] kR bF ?_;refine gE ?_;refine Z38 _ (aA fun _ Z40=>eZ [0,1,2,7,8,9,10] ?_);refine pV (hk _ _ _) ?_;refine Z40 _ (aO (fun c15=>?_) fun c15=>?_)
  ·refine cS [0,1,2,7,10] bF ?_;refine gE ?_;refine Z3 _ _ bD ⟨x::c,d,out++[y],rfl,?_,bD,?_⟩
   ·have h1: ¬x≤y:=by omega
    rw[← l0_0,mrg,if_neg aV,if_pos aV];simp_all
   exact eX
  refine aD (Z3 _ _ bD ⟨x::c,d,out,rfl,?_,bD,?_⟩)
  ·have h1: ¬x≤y:=by omega
   rw[← l0_0,mrg,if_neg aV,if_pos aV];simp_all
  exact eX
 omega
theorem bUo (l:List Int):(mkZ l).length≤l.length:=cTj l
def com (a b:List Int):List Int:=mrg (fun p q=>p&&q) (mkZ a) (mkZ b)
def cCx:Go.Shelf.Ren:=⟨fun|4=>216|n=>n,fun|22=>138|25=>141|n=>n,fun|n=>n⟩
theorem aVu:Go.Proofs.Lays8.n4 Tryz.prog cCx:={
 mixed:=by kernel_rfl
 f4:=⟨Tryz.f216.name,by decide,Tryz.func216.trans (congrArg some bF)⟩
 t0:=Tryz.underlying0
 a0:=Tryz.isAgg0
 z0:=Tryz.sizeOf0
 v0:=Tryz.zeroValue0
 t3:=Tryz.underlying3
 a3:=Tryz.isAgg3
 z3:=Tryz.sizeOf3
 v3:=Tryz.zeroValue3
 t4:=Tryz.underlying4
 a4:=Tryz.isAgg4
 z4:=Tryz.sizeOf4
 v4:=Tryz.zeroValue4
 t9:=Tryz.underlying9
 a9:=Tryz.isAgg9
 z9:=Tryz.sizeOf9
 v9:=Tryz.zeroValue9
 t20:=Tryz.underlying20
 a20:=Tryz.isAgg20
 z20:=Tryz.sizeOf20
 v20:=Tryz.zeroValue20
 t22:=Tryz.underlying138
 a22:=Tryz.isAgg138
 z22:=Tryz.sizeOf138
 v22:=Tryz.zeroValue138}
abbrev aFp (l:List aY):DV:=encL 2 bO l
abbrev bHr (l:List aY):DV:=rowL 141 2 bO l
theorem vH (O:aN) (n:Nat) (hn:0<n) (hb:n≤1000000):aZ Tryz.prog O 216 [.v (.slice none 0 0),vi n] (bHr []):=
 aCj aVu rfl rfl (show nE Tryz.prog 138=some (141,2,16) by kernel_rfl) (show eW Tryz.prog 141=some [.int .i64 0,.int .i64 0] by kernel_rfl) eN rfl rfl O n hn aV aV
theorem wR (O:aN) (n:Nat) (hb:n≤1000000):aZ Tryz.prog O 216 [.v (.slice none 0 0),vi n] (bHr []):=by
 rcases nL n with h|h
 ·subst h;exact zH aVu rfl rfl O 141 2
 exact vH O n h hb
abbrev aCc (ls:List (List aY)):DV:=encL 1 (fun l=>[aFp l]) ls
section
attribute [local go_sem] uJ
theorem uT (O:aN) (ls:List (List aY)) (hb:ls.flatten.length≤100000):aZ Tryz.prog O 196 [aCc ls] (bHr ls.flatten):=by
 refine bG 0 rfl (.sl _ _ _) fun hl=>?_;refine eV Tryz.func196 ?_;refine aB [0] ?_;refine aB [0] ?_;refine aA fun _ Z2=>aB [0,3] ?_;refine aI (aX [0,3,9,10,11] (fun n ρ=> ∃i,∃s,n=ls.length-i∧(i≤ls.length)∧(s+(ls.drop i).flatten.length=ls.flatten.length)∧ρ=dU O [(0,aCc ls),(3,vi (s:Nat)),(9,aCc ls),(10,vi (ls.length:Nat)),(11,vi (i:Nat))]) _ ⟨0,0,rfl,?_,?_,?_⟩ ?_)
 ·exact bD
 ·simp
 ·exact dT
 rintro n ρ ⟨i,s,rfl,l0_0,l0_1,rfl⟩ _ Z4;refine aB [0,3,9,10,11] ?_;refine aA fun _ Z6=>aO (fun c0=>?_) fun c0=>?_
 ·refine aD (Z6 _ (aA fun _ Z7=>aI (aB [0,3,9,10,11] ?_)));refine aA fun _ Z9=>?_;have hs:s+(ls.getD i default).length+(ls.drop (i+1)).flatten.length=ls.flatten.length:=by rw[← l0_1,dL default c0,List.flatten_cons,fP];omega
  refine bE [0,3,5,9,10,11,13] ?_;refine Z9 _ (aB [0,3,9,10,11] ?_);refine aO (fun c1=>?_) fun c1=>?_
  ·omega
  refine aD (Z7 _ (bE [0,3,9,10,11] ?_));refine Z4 _ _ bD ⟨i+1,s+(ls.getD i default).length,rfl,bD,?_,dT⟩
  ·exact hs
 refine bA (Z2 _ (aA fun _ Z11=>bN [0,3] ?_));refine f9 (wR _ s aV) ?_;refine Z11 _ (aA fun _ Z12=>aB [0,6] ?_);refine aI (aX [6,25,26,27] (fun n ρ=> ∃j,∃out,n=ls.length-j∧(j≤ls.length)∧(out++(ls.drop j).flatten=ls.flatten)∧ρ=dU O [(6,bHr out),(25,aCc ls),(26,vi (ls.length:Nat)),(27,vi (j:Nat))]) _ ⟨0,[],rfl,?_,?_,?_⟩ ?_)
 ·exact bD
 ·rfl
 ·exact dT
 rintro n ρ ⟨j,out,rfl,l1_0,l1_1,rfl⟩ _ Z14;refine aB [0,6,25,26,27] ?_;refine aA fun _ Z16=>aO (fun c2=>?_) fun c2=>?_
 ·refine aD (Z16 _ (aA fun _ Z17=>aI (aB [0,6,25,26,27] ?_)));have hs:(out++ls.getD j default).length≤ls.flatten.length:=by rw[← l1_1,dL default c2,List.flatten_cons,fP,fP,fP];omega
  rw[fP] at hs;refine bE [0,6,8,25,26,27,29] ?_;refine Z17 _ (bE [0,6,25,26,27] ?_);refine Z14 _ _ bD ⟨j+1,out++ls.getD j default,rfl,bD,?_,dT⟩
  ·rw[← l1_1,dL default c2,List.flatten_cons,tB]
 refine bA (Z12 _ (aB [6] ?_));refine aL (dN 2 ?_);exact dX.ownL rfl aV rfl rfl (by rw[← l1_1,iW c2];simp)
end
theorem oH (O:aN) (ls:List (List aY)) (hb:ls.flatten.length≤100000):aZ Tryz.prog O 196 [aCc ls] (aFp ls.flatten):=dA (uT O ls hb)
def bJv (s:aY) (b:List aY):Bool:=b.all fun t=> !(s.fEl==t.fEl&&s.xAo !=t.xAo)
def aLm (a b:List aY):Bool:=a.all fun s=>bJv s b
theorem cMm {p q:aY} (h: ¬p.fEl=q.fEl∨p.xAo=q.xAo):(p.fEl==q.fEl&&p.xAo !=q.xAo)=false:=by rcases h with h|h<;>simp[h]
theorem aQz (s:aY) (a b:List aY):aLm (s::a) b=(bJv s b&&aLm a b):=rfl
theorem aQo (s t:aY) (b:List aY):bJv s (t::b)=(!(s.fEl==t.fEl&&s.xAo !=t.xAo)&&bJv s b):=rfl
theorem aBy (O:aN) (a b:List aY):aZ Tryz.prog O 126 [aFp a,aFp b] (vb (aLm a b)):=by
 refine bG 0 rfl (.sl _ _ _) fun ha=>?_;refine bG 1 rfl (.sl _ _ _) fun hb=>?_;refine eV Tryz.func126 ?_;refine aB [0,1] ?_;refine aA fun _ Z1=>aB [0,1] ?_;refine aI (aX [1,9,10,11] (fun n ρ=> ∃i,n=a.length-i∧(i≤a.length)∧(aLm a b=aLm (a.drop i) b)∧ρ=dU O [(1,aFp b),(9,aFp a),(10,vi (a.length:Nat)),(11,vi (i:Nat))]) _ ⟨0,rfl,?_,?_,?_⟩ ?_)
 ·exact bD
 ·rfl
 ·exact dT
 rintro n ρ ⟨i,rfl,l0_0,l0_1,rfl⟩ _ Z3;refine aB [0,1,9,10,11] ?_;refine aA fun _ Z5=>aO (fun c0=>?_) fun c0=>?_
 ·refine aD (Z5 _ (aA fun _ Z6=>aI (aB [0,1,9,10,11] ?_)));refine aB [0,1,6,9,10,11] ?_;refine aI (aX [1,9,10,11,6,15,16,17] (fun n ρ=> ∃j,n=b.length-j∧(j≤b.length)∧(bJv (a.getD i default) b=bJv (a.getD i default) (b.drop j))∧ρ=dU O [(1,aFp b),(9,aFp a),(10,vi (a.length:Nat)),(11,vi (i:Nat)),(6,.bx (bO (a.getD i default))),(15,aFp b),(16,vi (b.length:Nat)),(17,vi (j:Nat))]) _ ⟨0,rfl,?_,?_,?_⟩ ?_)
  ·exact bD
  ·rfl
  ·exact dT
  rintro n ρ ⟨j,rfl,l1_0,l1_1,rfl⟩ _ Z9;refine aB [0,1,6,9,10,11,15,16,17] ?_;refine aA fun _ Z11=>aO (fun c1=>?_) fun c1=>?_
  ·refine aD (Z11 _ (aA fun _ Z12=>aI (aB [0,1,6,9,10,11,15,16,17] ?_)));refine aB [0,1,6,8,9,10,11,15,16,17] ?_;refine dY ((a.getD i default).fEl==(b.getD j default).fEl&&(a.getD i default).xAo !=(b.getD j default).xAo) (by rfl) (rfl) (fun c2=>?_) (fun c2=>?_)
   ·try simp only[push_cast] at c2
    refine aB [] ?_;refine aL (dN 4 (xb ?_))
    (rw[l0_1,dL default c0,aQz,l1_1,dL default c1,aQo,show ((a.getD i default).fEl==(b.getD j default).fEl&&(a.getD i default).xAo !=(b.getD j default).xAo)=true by simpa using c2];rfl)
   try simp only[push_cast] at c2
   refine aD (Z12 _ (bE [0,1,6,9,10,11,15,16,17] ?_));refine Z9 _ _ bD ⟨j+1,rfl,bD,?_,dT⟩
   ·rw[l1_1,dL default c1,aQo,cMm c2];rfl
  refine bA (Z6 _ (bE [0,1,9,10,11] ?_));refine Z3 _ _ bD ⟨i+1,rfl,bD,?_,dT⟩
  ·rw[l0_1,dL default c0,aQz,l1_1,iW c1];rfl
 refine bA (Z1 _ (aB [] ?_));refine aL (dN 4 (xb ?_))
 (rw[l0_1,iW c0];rfl)
def bLl (a b:bL):Bool:=decide (0≤a.xBd)&&(b.xBh==a.xBd)
theorem fY (O:aN) (a b:bL):aZ Tryz.prog O 68 [.agg (bK a),.agg (bK b)] (vb (bLl a b)):=by
 refine eV Tryz.func68 ?_;refine aB [0,1] ?_;refine aB [2,3] ?_;refine aL (dN 4 ?_);exact xd
theorem aNw (O:aN) (a b:List Int) (ha:a.length≤1000) (hb:b.length≤1000):aZ Tryz.prog O 225 [d5 a,d5 b] (rowL 3 1 eI (com a b)):=by
 refine eV Tryz.func225 ?_;refine aB [0,1] ?_;refine aA fun _ Z1=>bN [0,1] ?_;refine f9 (aBv _ _ (by first|assumption|omega|decide)) ?_;refine f9 (aBv _ _ (by first|assumption|omega|decide)) ?_;refine f9 (aDq _ (mkZ a) (mkZ b) 233 (fun p q=>p&&q) (fun O p q=>aFt O p q) rfl (by have:=bUo a;have:=bUo b;omega)) ?_;refine Z1 _ (aL (dN 4 ?_));exact dX.rowL rfl (by rfl)
theorem aIz (O:aN) (a b:List Int) (ha:a.length≤1000) (hb:b.length≤1000):aZ Tryz.prog O 225 [d5 a,d5 b] (d5 (com a b)):=dA (aNw O a b ha hb)
def bLn (a b:List Int):Bool:=decide (0<(com a b).length)
theorem nZ (O:aN) (a b:List Int) (ha:a.length≤1000) (hb:b.length≤1000):aZ Tryz.prog O 219 [d5 a,d5 b] (vb (bLn a b)):=by
 refine eV Tryz.func219 ?_;refine aB [0,1] ?_;refine aA fun _ Z1=>bN [0,1] ?_;refine f9 (aIz _ _ _ (by first|assumption|omega|decide) (by first|assumption|omega|decide)) ?_;refine Z1 _ (aL (dN 4 ?_));exact xd
structure Sml (r:bL):Prop where
 p:r.xAk.length≤250
 o:r.xAs.length≤250
 f:r.xAy.length≤250
 s:r.xAe.length≤250
 v:r.xAr.length≤250
def aMs (r:bL):List aY:=[r.xAk,r.xAs,r.xAy].flatten
theorem cAc (r:bL):aMs r=r.xAk++r.xAs++r.xAy:=by simp[aMs]
theorem aVp {r:bL} (h:Sml r):(aMs r).length≤750:=by
 rw[cAc,fP,fP];have:=h.p;have:=h.o;have:=h.f;omega
def rs0:w9:=⟨0,0,0⟩
def eNl (_:Int):List DV:=[.v (.slice none 0 0)]
attribute [go_sem] eNl
structure bPr (t:dC) (s:aIf):Prop where
 r:s.xAg.length=t.xAg.length
 l:s.xBz.length=t.xAk.length
 ri: ∀i:Nat,i<t.xAg.length→s.xAg.getD i default=rs0
 li: ∀i:Nat,i<t.xAk.length→s.xBz.getD i default=1
theorem aCx {α:Type} {n i:Nat} (a d:α) (h:i<n):(List.replicate n a).getD i d=a:=by
 rw[cA,List.getElem?_replicate,if_pos h];rfl
theorem cEg {α:Type} (n:Nat) (a:α):List.replicate (n+1) a=List.replicate n a++[a]:=List.replicate_succ'
theorem cHc (t:dC):bPr t (stI t):=⟨by simp[stI],by simp[stI],fun i h=>aCx _ _ h,fun i h=>aCx _ _ h⟩
def msI (n i:Nat):List lO:=List.replicate i ⟨1,1,0⟩++List.replicate (n-i) ⟨0,0,0⟩
theorem bWn {n i:Nat} (h:i≤n):(msI n i).length=n:=by unfold msI;simp;omega
theorem cOp (n:Nat):(msI n 0).map kL=List.replicate n [vi 0,vi 0,vi 0]:=by unfold msI;simp[kL]
theorem cSb {n i:Nat} (h:i<n):(msI n i).set i ⟨1,1,0⟩=msI n (i+1):=by
 unfold msI;apply List.ext_getElem
 ·simp;omega
 intro j h1 h2;simp only[List.getElem_set,List.getElem_append,List.length_replicate,List.getElem_replicate];split
 ·subst_vars;rw[dif_pos aV]
 split
 ·rw[dif_pos aV]
 rw[dif_neg aV]
theorem cPt {l:List lO} {i:Nat} (h:i<l.length):((l.map kL).getD i []).length=3:=by
 rw[cA,dG,cH h];rfl
theorem cGa {l:List lO} {i:Nat} {a b c:Int}:(l.map kL).set i [vi a,vi b,vi c]=(l.set i ⟨a,b,c⟩).map kL:=by rw[List.map_set];rfl
section
attribute [local go_sem] rs0
theorem aCu (O:aN) (n:Int):aZ Tryz.prog O 156 [.agg (iB rs0),vi n] (vb true):=by
 refine eV Tryz.func156 ?_;refine aB [0,1] ?_;refine aA fun _ Z1=>aB [1,2] ?_;refine aI (aA fun _ Z3=>aB [1,2,6] ?_);refine dY true (by rfl) (rfl) (fun _=>?_) (fun h=>by cases h);refine aD (Z3 _ (dY true (by rfl) (rfl) (fun _=>?_) (fun h=>by cases h)));refine aB [2] ?_;refine aL (dN 4 ?_);exact xd
end
section
attribute [local go_sem] rs0
theorem aOv (O:aN) (r:bL):aZ Tryz.prog O 157 [.agg (bK r),.agg (iB rs0)] (.v (.slice none 0 0)):=by
 refine eV Tryz.func157 ?_;refine aB [0,1] ?_;refine aA fun _ Z1=>aB [2,3] ?_;refine dY true (by rfl) (rfl) (fun _=>?_) (fun h=>by cases h);refine aB [] ?_;refine aL (dN 4 ?_);exact dX.is (by ((try simp only[go_sem,seval]);try simp (disch:=omega) only[go_sem,seval])<;>(rfl)) rfl rfl
end
section
attribute [local go_sem] rs0
theorem aOr (O:aN) (r:bL):aZ Tryz.prog O 158 [.agg (bK r),.agg (iB rs0)] (.v (.slice none 0 0)):=by
 refine eV Tryz.func158 ?_;refine aB [0,1] ?_;refine aA fun _ Z1=>aB [2,3] ?_;refine dY true (by rfl) (rfl) (fun _=>?_) (fun h=>by cases h);refine aB [] ?_;refine aL (dN 4 ?_);exact dX.is (by ((try simp only[go_sem,seval]);try simp (disch:=omega) only[go_sem,seval])<;>(rfl)) rfl rfl
end
section
attribute [local go_sem] rs0
theorem aMl (O:aN) (t:dC) (r:bL):aZ Tryz.prog O 113 [.agg (dQ t),.agg (bK r),.agg (iB rs0)] (.v (.slice none 0 0)):=by
 refine eV Tryz.func113 ?_;refine aB [0,1,2] ?_;refine aA fun _ Z1=>aB [3,4,5] ?_;refine dY true (by rfl) (rfl) (fun _=>?_) (fun h=>by cases h);refine aB [] ?_;refine aL (dN 6 ?_);exact dX.is (by ((try simp only[go_sem,seval]);try simp (disch:=omega) only[go_sem,seval])<;>(rfl)) rfl rfl
end
theorem aOu (O:aN) (t:dC) (s:aIf) (hs:bPr t s) (hf:aHe t=true) (hc:chk t=0) (hr:t.xAg.length≤100) (hp:t.xAk.length≤100):aZ Tryz.prog O 110 [.agg (dQ t),.agg (o9 s)] (vb true):=by
 obtain ⟨hsr,hsl,hri,hli⟩:=id hs;have hsx:=cP hri hli;refine eV Tryz.func110 ?_;refine bB [0,1] ?_;refine aA fun _ Z1=>aA fun _ Z2=>eZ [2,3] ?_;refine pV (yP _ t hf) ?_;refine Z2 _ (aO (fun c0=>?_) fun c0=>?_)
 ·exact absurd c0 (by simp[hc,hsr,hsl])
 refine aD (Z1 _ (aA fun _ Z3=>bB [2,3] ?_));refine aI (aX [2,3,31,32,33] (fun n ρ=> ∃i,n=s.xAg.length-i∧(i≤s.xAg.length)∧ρ=dU O [(2,.bx (dQ t)),(3,.bx (o9 s)),(31,aPv s.xAg),(32,vi (s.xAg.length:Nat)),(33,vi (i:Nat))]) _ ⟨0,rfl,?_,?_⟩ ?_)
 ·exact bD
 ·exact eX
 rintro n ρ ⟨i,rfl,l0_0,rfl⟩ _ Z5;refine bB [2,3,30,31,32,33] ?_;refine aA fun _ Z7=>aO (fun c1=>?_) fun c1=>?_
 ·refine aD (Z7 _ (aA fun _ Z8=>aI (bB [2,3,30,31,32,33] ?_)));refine aA fun _ Z10=>jF [2,3,5,6,30,31,32,33] [] ?_;refine bKi (aCu _ _) ?_;refine Z10 _ (aO (fun c2=>?_) fun c2=>?_)
  ·cases c2
  refine aD (Z8 _ (cN [2,3,30,31,32,33] ?_));refine Z5 _ _ bD ⟨i+1,rfl,bD,?_⟩;exact eX
 refine bA (Z3 _ (aA fun _ Z11=>bB [3] ?_));refine aI (aX [50,51,52] (fun n ρ=> ∃i,n=s.xBz.length-i∧(i≤s.xBz.length)∧ρ=dU O [(50,d5 s.xBz),(51,vi (s.xBz.length:Nat)),(52,vi (i:Nat))]) _ ⟨0,rfl,?_,?_⟩ ?_)
 ·exact bD
 ·exact eX
 rintro n ρ ⟨i,rfl,l1_0,rfl⟩ _ Z13;refine bB [3,49,50,51,52] ?_;refine aA fun _ Z15=>aO (fun c3=>?_) fun c3=>?_
 ·refine aD (Z15 _ (aA fun _ Z16=>aI (bB [3,49,50,51,52] ?_)));refine bB [3,8,49,50,51,52] ?_;refine aO (fun c4=>?_) fun c4=>?_
  ·exact absurd c4 dH
  refine aD (Z16 _ (cN [3,49,50,51,52] ?_));refine Z13 _ _ bD ⟨i+1,rfl,bD,?_⟩;exact eX
 refine bA (Z11 _ (bB [] ?_));refine aL (mA 4 ?_);exact xdh
theorem aJc (O:aN) (r:bL):aZ Tryz.prog O 111 [.agg (bK r),.agg (iB rs0)] (.v (.slice none 0 0)):=by
 refine eV Tryz.func111 ?_;refine aB [0,1] ?_;refine aB [2,3] ?_;refine aA fun _ Z2=>aA fun _ Z3=>bN [2,3,5] ?_;refine f9 (aOv _ r) ?_;refine Z3 _ (aI (aX [2,3,5,13,14] (fun n ρ=>n=0∧ρ=dU O [(2,.bx (bK r)),(3,.bx (iB rs0)),(5,.v (.slice none 0 0)),(13,vi 0),(14,vi 0)]) _ ⟨rfl,?_⟩ ?_))
 ·exact dT
 rintro n ρ ⟨rfl,rfl⟩ _ Z4;refine aB [2,3,5,12,13,14] ?_;refine aA fun _ Z6=>dY false (by rfl) (rfl) (fun h=>by cases h) (fun _=>?_);refine bA (Z2 _ (aA fun _ Z7=>aA fun _ Z8=>bN [2,3,5] ?_));refine f9 (aOr _ r) ?_;refine Z8 _ (aI (aX [5,27,28] (fun n ρ=>n=0∧ρ=dU O [(5,.v (.slice none 0 0)),(27,vi 0),(28,vi 0)]) _ ⟨rfl,?_⟩ ?_))
 ·exact dT
 rintro n ρ ⟨rfl,rfl⟩ _ Z9;refine aB [5,26,27,28] ?_;refine aA fun _ Z11=>dY false (by rfl) (rfl) (fun h=>by cases h) (fun _=>?_);refine bA (Z7 _ (aB [5] ?_));refine aL (dN 4 ?_);exact dX.is (by ((try simp only[go_sem,seval]);try simp (disch:=omega) only[go_sem,seval])<;>(rfl)) rfl rfl
theorem aLi (O:aN) (a b:bL):aZ Tryz.prog O 112 [.agg (bK a),.agg (bK b),.v (.slice none 0 0),.v (.slice none 0 0)] (vb false):=by
 refine eV Tryz.func112 ?_;refine aB [0,1,2,3] ?_;refine aA fun _ Z1=>gJ [2,3,4,5] [] ?_;refine cdz (fY _ a b) ?_;refine cdz (fY _ b a) ?_;refine Z1 _ (aA fun _ Z2=>aB [2,3,9,10] ?_);refine aI (aX [20,21] (fun n ρ=>n=0∧ρ=dU O [(20,vi 0),(21,vi 0)]) _ ⟨rfl,?_⟩ ?_)
 ·exact dT
 rintro n ρ ⟨rfl,rfl⟩ _ Z4;refine aB [2,3,9,10,19,20,21] ?_;refine aA fun _ Z6=>dY false (by rfl) (rfl) (fun h=>by cases h) (fun _=>?_);refine bA (Z2 _ (aB [] ?_));refine aL (dN 8 ?_);exact xd
set_option maxRecDepth 20000 in
theorem aMg (O:aN) (t:dC) (s:aIf) (hs:bPr t s) (hf:aHe t=true) (hc:chk t=0) (hr:t.xAg.length≤100) (hp:t.xAk.length≤100):aZ Tryz.prog O 64 [.agg (dQ t),.agg (o9 s)] (vb true):=by
 obtain ⟨hsr,hsl,hri,hli⟩:=id hs;have hsx:=cP hri hli;refine eV Tryz.func64 ?_;refine bB [0,1] ?_;refine aA fun _ Z1=>aA fun _ Z2=>eZ [2,3] ?_;refine pV (aOu _ t s hs hf hc hr hp) ?_;refine Z2 _ (dY false (by rfl) (rfl) (fun h=>by cases h) (fun _=>?_));refine aD (Z1 _ (bB [2,3] ?_));refine aA fun _ Z4=>bB [2,3,5] ?_;refine aI (l4 5 223 1 eNl rfl rfl ?_);refine aX [2,3,5,19,20,21] (fun n ρ=> ∃i,n=t.xAg.length-i∧(i≤t.xAg.length)∧ρ=dU O [(2,.bx (dQ t)),(3,.bx (o9 s)),(5,rowL 223 1 eNl (List.replicate i 0)),(19,pW t.xAg),(20,vi (t.xAg.length:Nat)),(21,vi (i:Nat))]) _ ⟨0,rfl,?_,?_⟩ ?_
 ·exact bD
 ·exact eX
 rintro n ρ ⟨i,rfl,l0_0,rfl⟩ _ Z6;refine bB [2,3,5,18,19,20,21] ?_;refine aA fun _ Z8=>aO (fun c1=>?_) fun c1=>?_
 ·refine aD (Z8 _ (aA fun _ Z9=>aI (bB [2,3,5,18,19,20,21] ?_)));refine bBx 11 [2,3,5,6,7,18,19,20,21] [2,3,6,7,19,20,21,27,28,29,30,31,32,33,34,35,26,5] [8] [(5,35)] [[],[],[],[2],[],[2,3,4],[2,3,4,5],[1,2,3,4,5,6],[1,2,3,4,5,6,7],[0,1,2,3,4,5,6,7,8],[0,1,2,3,4,5,6,7,8,9]] [[9,10],[9,10],[9,10],[9,10],[9,10],[9,10],[9,10],[9,10],[9,10],[10],[]] (fun bQ=>dU O [(2,.bx (dQ t)),(3,.bx (o9 s)),(6,vi (i:Nat)),(7,.bx (bK (t.xAg.getD i default))),(19,pW t.xAg),(20,vi (t.xAg.length:Nat)),(21,vi (i:Nat)),(27,bC (bQ 1) (.agg (bK (t.xAg.getD i default)))),(28,bC (bQ 2) (.bp 3 0)),(29,bC (bQ 3) (aPv s.xAg)),(30,bC (bQ 4) (vi (i:Nat))),(31,bC (bQ 5) (.dp (iB rs0))),(32,bC (bQ 6) (.agg (iB rs0))),(33,bC (bQ 7) (.v (.slice none 0 0))),(34,bC (bQ 8) (.row 223 1 [[.v (.slice none 0 0)]])),(35,bC (bQ 9) (.row 223 1 (((List.replicate i 0).map eNl)++[[.v (.slice none 0 0)]]))),(26,rP (bQ 9) (bQ 0) (.any) (.own 5 ((List.replicate i (0:Int)).length))),(5,rP (bQ 10) (!bQ 9) (.own 35 ((List.replicate i (0:Int)).length+1)) (.row 223 1 (((List.replicate i 0).map eNl))))]) (fun iQ hiQ oQ hoQ bQ hbQ KQ hKQ=>?_) ?_
  ·match iQ,hiQ with
   |0,_|1,_|2,_|3,_|4,_|5,_|6,_|9,_|10,_=>
    exact o0 hoQ hbQ hKQ
   |7,_=>
    exact aWa hoQ hbQ hKQ (aJc _ (t.xAg.getD i default))
   |8,_=>
    exact o0 hoQ hbQ hKQ
  refine gE ?_;refine Z9 _ (cN [2,3,5,18,19,20,21] ?_);refine Z6 _ _ bD ⟨i+1,rfl,bD,?_⟩;((try simp only[go_sem,seval,hsx]);try simp (disch:=omega) only[go_sem,seval,hsx])<;>(rw[cEg,eM];rfl)
 refine bA (Z4 _ (aA fun _ Z11=>aA fun _ Z12=>?_));obtain rfl:i=t.xAg.length:=by omega
 refine iS 5 _ rfl rfl ?_;refine cN [2,3,5] ?_;refine Z12 _ (aI (aX [2,3,5,39,40] (fun n ρ=> ∃a,n=t.xAg.length-a∧(a≤t.xAg.length)∧ρ=dU O [(2,.bx (dQ t)),(3,.bx (o9 s)),(5,encL 1 eNl (List.replicate t.xAg.length 0)),(39,vi (t.xAg.length:Nat)),(40,vi (a:Nat))]) _ ⟨0,rfl,?_,?_⟩ ?_))
 ·exact bD
 ·exact eX
 rintro n ρ ⟨a,rfl,l1_0,rfl⟩ _ Z13;refine bB [2,3,5,39,40] ?_;refine aA fun _ Z15=>aO (fun c2=>?_) fun c2=>?_
 ·refine aD (Z15 _ (aA fun _ Z16=>aI (bB [2,3,5,39,40] ?_)));refine bB [2,3,5,8,39,40] ?_;refine aI (aX [2,3,5,39,40,8,43,44] (fun n ρ=> ∃b,n=a-b∧(b≤a)∧ρ=dU O [(2,.bx (dQ t)),(3,.bx (o9 s)),(5,encL 1 eNl (List.replicate t.xAg.length 0)),(39,vi (t.xAg.length:Nat)),(40,vi (a:Nat)),(8,vi (a:Nat)),(43,vi (a:Nat)),(44,vi (b:Nat))]) _ ⟨0,rfl,?_,?_⟩ ?_)
  ·exact bD
  ·exact eX
  rintro n ρ ⟨b,rfl,l2_0,rfl⟩ _ Z19;refine bB [2,3,5,8,39,40,43,44] ?_;refine aA fun _ Z21=>aO (fun c3=>?_) fun c3=>?_
  ·refine aD (Z21 _ (aA fun _ Z22=>aI (bB [2,3,5,8,39,40,43,44] ?_)));refine aA fun _ Z24=>jF [2,3,5,8,9,39,40,43,44] [] ?_;refine bKi (aLi _ (t.xAg.getD a default) (t.xAg.getD b default)) ?_;refine Z24 _ (dY false (by rfl) (rfl) (fun h=>by cases h) (fun _=>?_));refine aD (Z22 _ (cN [2,3,5,8,39,40,43,44] ?_));refine Z19 _ _ bD ⟨b+1,rfl,bD,?_⟩;exact eX
  refine bA (Z16 _ (cN [2,3,5,39,40] ?_));refine Z13 _ _ bD ⟨a+1,rfl,bD,?_⟩;exact eX
 refine bA (Z11 _ (aA fun _ Z25=>bB [2,3] ?_));refine aI (aX [2,3,69,70,71] (fun n ρ=> ∃i,n=t.xAg.length-i∧(i≤t.xAg.length)∧ρ=dU O [(2,.bx (dQ t)),(3,.bx (o9 s)),(69,pW t.xAg),(70,vi (t.xAg.length:Nat)),(71,vi (i:Nat))]) _ ⟨0,rfl,?_,?_⟩ ?_)
 ·exact bD
 ·exact eX
 rintro n ρ ⟨i,rfl,l3_0,rfl⟩ _ Z27;refine bB [2,3,68,69,70,71] ?_;refine aA fun _ Z29=>aO (fun c5=>?_) fun c5=>?_
 ·refine aD (Z29 _ (aA fun _ Z30=>aI (bB [2,3,68,69,70,71] ?_)));refine aA fun _ Z32=>jF [2,3,10,11,68,69,70,71] [] ?_;refine bKi (aMl _ t (t.xAg.getD i default)) ?_;refine Z32 _ (aI (aX [2,3,69,70,71,84,85] (fun n ρ=>n=0∧ρ=dU O [(2,.bx (dQ t)),(3,.bx (o9 s)),(69,pW t.xAg),(70,vi (t.xAg.length:Nat)),(71,vi (i:Nat)),(84,vi 0),(85,vi 0)]) _ ⟨rfl,?_⟩ ?_))
  ·exact eX
  rintro n ρ ⟨rfl,rfl⟩ _ Z33;refine bB [2,3,68,69,70,71,83,84,85] ?_;refine aA fun _ Z35=>dY false (by rfl) (rfl) (fun h=>by cases h) (fun _=>?_);refine bA (Z30 _ (cN [2,3,68,69,70,71] ?_));refine Z27 _ _ bD ⟨i+1,rfl,bD,?_⟩;exact eX
 refine bA (Z25 _ (bB [] ?_));refine aL (mA 4 ?_);exact xdh
section
attribute [local go_sem] cPt cGa List.length_replicate
theorem aLa (O:aN) (t:dC) (hp:t.xAk.length≤100):aZ Tryz.prog O 42 [.agg (dQ t)] (cFa (bAg t)):=by
 refine eV Tryz.func42 ?_;refine aB [0] ?_;refine aB [1] ?_;refine aA fun _ Z2=>aB [3] ?_;refine aI (aX [3,10,11] (fun n ρ=> ∃i,n=t.xAk.length-i∧(i≤t.xAk.length)∧ρ=dU O [(3,rowL 165 3 kL (msI t.xAk.length i)),(10,vi (t.xAk.length:Nat)),(11,vi (i:Nat))]) _ ⟨0,rfl,?_,?_⟩ ?_)
 ·exact bD
 ·((try simp only[go_sem,seval]);try simp (disch:=omega) only[go_sem,seval])<;>rw[cOp]
 rintro n ρ ⟨i,rfl,l0_0,rfl⟩ _ Z4;have hml:=bWn l0_0;refine aB [3,10,11] ?_;refine aA fun _ Z6=>aO (fun c0=>?_) fun c0=>?_
 ·refine aD (Z6 _ (aA fun _ Z7=>aI (aB [3,10,11] ?_)));refine bE [3,4,10,11] ?_;refine Z7 _ (bE [3,10,11] ?_);refine Z4 _ _ bD ⟨i+1,rfl,bD,?_⟩;((try simp only[go_sem,seval]);try simp (disch:=omega) only[go_sem,seval])<;>(rw[cSb (by assumption)];try rfl)
 refine bA (Z2 _ (aA fun _ Z9=>iS 3 _ rfl rfl ?_));refine bE [3] ?_;refine Z9 _ (aL (dN 2 ?_));exact dX.encL rfl (by (rw[show i=t.xAk.length by omega];simp[bAg,msI];try done))
end
abbrev rgJ (h:Hd) (B:List Int):Rg:=.row h 3 1 (B.map eI)
def inX (t:dC) (a:DV):List DV:=[aPv (List.replicate t.xAg.length rs0),a]
section
variable (t:dC) (a d:DV)
theorem bXz:(inX t a).length=2:=rfl
theorem bUd:(inX t a).take 2=inX t a:=rfl
theorem cJt:(inX t a).getD 1 .any=a:=rfl
theorem bQo:(inX t a).set 1 d=inX t d:=rfl
theorem bZu (h:yF (fun x=>x+100000) a=a):kT (fun x=>x+100000) (inX t a)=inX t a:=by unfold inX;simp only[kT,h];rfl
theorem cHp:inX t (d5 (List.replicate t.xAk.length 1))=o9 (stI t):=rfl
theorem bXa (p:Nat→Bool):d6 p (inX t a)=fL p a:=by unfold inX aPv encL;simp[d6,fL]
end
section
attribute [local go_sem] or_self iP cJ bXz bUd cJt bQo bZu bXa
set_option maxRecDepth 20000 in
theorem aCq (O:aN) (t:dC) (hf:aHe t=true) (hc:chk t=0) (hr:t.xAg.length≤100) (hp:t.xAk.length≤100):aZ Tryz.prog O 41 [.agg (dQ t)] (.agg (o9 (stI t))):=by
 refine iT Tryz.func41 rfl bF fun w0 I0 A0=>?_;have hF:=pS w0 I0 (cG A0) (GOf []);refine bI hF [0] ?_;refine aW fun _ Z1=>aW fun _ Z2=>gI hF [1,2] ?_;refine f9 (yP _ t hf) ?_;refine Z2 _ _ (cQ (fun c0=>?_) fun c0=>?_)
 ·exact absurd c0 (by simp[hc])
 refine bU (Z1 _ _ (aW fun _ Z3=>iU hF ?_));refine aNq [1,2] [] bF ?_;refine lL ?_;refine Z3 _ _ (aW fun _ Z4=>aW fun _ Z5=>vJ 3 (ds:=inX t (.v (.slice none 0 0))) rfl sf ?_ ?_)
 ·refine .cons ?_ (.cons (eK.refl _) .nil);unfold aPv encL;rw[List.length_replicate];exact eK.sl 3 _ fun j hj=>by rw[aCx _ _ hj];rfl
 refine eO hF [1,2,3] ?_;refine Z5 _ _ (bZ (kF [] [] 3 1 rfl ?_));refine eY [2,3,15,16] (fun n sF ρ=> ∃i,∃aJ,n=t.xAk.length-i∧sF=[rgJ aJ (List.replicate i 1)]∧(i≤t.xAk.length)∧ρ=dU O [(2,.bx [.v (.slice none 0 0),.v (.slice none 0 0)]),(3,.bx (inX t (aJ.sl (List.replicate i (1:Int)).length))),(15,vi (t.xAk.length:Nat)),(16,vi (i:Nat))]) _ ⟨0,mJ,rfl,rfl,?_,?_⟩ ?_
 ·exact bD
 ·exact dT
 rintro n sF ρ ⟨i,aJ,rfl,rfl,l0_0,rfl⟩ _ Z6;refine bI hF [2,3,15,16] ?_;refine aW fun _ Z8=>cQ (fun c1=>?_) fun c1=>?_
 ·refine bU (Z8 _ _ (aW fun _ Z9=>bZ (cC (Le.keepC [2,3,15,16] _) ?_)));refine cU ?_;refine ef hF ?_;refine ef hF ?_;refine ef hF ?_;show lW _ _ _ _ _ _ _ _;refine iI (s1:=[]) (s2:=[]) 19 eN sr rfl ?_;refine ef hF ?_;show lW _ _ _ _ _ _ _ _;refine nV (s1:=[]) (s2:=[]) (l:=(List.replicate (i+1) (1:Int)).map eI) 21 eN (by ((try simp only[go_sem,seval]);try simp (disch:=omega) only[go_sem,seval])<;>(first|rfl|(rw[cEg,eM];try rfl))) rfl (fun hx=>?_);refine ef hF ?_;refine ef hF ?_;refine Z9 _ _ (eO hF [2,3,15,16] ?_);refine Z6 _ _ _ bD ⟨i+1,hx,rfl,rfl,bD,dT⟩
 refine fV (Z4 _ _ (aW fun _ Z10=>gL (s1:=[]) (s2:=[]) 3 1 sf sf rfl (eK.frzL eI (List.replicate i 1)) rfl ?_));rw[bQo];obtain rfl:i=t.xAk.length:=by omega
 rw[cHp];refine eO hF [2,3] ?_;refine Z10 _ _ (dV ?_)
 (try simp only[fQ,d8]);refine nM 2 40 rfl sz sr bF (by rfl)
end
def exS (l:aC) (r:bL):mS×Bool:=if r.xBd<0∨(l.xAa.length:Int)≤r.xBd then (default,false) else (l.xAa.getD r.xBd.toNat default,true)
theorem cEv {l:aC} {r:bL} (h:r.xBd<0∨(l.xAa.length:Int)≤r.xBd):exS l r=(default,false):=by unfold exS;rw[if_pos h]
theorem cEk {l:aC} {r:bL} (h: ¬(r.xBd<0∨(l.xAa.length:Int)≤r.xBd)):exS l r=(l.xAa.getD r.xBd.toNat default,true):=by unfold exS;rw[if_neg h]
def bOl (l:aC) (s:bJ):Int:=lX l ⟨s.fEl,s.xAv⟩
theorem aXp {n k:Nat} (h:n≤1000) (hk:k≤10):n+k≤maxLen:=by unfold maxLen;omega
theorem aLt {n k m:Nat} (h:n≤1000) (hk:k≤10) (hm:m≤1000):n+k+m≤maxLen:=by unfold maxLen;omega
def rT (l:aC) (s:bJ):Bool:=decide (0≤bOl l s)|| !(eT l s).2
theorem xZ (O:aN) (l:aC) (r:bL):aZ Tryz.prog O 151 [.agg (aQ l),.agg (bK r)] (.tup [.agg (jW (exS l r).1),vb (exS l r).2]):=by
 refine bG 0 rfl (.agg (d:=uK l.xAa) (by simp[aQ]) (.sl _ _ _)) fun hsl=>?_;refine eV Tryz.func151 ?_;refine aB [0,1] ?_;refine aA fun _ Z1=>aB [2,3,4] ?_;refine aO (fun c0=>?_) fun c0=>?_
 ·refine aB [4] ?_;refine aL (rtu (.cons ?_ (.cons ?_ .nil)))
  ·exact roC sr (by simp (disch:=omega) only[go_sem,seval]<;>((rw[cEv c0];try rfl))) bF (by first|rfl|(simp (disch:=omega) only[go_sem,seval]))
  exact vU (by simp (disch:=omega) only[go_sem,seval]<;>((rw[cEv c0];try rfl))) rfl rfl
 refine aD (Z1 _ (aB [2,3,4] ?_));refine aL (rtu (.cons ?_ (.cons ?_ .nil)))
 ·exact roC sr (by simp (disch:=omega) only[go_sem,seval]<;>((rw[cEk aV]))) bF (by first|rfl|(simp (disch:=omega) only[go_sem,seval]))
 exact vU (by simp (disch:=omega) only[go_sem,seval]<;>((rw[cEk aV]))) rfl rfl
abbrev lsN (q:List bJ):bJ:=q.getD (q.length-1) default
def goP (l:aC):Nat→fH→List bJ→List (List bJ)
 |0,_,_=>[]
 |n+1,a,q=>if q.length=12∨aBs l q a.fEl=false then [] else (iZ l a).flatMap fun s=>if rT l s=true then [q++[s]] else goP l n (eT l s).1 (q++[s])
theorem aQi: ∀{L:List Pas} {k i:Int} {p:Pas},p∈L→p.k=k→p.i=i→(sH L k i p.o).2=true
 | [],_,_,_,h,_,_=>by cases h
 |x::L,k,i,p,h,hk,hi=>by
  unfold sH;split
  ·rfl
  rename_i hn;rcases gN.1 h with rfl|h
  ·exact absurd ⟨hk,hi,rfl⟩ hn
  exact aQi h hk hi
theorem bLj {k i o:Int} (h:o∈lE k i):(gS k i o).2=true:=by
 unfold lE aBh at h;obtain ⟨p,hp,rfl⟩:=dZ.1 h;rw[aIn] at hp;have:=dK hp.2;rw[← bHd];exact aQi hp.1 this.1 this.2
theorem aKc {l:aC} {a:fH} {s:bJ} (h:s∈iZ l a):s.fEl=a.fEl∧s.fIn=a.xAj∧(tN l s).2=true∧vD l a.fEl=true:=by
 cases he:vD l a.fEl with
 |false=>rw[bUx he] at h;cases h
 |true=>
  rw[bOb he] at h;obtain ⟨o,ho,rfl⟩:=dZ.1 h;refine ⟨rfl,rfl,?_,rfl⟩;rw[aCn he];exact bLj ho
theorem bTc (k i:Int):(lE k i).length≤2:=by
 unfold lE aBh;rw[cJ];have hk:k=1∨k=2∨k=3∨(k≠1∧k≠2∧k≠3):=by omega
 have hi:i=0∨i=1∨i=2∨i=3∨(i≠0∧i≠1∧i≠2∧i≠3):=by omega
 rcases hk with rfl|rfl|rfl|⟨h1,h2,h3⟩
 ·rcases hi with rfl|rfl|rfl|rfl|⟨q0,q1,q2,q3⟩<;>first|decide|(simp[o4,zW,fC q0,fC q1,fC q2,fC q3])
 ·rcases hi with rfl|rfl|rfl|rfl|⟨q0,q1,q2,q3⟩<;>first|decide|(simp[o4,zW,fC q0,fC q1,fC q2,fC q3])
 ·rcases hi with rfl|rfl|rfl|rfl|⟨q0,q1,q2,q3⟩<;>first|decide|(simp[o4,zW,fC q0,fC q1,fC q2,fC q3])
 simp[o4,zW,fC h1,fC h2,fC h3]
theorem bFc (l:aC) (a:fH):(iZ l a).length≤2:=by
 unfold iZ;split
 ·rw[cJ];exact bTc _ _
 simp
theorem aDp {α β:Type} {f:α→List β} {c:Nat}: ∀{L:List α},(∀x∈L,(f x).length≤c)→(L.flatMap f).length≤L.length*c
 | [],_=>by simp
 |a::L,h=>by
  rw[aIh,fP,qH,jV];have h1:=h a dH;have h2:=aDp (L:=L) fun x hx=>h x (by simp[hx]);omega
theorem aSg (l:aC): ∀(n:Nat) (a:fH) (q:List bJ),(goP l n a q).length≤2^n
 |0,_,_=>by simp[goP]
 |n+1,a,q=>by
  unfold goP;split
  ·simp
  refine eL (aDp (c:=2^n) fun s _=>?_) ?_
  ·split
   ·simp;exact Nat.one_le_two_pow
   exact aSg l n _ _
  rw[Nat.pow_succ,oE];exact Nat.mul_le_mul_left _ (bFc l a)
theorem lR (q:List bJ) (s:bJ):lsN (q++[s])=s:=by
 unfold lsN;simp[cA]
theorem aKj {l:aC}: ∀{n:Nat} {a:fH} {q p:List bJ},q.length≤12→(q.map (·.fEl)).Nodup→p∈goP l n a q→0<p.length∧p.length≤12∧(p.map (·.fEl)).Nodup∧rT l (lsN p)=true
 |0,_,_,_,_,_,h=>by cases h
 |n+1,a,q,p,hq,hn,h=>by
  unfold goP at h;split at h
  ·cases h
  rename_i hc;obtain ⟨s,hs,hp⟩:=y1.1 h;have hlt:q.length<12:=by omega
  have ho:aBs l q a.fEl=true:=by
   cases hx:aBs l q a.fEl with
   |true=>rfl
   |false=>exact absurd (.inr hx) hc
  have hn2:((q++[s]).map (·.fEl)).Nodup:=by
   rw[eM,nO];refine ⟨hn,by simp,fun x hx y hy e=>?_⟩;simp only[kH,sI,lH] at hy;rw[(aKc hs).1] at hy;obtain ⟨t,ht,hte⟩:=dZ.1 hx;obtain ⟨i,hi,rfl⟩:=aOl.1 ht;unfold aBs at ho;have:=dI.1 ho i (by simpa using hi);unfold aTe at this;simp only[cD,dR] at this;apply this.1;rw[cA,cH hi];simp only[iE];rw[hte,e,hy]
  split at hp
  ·rename_i he;rw[lH.1 hp];exact ⟨by simp,by simp;omega,hn2,by rw[lR];exact he⟩
  exact aKj (by simp;omega) hn2 hp
abbrev scN (l:aC) (q:List bJ) (i:Nat):Int:=fD l (z7 q i).fEl
theorem bGy {l:aC} {e:Int} (h:vD l e=true):fD l e=(lI l e.toNat).xBb:=by
 unfold fD;rw[if_pos (mG.1 h)]
theorem aOg {l:aC} {q:List bJ} (hex: ∀i,i<q.length→vD l (z7 q i).fEl=true): ∀n,n≤q.length→ ∀x,x∈jK l (q.take n)↔ ∃i,i<n∧scN l q i=x
 |0,_,x=>by simp[jK]
 |n+1,h,x=>by
  have ih:=aOg hex n aV x;have he:=hex n aV;rw[aGg l aV];unfold qZ;rw[if_pos he];have hs:(lI l (q.getD n default).fEl.toNat).xBb=scN l q n:=(bGy he).symm;rw[hs];have key:(x∈aRu (jK l (q.take n)) (scN l q n))↔x∈jK l (q.take n)∨x=scN l q n:=by
   unfold aRu;split
   ·rename_i hm;constructor
    ·exact .inl
    rintro (h|rfl)
    ·exact h
    exact hm
   simp
  rw[key,ih];constructor
  ·rintro (⟨i,hi,rfl⟩|rfl)
   ·exact ⟨i,by omega,rfl⟩
   exact ⟨n,by omega,rfl⟩
  rintro ⟨i,hi,rfl⟩;rcases uU (aBz hi) with h|rfl
  ·exact .inl ⟨i,h,rfl⟩
  exact .inr rfl
theorem cIr {l:aC} {q:List bJ} (h:x4 l q=true) {i:Nat} (hi:i<q.length):vD l (z7 q i).fEl=true:=by
 unfold x4 at h;rw[cD] at h;have:=dI.1 h.2 i (by simpa using hi);unfold aHi bKh at this;simp only[cD] at this;exact mG.2 (aRv this.1.1)
theorem aQw {l:aC} {s:bJ} (h: ¬rT l s=true):eT l s=((eT l s).1,true):=by
 unfold rT at h;simp only[pQ,mH,not_or,Bool.not_eq_false] at h;exact Prod.ext rfl h.2
end Go.Sg
namespace Go.Sg
open Go.RowKit
open Go.Rv (FR)
abbrev aUd (t:TypeId) (v:Value):List PanicEntry:=[{v:=.iface t v,recovered:=false}]
def aIk (P:Program) (O:aN) (f:FuncId) (args:List DV) (r:Option DV):Prop:=
 ∀(w:World) (I:Nat→Prop) (A:dD) (vals:Array Value),jI w I A O→vals.size=args.length→(∀(j:Nat) (d:DV) (u:Value),args[j]?=some d→vals[j]?=some u→bP w I A d u)→
  Calls P f vals w fun e w'=> ∃I',jI w' I' A O∧f8 w I A w' I' A∧((∃r' v,r=some r'∧e=.returned v∧qA w w' I' A r' v)∨(r=none∧ ∃t v,e=.panicked (aUd t v)))
theorem aIk.pcall {P:Program} {O:aN} {f:FuncId} {args:List DV} {r:DV} (h:aIk P O f args (some r)):aZ P O f args r:=fun w I A vals h1 h2 h3=>
 (h w I A vals h1 h2 h3).mono fun e w' ⟨I',k1,k2,k3⟩=>by
  rcases k3 with ⟨r',v,k3,k4,k5⟩|⟨k3,_⟩
  ·cases k3;exact ⟨v,I',O,r,k4,k1,fun _=>fR.refl _,fun _ h=>h,k2,k5,rfl,rfl⟩
  cases k3
def cAu (P:Program) (fn:Func) (O:aN) (r:Option DV):Exit→aN→Prop
 | .ret,ρ| .normal,ρ=> ∃r',r=some r'∧hi ρ=bS O∧qI P ρ fn.results.toList r'
 | .panic ch,ρ=>r=none∧hi ρ=bS O∧ ∃t v,ch=aUd t v
 |_,_=>False
section
variable {P:Program}
theorem f8.callee {w w':World} {I I':Nat→Prop} {A A':dD} (k3:f8 w I (cG A) w' I' A'):f8 w I A w' I' A:=
 ⟨k3.os,k3.tape,k3.output,k3.size,k3.imm,fun g hg hA=>by
  obtain ⟨e1,e2,e3⟩:=k3.old g hg fun s c hs=>by
   unfold cG at hs;split at hs
   ·cases hs
   exact hA _ _ hs
  exact ⟨e1,e2,hA⟩,fun s g c hA _ hs=>⟨s,c,hs,hA⟩,fun _ _=>rfl⟩
theorem dB.callee {nt:Nat} {w:World} {I:Nat→Prop} {A A':dD} {ρ O:aN} {a:Act} (k1:dB nt w I A' ρ a) (hA: ∀s,100000≤s→A' s=cG A s) (hinj: ∀s t g c c',A s=some (some g,c)→A t=some (some g,c')→s=t) (h: ∀s,ρ (s+100000)=sh (O s)):jI w I A O:=by
 have hA': ∀s,A' (s+100000)=A s:=fun s=>by rw[hA _ aV,d7]
 have hfun:(fun s=>A' (s+100000))=A:=funext hA';refine ⟨fun s=>?_,hinj,fun s g c hA=>k1.osim.sep (s+100000) g c ((hA' s).trans hA),k1.osim.imm⟩;have:=k1.osim.own (s+100000);rw[h] at this;have:=this.outof (s:=s) rfl
 rwa [hfun] at this
theorem aHt {f:FuncId} {fn:Func} {c:Code} {O:aN} {args:List DV} {r:Option DV} (hf:P.funcs[f]?=some fn) (hb:fn.body=some c)
  (hn:(decide (args.length≤fn.ntmps)&&decide (fn.ntmps≤100000)&&fn.results.toList.all (fun v=>match v with| .tmp t=>decide (t<fn.ntmps)| .cell t _=>decide (t<fn.ntmps)))=true)
  (h:AW P fn.ntmps c (cAu P fn O r) (nF O args)):aIk P O f args r:=by
 intro w I A vals hO hl hv;simp only[cD,dR] at hn;obtain ⟨⟨hn1,hn2⟩,hn3⟩:=hn;refine calls_of_wp hf hb (wp_mono (wpIn_wide.1 (Go.Rv.w8▸h none [] I (cG A) _ w (dB.enter hO hl hn1 hn2 hv) rfl)) ?_);intro e a' w' ⟨I',A',ρ',k1,k2,k3,k4⟩;have fin:(∃r',r=some r'∧hi ρ'=bS O∧qI P ρ' fn.results.toList r')→ ∃v,(results fn a'.tmps).run P w'=.ok v w'∧ ∃I',jI w' I' A O∧f8 w I A w' I' A∧((∃r' v',r=some r'∧Ending.returned v=.returned v'∧qA w w' I' A r' v')∨(r=none∧ ∃t v',Ending.returned v=.panicked (aUd t v'))):=by
  rintro ⟨r',rfl,hh,hr⟩;obtain ⟨v,r1,r2⟩:=aOh k1 k3 hn3 hr;exact ⟨v,r1,I',k1.callee k3.outA hO.inj (iK hh),k3.callee,.inl ⟨r',v,rfl,rfl,r2⟩⟩
 cases e with
 |normal=>exact ⟨k2,fin k4⟩
 |ret=>exact ⟨k2,fin k4⟩
 |panic ch=>
  obtain ⟨rfl,hh,t,v,rfl⟩:=k4;exact ⟨k2,I',k1.callee k3.outA hO.inj (iK hh),k3.callee,.inr ⟨rfl,t,v,rfl⟩⟩
 |_=>exact k4.elim
variable {nt:Nat} {ρ:aN} {ops:Array Oper}
def OWX (P:Program) (nt:Nat) (ops:Array Oper) (o:Oper) (K Kp:aN→Prop) (ρ:aN):Prop:=
 ∀(ro:Option Nat) (ds:List Deferred) I A a w,dB nt w I A ρ a→a.defers=ds→ ∀(next:Act→World→Prop) (Q':Exit→Act→World→Prop),
  (∀I' A' a' w' ρ',dB nt w' I' A' ρ' a'→a'.defers=ds→f8 w I A w' I' A'→K ρ'→next a' w')→
  (∀I' A' a' w' ρ' t v,dB nt w' I' A' ρ' a'→a'.defers=ds→f8 w I A w' I' A'→Kp ρ'→Q' (.panic (aUd t v)) a' w')→
  if Region.wanted o (yielded ops a.tmps)=true then o.wpIn (FR ro) 0 P a w next Q' else (∀f,o.about P w a.eval=some f→(FR ro).fn f)∧next (a.put o.dst undef) w
def RWX (P:Program) (nt:Nat) (ops:Array Oper) (k kp:aN→Prop):List Oper→aN→Prop
 | [],ρ=>k ρ
 |o::os,ρ=>OWX P nt ops o (RWX P nt ops k kp os) kp ρ
theorem nH {o:Oper} {K Kp:aN→Prop} (h:OW P nt ops o K ρ):OWX P nt ops o K Kp ρ:=fun ro ds I A a w hs hd next Q' hn _=>h ro ds I A a w hs hd next Q' hn
theorem aRf {ro:Option Nat} {ds:List Deferred} {k kp:aN→Prop} {Q':Exit→Act→World→Prop}: ∀(l:List Oper) (ρ:aN) (I:Nat→Prop) (A:dD) (a:Act) (w:World),RWX P nt ops k kp l ρ→dB nt w I A ρ a→a.defers=ds→
  (∀I' A' a' w' ρ',dB nt w' I' A' ρ' a'→a'.defers=ds→f8 w I A w' I' A'→k ρ'→Q' .normal a' w')→
  (∀I' A' a' w' ρ' t v,dB nt w' I' A' ρ' a'→a'.defers=ds→f8 w I A w' I' A'→kp ρ'→Q' (.panic (aUd t v)) a' w')→wpListIn (FR ro) 0 P ops Q' l a w
 | [],ρ,I,A,a,w,h,hs,hd,hk,_=>hk I A a w ρ hs hd (f8.refl _ _ _) h
 |o::l,ρ,I,A,a,w,h,hs,hd,hk,hp=>by
  refine wpListIn_step fun K hK=>h ro ds I A a w hs hd K Q' (fun I' A' a' w' ρ' h1 h2 h3 h4=>hK _ _ ?_) hp;exact aRf l ρ' I' A' a' w' h4 h1 h2 (fun I2 A2 a2 w2 ρ2 k1 k2 k3 k4=>hk I2 A2 a2 w2 ρ2 k1 k2 (h3.trans k3) k4) fun I2 A2 a2 w2 ρ2 t v k1 k2 k3 k4=>hp I2 A2 a2 w2 ρ2 t v k1 k2 (h3.trans k3) k4
theorem qT {id:Nat} {l:List Oper} {Q:Exit→aN→Prop} (h:RWX P nt l.toArray (Q .normal) (fun ρ=> ∀t v,Q (.panic (aUd t v)) ρ) l ρ):AW P nt (.region id l.toArray false) Q ρ:=by
 intro ro ds I A a w hs hd;exact wpIn_region_lit (aRf l ρ I A a w h hs hd (fun I' A' a' w' ρ' h1 h2 h3 h4=>⟨I',A',ρ',h1,h2,h3,h4⟩) fun I' A' a' w' ρ' t v h1 h2 h3 h4=>⟨I',A',ρ',h1,h2,h3,h4 t v⟩)
theorem aFq {o:Oper} {K:aN→Prop} {t:TypeId} {x:Operand} {d:Nat} (hop:o.op=.makeInterface t x) (hg:o.guard=none) (hdst:o.dst=some d) (hd:d<nt) (ho:eJ nt o=true) (hx:gd (ev ρ x)) (hi:((P.underlying t).map fun u=>match u with| .interface _=>true|_=>false)=some false) (hK:K (set ρ d (.iface t (un (ev ρ x))))):OW P nt ops o K ρ:=
 iF hg fun I A a w hs=>by
  have hr:=hs.opd x (bM ho (x:=x) (by simp[hop,Op.operands])) hx;have h2:=bP.iface A t _ _ hr;refine ⟨.iface t (a.eval x),w,I,A,_,?_,hs.putV (o:=o) (v:=.iface t (un (ev ρ x))) (by unfold jH;rw[hdst];simpa using hd) h2,f8.refl _ _ _,?_⟩
  ·have hrun:(Go.Instr.makeInterface t (a.eval x)).run P w=.ok (.iface t (a.eval x)) w:=by
    unfold Go.Instr.makeInterface;cases hu:P.underlying t with
    |none=>rw[hu] at hi;cases hi
    |some u=>
     rw[hu] at hi;simp only[gG,bX] at hi;rw[Sem.run_bind,run_underlying hu,Result.andThen_ok];cases u<;>first|rfl|(cases hi)
   simp[execOp,hop,hrun]
  rw[hdst];exact hK
theorem aAk {o:Oper} {K Kp:aN→Prop} {x:Operand} (hop:o.op=.panic x) (hg:o.guard=none) (ho:eJ nt o=true) {t:TypeId} {d:DV} (hx:ev ρ x=.iface t d) (hK:Kp ρ):OWX P nt ops o K Kp ρ:=by
 intro ro ds I A a w hs hdf next Q' _ hp
 rw[if_pos (by simp[Region.wanted,hg])];have hr:=hs.opd x (bM ho (x:=x) (by simp[hop,Op.operands])) (by rw[hx];trivial);rw[hx] at hr;generalize hv:a.eval x=v at hr;have hr:bP w I A (.iface t d) v:=hr;cases hr with
 |iface _ _ _ u hu=>
  have h1:(execOp a.eval o).run P w=.halt (.panic (.iface t u)) w:=by
   have h2:(Go.Instr.panic (a.eval x)).run P w=.halt (.panic (.iface t u)) w:=by rw[hv];rfl
   simp only[execOp,hop,Sem.run_bind,Sem.run_map,Functor.map,h2,Result.andThen]
  refine ⟨fun f hf=>?_,?_⟩
  ·simp[Oper.about,hop] at hf
  have h3:(o.semAt (FR ro).round a.eval).run P w=.halt (.panic (.iface t u)) w:=by
   have:o.semAt (FR ro).round a.eval=execOp a.eval o:=by
    cases ro with
    |none=>exact Oper.semAt_none a.eval o
    |some l=>exact Oper.semAt_some l a.eval o fun c hc=>by rw[hop] at hc;cases hc
   rw[this];exact h1
  rw[h3,Oper.uponIn_panic];exact hp I A a w ρ t u hs hdf (f8.refl _ _ _) hK
theorem aQj {o:Oper} {K Kp:aN→Prop} {fv:Operand} {args:Array Operand} {ts:Array TypeId} {d:Nat} (hop:o.op=.call ⟨.value fv,args,ts⟩) (hg:o.guard=none) (hdst:o.dst=some d) (hd:d<nt)
  (ho:eJ nt o=true) (hgf:gd (ev ρ fv)) (hga: ∀x∈args.toList,gd (ev ρ x)) {f:FuncId} {l:List DV} (hc:callee (un (ev ρ fv)) (args.toList.map fun x=>un (ev ρ x))=some (f,l)) (hb:aM P f=true)
  (h:aIk P ρ f l none) (hK:Kp ρ):OWX P nt ops o K Kp ρ:=by
 intro ro ds I A a w hs hdf next Q' hn hp
 obtain ⟨vals,h1,h2,h3⟩:=nI hs hop ho hgf hga hc hb;rw[if_pos (by simp[Region.wanted,hg])];refine tG h1 ?_;refine (h w I A vals hs.osim h2 h3).mono ?_;rintro e w' ⟨I',k1,k2,k3⟩;rcases k3 with ⟨r',v,k3,_⟩|⟨_,t,v,rfl⟩
 ·cases k3
 exact hp I' A a w' ρ t v (hs.called k1 (fun _=>fR.refl _) (fun _ h=>h) k2) hdf k2 hK
end
end Go.Sg
namespace Go.Sg
open Go.RowKit
open Go.Rv (FR)
section
variable {P:Program} {nt:Nat}
theorem dB.below {w:World} {I:Nat→Prop} {A:dD} {ρ:aN} {a:Act} (hs:dB nt w I A ρ a) {ρ':aN} (h1: ∀i,i<100000→ρ' i=.any∨(i<nt∧(∃cs,ρ i=.bx cs)∧ρ' i=.bp (i+100000) 0)) (h2: ∀s,ρ' (s+100000)=sh (ρ s)):dB nt w I (cG A) ρ' a:=by
 refine ⟨⟨fun s=>?_,fun s t g c c' e1 e2=>?_,fun s g c h=>?_,hs.osim.imm⟩,hs.size,hs.bound,fun i hi=>?_,fun s h=>?_⟩
 ·by_cases h:s<100000
  ·rcases h1 s h with e|⟨_,_,e⟩<;>rw[e]<;>trivial
  obtain ⟨t,rfl⟩: ∃t,s=t+100000:=⟨s-100000,by omega⟩;rw[h2];exact (hs.osim.own t).into rfl
 ·unfold cG at e1 e2;split at e1<;>split at e2<;>first|cases e1|cases e2|skip
  have:=hs.osim.inj _ _ g c c' e1 e2;omega
 ·unfold cG at h;split at h
  ·cases h
  exact hs.osim.sep _ g c h
 ·rcases h1 i (eE hi hs.bound) with e|⟨_,⟨cs,hc⟩,e⟩
  ·rw[e];exact .any _ _
  have:=hs.slot i hi;rw[hc] at this;obtain ⟨g,c,k1,k2⟩:=this;rw[e,k2];exact bP.bp _ _ _ g c ((d7 A i).trans k1)
 obtain ⟨t,rfl⟩: ∃t,s=t+100000:=⟨s-100000,by omega⟩;rw[h2];exact aFb _
theorem dB.above {w:World} {I:Nat→Prop} {A A':dD} {ρ' O τ:aN} {a:Act} (hs:dB nt w I A' ρ' a) (hA: ∀s,100000≤s→A' s=cG A s) (hinj: ∀s t g c c',A s=some (some g,c)→A t=some (some g,c')→s=t) (h: ∀s,ρ' (s+100000)=sh (O s))
  (h1: ∀i,i<100000→τ i=.any∨ ∃cs,O i=.bx cs∧τ i=.bx cs∧ρ' i=.bp (i+100000) 0) (h2: ∀i,100000≤i→τ i=O i) (ho: ∀i,100000≤i→cX (O i)):dB nt w I A τ a:=by
 have hO:jI w I A O:=hs.callee hA hinj h;refine ⟨⟨fun s=>?_,hO.inj,hO.sep,hO.imm⟩,hs.size,hs.bound,fun i hi=>?_,fun s hs'=>by rw[h2 s hs'];exact ho s hs'⟩
 ·by_cases hs':s<100000
  ·rcases h1 s hs' with e|⟨cs,e1,e2,_⟩
   ·rw[e];trivial
   rw[e2,← e1];exact hO.own s
  rw[h2 s aV];exact hO.own s
 rcases h1 i (eE hi hs.bound) with e|⟨cs,e1,e2,e3⟩
 ·rw[e];exact .any _ _
 have:=hs.slot i hi;rw[e3] at this;rw[e2];generalize a.tmps.getD i undef=x at this ⊢;have this:bP w I A' (.bp (i+100000) 0) x:=this;cases this with
 |bp _ _ _ g c hg=>exact ⟨g,c,by rw[hA _ aV,d7] at hg;exact hg,rfl⟩
def aJk (O:aN) (y6 y7 y8:List DV):aN:=set (set (set O 6 (.bx y6)) 7 (.bx y7)) 8 (.bx y8)
theorem aTv {O:aN} {y6 y7 y8:List DV} {s:Nat} (h6:s≠6) (h7:s≠7) (h8:s≠8):aJk O y6 y7 y8 s=O s:=by
 unfold aJk;rw[aK,if_neg h8,aK,if_neg h7,aK,if_neg h6]
def t7 (O:aN):aN:=fun i=>if i<100000 then (if i=6∨i=7∨i=8 then O i else .any) else O i
theorem aYi {q0 q1:Oper} {id:Nat} {Q:Exit→Act→List Frame→World→Prop} {a:Act} {cs:List Frame} {w:World} {ts:Array TypeId} {d0 d1:Nat} (hq0:q0.op=.call ⟨.builtin .recover,#[],ts⟩) (hg0:q0.guard=none) (hd0:q0.dst=some d0) (hg1:q1.guard=none) (hd1:q1.dst=some d1)
  {v:Value} {cs':List Frame} {b:Value} (hr:(recoverD cs=some (v,cs'))∨(recoverD cs=none∧v=.nilIface∧cs'=cs))
  (h1:(execOp (a.put (some d0) v).eval q1).run P w=.ok (.value b) w) (h:Q .normal ((a.put (some d0) v).put (some d1) b) cs' w):(Code.region id [q0,q1].toArray false).wpS P Q a cs w:=by
 refine wpS_region ?_;show wpOpsS P _ Q [0,1] a cs w;have hrun:(execOp a.eval q0).run P w=.ok .recover w:=by simp[execOp,hq0,resolve,invoke,builtin]
 have e0:([q0,q1].toArray)[0]?=some q0:=rfl;have e1:([q0,q1].toArray)[1]?=some q1:=rfl;unfold wpOpsS;simp only[e0];rw[if_pos (by simp[Region.wanted,hg0]),hrun];have key:wpOpsS P [q0,q1].toArray Q [1] (a.put q0.dst v) cs' w:=by
  unfold wpOpsS;simp only[e1];rw[if_pos (by simp[Region.wanted,hg1]),hd0,h1];simp only[Oper.upon];unfold wpOpsS;rw[hd1];exact h
 rcases hr with hr|⟨hr,rfl,rfl⟩
 ·simp only[hr];exact key
 simp only[hr];exact key
theorem aDw {f g:FuncId} {fn fg:Func} {c0 c2 cR:Code} {i1 i2:Nat} {o1 o2 q0 q1:Oper} {ts ts2:Array TypeId} {O:aN} {args:List DV} {ρ1 ρ2:aN} {r:DV} {x6 x7 x8 y6 y7 y8:List DV}
  (hf:P.funcs[f]?=some fn) (hb:fn.body=some (.seq c0 (.seq (.region i1 [o1,o2].toArray false) c2)))
  (hn:(decide (args.length≤fn.ntmps)&&decide (fn.ntmps≤100000)&&decide (9<fn.ntmps)&&fn.results.toList.all (fun v=>match v with| .tmp t=>decide (t<fn.ntmps)| .cell t _=>decide (t<fn.ntmps)))=true)
  (ho1:o1.op=.makeFunc (.func g) #[] #[.tmp 6,.tmp 7,.tmp 8]) (hg1:o1.guard=none) (hd1:o1.dst=some 9) (ho2:o2.op=.defer ⟨.value (.tmp 9),#[],ts⟩) (hg2:o2.guard=none) (hd2:o2.dst=none)
  (hg:P.funcs[g]?=some fg) (hgb:fg.body=some (.seq (.region i2 [q0,q1].toArray false) (.cond (.tmp 4) cR .skip))) (hgn:fg.ntmps=6) (hgr:fg.results= #[]) (hgh:aM P g=true)
  (hq0:q0.op=.call ⟨.builtin .recover,#[],ts2⟩) (hqg0:q0.guard=none) (hqd0:q0.dst=some 3) (hqg1:q1.guard=none) (hqd1:q1.dst=some 4)
  (hT: ∀(a:Act) (w:World) u v,a.eval (.tmp 3)=.iface u v→(execOp a.eval q1).run P w=.ok (.value (.bool true)) w) (hN: ∀(a:Act) (w:World),a.eval (.tmp 3)=.nilIface→(execOp a.eval q1).run P w=.ok (.value (.bool false)) w)
  (h0:AW P fn.ntmps c0 (fun e ρ=>e=.normal∧Le ρ ρ1) (nF O args)) (hO1:hi ρ1=bS O) (h16: ∃cs,ρ1 6=.bx cs) (h17: ∃cs,ρ1 7=.bx cs) (h18: ∃cs,ρ1 8=.bx cs)
  (hv1: ∀i,i<100000→ρ2 i=.any∨(i<fn.ntmps∧(∃cs,ρ1 i=.bx cs)∧ρ2 i=.bp (i+100000) 0)) (hv2: ∀s,ρ2 (s+100000)=sh (ρ1 s)) (h29:ρ2 9=.any) (hy6:cX (.bx y6)) (hy7:cX (.bx y7)) (hy8:cX (.bx y8))
  (h2:AW P fn.ntmps c2 (fun e ρ=> ∃O2,(∀s,ρ (s+100000)=sh (O2 s))∧hi O2=bS O∧ρ 6=.bp 100006 0∧ρ 7=.bp 100007 0∧ρ 8=.bp 100008 0∧O2 6=.bx x6∧O2 7=.bx x7∧O2 8=.bx x8∧
   ((e=.ret∧qI P (t7 O2) fn.results.toList r)∨((∃t v,e=.panic (aUd t v))∧x6.length=y6.length∧x7.length=y7.length∧x8.length=y8.length∧qI P (t7 (aJk O2 y6 y7 y8)) fn.results.toList r))) ρ2)
  (hR: ∀O2:aN,O2 6=.bx x6→O2 7=.bx x7→O2 8=.bx x8→AW P 6 cR (fun e ρ=>e=.normal∧ ∀s,ρ (s+100000)=sh (aJk O2 y6 y7 y8 s)) (nF O2 [.bp 6 0,.bp 7 0,.bp 8 0])):aZ P O f args r:=by
 intro w I A vals hO hl hv;simp only[cD,dR] at hn;obtain ⟨⟨⟨hn1,hn2⟩,hn9⟩,hn3⟩:=hn
 have fin: ∀{w1 w3:World} {I1 I3:Nat→Prop} {A1:dD} {τ:aN} {a:Act},dB fn.ntmps w3 I3 A1 τ a→f8 w I (cG A) w3 I3 A1→hi τ=bS O→qI P τ fn.results.toList r→
   ∃v,(results fn a.tmps).run P w3=.ok v w3∧ ∃v' I' O' r',Ending.returned v=.returned v'∧jI w3 I' A O'∧(∀s,fR (O s) (O' s))∧(∀s,cX (O s)→cX (O' s))∧f8 w I A w3 I' A∧qA w w3 I' A r' v'∧O'=O∧r'=r:=by
  intro w1 w3 I1 I3 A1 τ a k1 k3 hh hr;obtain ⟨v,r1,r2⟩:=aOh k1 k3 hn3 hr;exact ⟨v,r1,v,I3,O,r,rfl,k1.callee k3.outA hO.inj (iK hh),fun _=>fR.refl _,fun _ h=>h,k3.callee,r2,rfl,rfl⟩
 refine calls_of_wp_defers hf hb (wpIn_wide.1 (Go.Rv.w8▸(?_:(Code.seq c0 (.seq (.region i1 [o1,o2].toArray false) c2)).wpIn (FR none) 0 P _ _ _)));refine wpIn_seq (wpIn_mono (h0 none [] I (cG A) _ w (dB.enter hO hl hn1 hn2 hv) rfl) ?_);rintro e a1 w1 ⟨I1,A1,ρ,k1,k2,k3,rfl,hle⟩;replace k1:=k1.weaken hle;have b1:=k1.below hv1 hv2;have hbox: ∀i,i<fn.ntmps→(∃cs,ρ1 i=.bx cs)→ ∃g c,A1 i=some (some g,c)∧a1.tmps.getD i undef=.pointer (some ⟨g,0,none⟩):=fun i hi ⟨cs,hc⟩=>by
  have:=k1.slot i hi;rw[hc] at this;exact this
 obtain ⟨g6,c6,p6,v6⟩:=hbox 6 aV h16;obtain ⟨g7,c7,p7,v7⟩:=hbox 7 aV h17;obtain ⟨g8,c8,p8,v8⟩:=hbox 8 aV h18;have hfun:(execOp a1.eval o1).run P w1=.ok (.value (.func (.func g) #[] #[.pointer (some ⟨g6,0,none⟩),.pointer (some ⟨g7,0,none⟩),.pointer (some ⟨g8,0,none⟩)])) w1:=by
  have e6:a1.eval (.tmp 6)=.pointer (some ⟨g6,0,none⟩):=v6;have e7:a1.eval (.tmp 7)=.pointer (some ⟨g7,0,none⟩):=v7;have e8:a1.eval (.tmp 8)=.pointer (some ⟨g8,0,none⟩):=v8;simp[execOp,ho1,Instr.makeFunc];exact ⟨e6,e7,e8⟩
 generalize hvs:(#[.pointer (some ⟨g6,0,none⟩),.pointer (some ⟨g7,0,none⟩),.pointer (some ⟨g8,0,none⟩)]:Array Value)=vs at hfun;refine wpIn_seq (wpIn_region_lit (l:=[o1,o2]) ?_);refine wpListIn_step fun K hK=>?_;rw[if_pos (by simp[Region.wanted,hg1])];refine oO hfun (hK _ _ ?_);refine wpListIn_step fun _ Z2=>?_;rw[if_pos (by simp[Region.wanted,hg2])];refine ⟨fun _ _=>trivial,?_⟩;have hnt:a1.tmps.size=fn.ntmps:=k1.size;have hrun:(o2.semAt (FR none).round (a1.put o1.dst (.func (.func g) #[] vs)).eval).run P w1=.ok (.defer {target:=.fn (.func g) vs,args:= #[]}) w1:=by
  show (execOp (a1.put o1.dst (.func (.func g) #[] vs)).eval o2).run P w1=_;have hev:(a1.put o1.dst (.func (.func g) #[] vs)).eval (.tmp 9)=.func (.func g) #[] vs:=by
   rw[hd1];show (a1.tmps.setIfInBounds 9 _).getD 9 undef=_;simp[oB,aBx,hnt,hn9]
  simp[execOp,ho2,resolve,hev,Deferred.ofValue]
 rw[hrun,Oper.uponIn_defer,hd2];refine Z2 _ _ (wpListIn_nil ?_);have b2:=b1.put (d:=9) (v:=.any) (x:=.func (.func g) #[] vs) hn9 (.any _ _) trivial;have hset:set ρ2 9 .any=ρ2:=by
  funext s;rw[aK];split
  ·rename_i e;rw[e,h29]
  rfl
 rw[hset] at b2;have hdef1:(a1.put o1.dst (.func (.func g) #[] vs)).defers=[]:=by rw[gT];exact k2
 show c2.wpIn (FR none) 0 P _ _ w1;refine wpIn_mono (h2 none [{target:=.fn (.func g) vs,args:= #[]}] I1 (cG A1) _ w1 (by rw[hd1];exact ⟨b2.osim,b2.size,b2.bound,b2.slot,b2.out⟩) (by show _::(a1.put o1.dst (.func (.func g) #[] vs)).defers=_;rw[hdef1])) ?_;rintro e a2 w2 ⟨I2,A2,ρ',m1,m2,m3,O2,n1,n2,n6,n7,n8,n9,n10,n11,hcase⟩;have hO2:jI w2 I2 A1 O2:=m1.callee m3.outA k1.osim.inj n1;have hE2:f8 w1 I1 A1 w2 I2 A1:=m3.callee;have hE:f8 w I (cG A) w2 I2 A1:=k3.trans hE2;have hhi: ∀(Z:aN),hi Z=bS O→ ∀i,100000≤i→Z i=bS O i:=fun Z hZ i hi'=>by
  have:=congrFun hZ i;unfold Sg.hi at this
  rwa [if_neg aV] at this
 have hout: ∀(Z:aN),hi Z=bS O→ ∀i,100000≤i→cX (Z i):=fun Z hZ i hi'=>by rw[hhi Z hZ i hi'];exact aRb O i hi'
 have h3hi: ∀(Z:aN),hi Z=bS O→hi (t7 Z)=bS O:=fun Z hZ=>by
  rw[← hZ];funext i;unfold Sg.hi t7;split
  ·rfl
  rfl
 have hτ:dB fn.ntmps w2 I2 A1 (t7 O2) a2:=m1.above m3.outA k1.osim.inj n1 (fun i hi'=>by
   unfold t7;rw[if_pos hi'];split
   ·rename_i h;right;rcases h with rfl|rfl|rfl
    ·exact ⟨_,n9,n9,n6⟩
    ·exact ⟨_,n10,n10,n7⟩
    exact ⟨_,n11,n11,n8⟩
   exact .inl rfl) (fun i hi'=>by unfold t7;rw[if_neg aV]) (hout O2 n2)
 have hinv:(invoke (.fn (.func g) vs) #[]).run P w2=.ok (.enter g vs) w2:=by
  have hcf:(callFunc g vs).run P w2=.ok (.enter g vs) w2:=by
   unfold aM at hgh;rw[hg] at hgh;simp only[cD,mH] at hgh;have hn:fg.body.isNone=false:=by rw[hgb];rfl
   simp only[callFunc,Sem.run_bind,run_program,Result.andThen_ok,hg,hgh.2,hn,aQs,s7,Sem.run_pure]
  simp[invoke,hcf]
 have hsz:vs.size=3:=by rw[← hvs];rfl
 have hargs: ∀(j:Nat) (d:DV) (u:Value),([.bp 6 0,.bp 7 0,.bp 8 0]:List DV)[j]?=some d→vs[j]?=some u→bP w2 I2 A1 d u:=fun j d u hd hu=>by
  rw[← hvs] at hu
  match j,hd,hu with
  |0,hd,hu=>cases hd;cases hu;exact .bp _ _ _ g6 c6 p6
  |1,hd,hu=>cases hd;cases hu;exact .bp _ _ _ g7 c7 p7
  |2,hd,hu=>cases hd;cases hu;exact .bp _ _ _ g8 c8 p8
 have hstart: ∀(x y:Value),dB 6 w2 I2 (cG A1) (nF O2 [.bp 6 0,.bp 7 0,.bp 8 0]) ((({tmps:=vs++Array.replicate (6-vs.size) undef,defers:=[]}:Act).put (some 3) x).put (some 4) y):=fun x y=>by
  have h:=dB.enter (nt:=6) hO2 (args:=[.bp 6 0,.bp 7 0,.bp 8 0]) (vals:=vs) hsz eN eN hargs;have h:=(h.put (d:=3) (v:=.any) (x:=x) eN (.any _ _) trivial).put (d:=4) (v:=.any) (x:=y) eN (.any _ _) trivial;have he:set (set (nF O2 [.bp 6 0,.bp 7 0,.bp 8 0]) 3 .any) 4 .any=nF O2 [.bp 6 0,.bp 7 0,.bp 8 0]:=by
   funext s;rw[aK,aK];split
   ·rename_i e;subst e;rfl
   split
   ·rename_i e;subst e;rfl
   rfl
  rwa [he] at h
 have hsz6:(vs++Array.replicate (6-vs.size) undef).size=6:=by simp[hsz]
 have hev3: ∀x:Value,(({tmps:=vs++Array.replicate (6-vs.size) undef,defers:=[]}:Act).put (some 3) x).eval (.tmp 3)=x:=fun x=>by
  show ((vs++Array.replicate (6-vs.size) undef).setIfInBounds 3 x).getD 3 undef=x;simp only[oB,aBx,hsz6];rfl
 have hev4: ∀x y:Value,((({tmps:=vs++Array.replicate (6-vs.size) undef,defers:=[]}:Act).put (some 3) x).put (some 4) y).eval (.tmp 4)=y:=fun x y=>by
  show (((vs++Array.replicate (6-vs.size) undef).setIfInBounds 3 x).setIfInBounds 4 y).getD 4 undef=y;simp only[oB,aBx,Array.size_setIfInBounds,hsz6];rfl
 have hres: ∀(a:Act) (w:World),(results fg a.tmps).run P w=.ok (.tuple #[]) w:=fun a w=>by simp[results,hgr]
 rcases hcase with ⟨rfl,hr⟩|⟨⟨t,v,rfl⟩,l6,l7,l8,hr⟩
 ·show Leaves P fn a2.tmps _ a2.defers .returning w2;rw[m2];refine leaves_cons dH hinv ?_;rw[hgn.symm] at hev3 hev4;refine callsD_of_wpS hg hgb fun c₀ cs hu=>wpS_seq ?_;have hc0:({c₀ with mode:=.returning}:Frame)=c₀:=by rw[← hu]
  refine aYi hq0 hqg0 hqd0 hqg1 hqd1 (v:=.nilIface) (cs':=c₀::cs) (b:=.bool false) (.inr ⟨by simp[recoverD,hu],rfl,rfl⟩) (hN _ _ (hev3 _)) ?_;refine wpS_cond (t:=false) (hev4 _ _) (wpS_of_wp (wp_skip ?_));refine ⟨rfl,.returning,by rw[hc0],_,hres _ _,?_⟩;exact fin (w1:=w1) (I1:=I1) hτ hE (h3hi O2 n2) hr
 show Leaves P fn a2.tmps _ a2.defers (.panicking (aUd t v)) w2;rw[m2];refine leaves_cons dH hinv ?_;refine callsD_of_wpS hg hgb fun c₀ cs hu=>wpS_seq ?_;rw[hgn];refine aYi hq0 hqg0 hqd0 hqg1 hqd1 (v:=.iface t v) (cs':={c₀ with mode:=.panicking [{v:=.iface t v,recovered:=true}]}::cs) (b:=.bool true) (.inl (by simp[recoverD,hu])) (hT _ _ t v (hev3 _)) ?_;refine wpS_cond (t:=true) (hev4 _ _) (wpS_of_wp ?_);refine wp_mono (wpIn_wide.1 (Go.Rv.w8▸hR O2 n9 n10 n11 none [] I2 (cG A1) _ w2 (hstart _ _) rfl)) ?_;rintro e a3 w3 ⟨I3,A3,ρ3,j1,j2,j3,rfl,j4⟩;have hO3:jI w3 I3 A1 (aJk O2 y6 y7 y8):=j1.callee j3.outA k1.osim.inj j4;have hE3:f8 w2 I2 A1 w3 I3 A1:=j3.callee;have hhi3:hi (aJk O2 y6 y7 y8)=bS O:=by
  rw[← n2];funext i;unfold Sg.hi;split
  ·rfl
  exact aTv aV aV aV
 have hO3':jI w3 I3 A1 (t7 (aJk O2 y6 y7 y8)):=⟨fun s=>by
  unfold t7;split
  ·split
   ·exact hO3.own s
   trivial
  exact hO3.own s,hO3.inj,hO3.sep,hO3.imm⟩
 have hfr: ∀s,fR (t7 O2 s) (t7 (aJk O2 y6 y7 y8) s):=fun s=>by
  unfold t7;split
  ·split
   ·rename_i h;rcases h with rfl|rfl|rfl
    ·rw[n9];exact l6
    ·rw[n10];exact l7
    rw[n11];exact l8
   exact fR.refl _
  rw[aTv aV aV aV];exact fR.refl _
 have hio: ∀s,cX (t7 O2 s)→cX (t7 (aJk O2 y6 y7 y8) s):=fun s hs=>by
  unfold t7 at hs ⊢;split
  ·split
   ·rename_i h;rcases h with rfl|rfl|rfl
    ·exact hy6
    ·exact hy7
    exact hy8
   rfl
  rw[if_neg (by assumption)] at hs;rw[aTv aV aV aV];exact hs
 have hτ3:dB fn.ntmps w3 I3 A1 (t7 (aJk O2 y6 y7 y8)) a2:=hτ.called hO3' hfr hio hE3;refine ⟨j2,.panicking [{v:=.iface t v,recovered:=true}],rfl,_,hres _ _,?_⟩;show Leaves P fn a2.tmps _ [] (settle (.panicking [{v:=.iface t v,recovered:=true}])) w3;exact fin (w1:=w1) (I1:=I1) hτ3 (hE.trans hE3) (h3hi _ hhi3) hr
end
end Go.Sg
namespace Go.Sg
open Go.Proofs
theorem aNs {P:Program} {fn:Func} {O ρ:aN} {r:Option DV} (t:TypeId) (v:Value) (hr:r=none) (h1:hi ρ=bS O):cAu P fn O r (.panic (aUd t v)) ρ:=⟨hr,h1,t,v,rfl⟩
theorem bKv {P:Program} {fn:Func} {O ρ:aN} {r:Option DV} {cs:List DV} (a t:Nat) (hf:fn.results= #[.cell a t]) (h1:hi ρ=bS O) (h2:ρ a=.bx cs) (h3:eA P t=some (some cs.length)) (h4:sh (.agg cs)=.agg cs) (hr:r=some (.agg cs)):cAu P fn O r .ret ρ:=
 ⟨_,hr,h1,by rw[hf];exact ⟨rfl,cs,h2,.inl ⟨h3,by rw[h4];exact eK.refl _⟩⟩⟩
theorem aEx {P:Program} {fn:Func} {O ρ:aN} {r:Option DV} {a b:ResultVar} {vs:List ResultVar} {rl:List DV} (hf:fn.results.toList=a::b::vs) (h1:hi ρ=bS O) (h:RO P ρ (a::b::vs) rl) (hr:r=some (.tup rl)):cAu P fn O r .ret ρ:=
 ⟨_,hr,h1,by rw[hf];cases a<;>exact ⟨rl,rfl,h.len,h.get⟩⟩
abbrev St0:aY:=⟨0,0⟩
def awS (r:bL) (f:fH):Option aY:=if (gS 2 f.xAj 0).2=false∨ndR r ⟨f.fEl,(gS 2 f.xAj 0).1⟩=true then none else some ⟨f.fEl,3-(gS 2 f.xAj 0).1⟩
theorem cQh {r:bL} {f:fH} (h:(gS 2 f.xAj 0).2=false∨ndR r ⟨f.fEl,(gS 2 f.xAj 0).1⟩=true):awS r f=none:=by unfold awS;rw[if_pos h]
theorem cPi {r:bL} {f:fH} (h: ¬((gS 2 f.xAj 0).2=false∨ndR r ⟨f.fEl,(gS 2 f.xAj 0).1⟩=true)):awS r f=some ⟨f.fEl,3-(gS 2 f.xAj 0).1⟩:=by unfold awS;rw[if_neg h]
theorem cBi (s:Int):0≤(gS 2 s 0).1∧(gS 2 s 0).1≤2:=by
 rw[aWp];split
 ·simp
 split<;>simp
def yK (l:aC) (r:bL):Nat→fH→Option (aY×Int)
 |0,_=>none
 |n+1,e=>if (bH l e).2=false then some (St0,-1) else if 0≤lX l (bH l e).1 then some (St0,lX l (bH l e).1) else if (jG r.xAf (bH l e).1.fEl||jG r.xAl (bH l e).1.fEl)=true then some (St0,-1)
  else if (bH l e).1.fEl<0∨(l.xAh.length:Int)≤(bH l e).1.fEl then none else if (lI l (bH l e).1.fEl.toNat).xAp=2 then (awS r (bH l e).1).map fun s=>(s,-1)
  else if (lE (lI l (bH l e).1.fEl.toNat).xAp (bH l e).1.xAj).length=0 then none else yK l r n ⟨(bH l e).1.fEl,(lE (lI l (bH l e).1.fEl.toNat).xAp (bH l e).1.xAj).getD 0 default⟩
section
variable {l:aC} {r:bL} {n:Nat} {e:fH}
theorem cOu (h1:(bH l e).2=false):yK l r (n+1) e=some (St0,-1):=by rw[yK,if_pos h1]
theorem cPj (h1:(bH l e).2=true) (h2:0≤lX l (bH l e).1):yK l r (n+1) e=some (St0,lX l (bH l e).1):=by rw[yK,if_neg (by rw[h1];simp),if_pos h2]
theorem cRd (h1:(bH l e).2=true) (h2: ¬0≤lX l (bH l e).1) (h3:(jG r.xAf (bH l e).1.fEl||jG r.xAl (bH l e).1.fEl)=true):yK l r (n+1) e=some (St0,-1):=by rw[yK,if_neg (by rw[h1];simp),if_neg h2,if_pos h3]
theorem cLx (h1:(bH l e).2=true) (h2: ¬0≤lX l (bH l e).1) (h3:(jG r.xAf (bH l e).1.fEl||jG r.xAl (bH l e).1.fEl)=false) (h4:(bH l e).1.fEl<0∨(l.xAh.length:Int)≤(bH l e).1.fEl):yK l r (n+1) e=none:=by rw[yK,if_neg (by rw[h1];simp),if_neg h2,if_neg (by rw[h3];simp),if_pos h4]
theorem cDi (h1:(bH l e).2=true) (h2: ¬0≤lX l (bH l e).1) (h3:(jG r.xAf (bH l e).1.fEl||jG r.xAl (bH l e).1.fEl)=false) (h4: ¬((bH l e).1.fEl<0∨(l.xAh.length:Int)≤(bH l e).1.fEl)) (h5:(lI l (bH l e).1.fEl.toNat).xAp=2):yK l r (n+1) e=(awS r (bH l e).1).map fun s=>(s,-1):=by rw[yK,if_neg (by rw[h1];simp),if_neg h2,if_neg (by rw[h3];simp),if_neg h4,if_pos h5]
theorem cSf (h1:(bH l e).2=true) (h2: ¬0≤lX l (bH l e).1) (h3:(jG r.xAf (bH l e).1.fEl||jG r.xAl (bH l e).1.fEl)=false) (h4: ¬((bH l e).1.fEl<0∨(l.xAh.length:Int)≤(bH l e).1.fEl)) (h5: ¬(lI l (bH l e).1.fEl.toNat).xAp=2) (h6:(lE (lI l (bH l e).1.fEl.toNat).xAp (bH l e).1.xAj).length=0):yK l r (n+1) e=none:=by rw[yK,if_neg (by rw[h1];simp),if_neg h2,if_neg (by rw[h3];simp),if_neg h4,if_neg h5,if_pos h6]
theorem cRp (h1:(bH l e).2=true) (h2: ¬0≤lX l (bH l e).1) (h3:(jG r.xAf (bH l e).1.fEl||jG r.xAl (bH l e).1.fEl)=false) (h4: ¬((bH l e).1.fEl<0∨(l.xAh.length:Int)≤(bH l e).1.fEl)) (h5: ¬(lI l (bH l e).1.fEl.toNat).xAp=2) (h6: ¬(lE (lI l (bH l e).1.fEl.toNat).xAp (bH l e).1.xAj).length=0):yK l r (n+1) e=yK l r n ⟨(bH l e).1.fEl,(lE (lI l (bH l e).1.fEl.toNat).xAp (bH l e).1.xAj).getD 0 default⟩:=by rw[yK,if_neg (by rw[h1];simp),if_neg h2,if_neg (by rw[h3];simp),if_neg h4,if_neg h5,if_neg h6]
end
def prV (p:aY×Int):DV:=.tup [.agg (bO p.1),vi p.2]
set_option maxRecDepth 20000 in
theorem aBq (O:aN) (r:bL) (f:fH):aIk Tryz.prog O 192 [.agg (bK r),.agg (fM f)] ((awS r f).map fun s=>.agg (bO s)):=by
 have hnb:=cBi f.xAj;refine aHt Tryz.func192 rfl bF ?_;refine aB [0,1] ?_;refine aA fun _ Z1=>bN [2,3,4] ?_;refine f9 (wH _ 2 f.xAj 0) ?_;refine Z1 _ (aA fun _ Z2=>aA fun _ Z3=>bN [2,3,4,5,6] ?_);refine rO (fun g0=>aMt _ r ⟨f.fEl,(gS 2 f.xAj 0).1⟩) ?_;refine Z3 _ (aO (fun c0=>?_) fun c0=>?_)
 ·have hcc:(gS 2 f.xAj 0).2=false∨ndR r ⟨f.fEl,(gS 2 f.xAj 0).1⟩=true:=(by simpa using c0);refine cM (Le.keepC [3,4,5] _) ?_;refine qT ?_;show OWX _ _ _ _ _ _ _;refine nH ?_;refine bV rfl bF bF ?_;refine lL ?_;show OWX _ _ _ _ _ _ _;refine nH ?_;refine bV rfl bF bF ?_;refine lL ?_;show OWX _ _ _ _ _ _ _;refine nH ?_;refine aFq rfl rfl rfl eN bF sz bF ?_;simp (disch:=omega) only[go_sem,seval];show OWX _ _ _ _ _ _ _;refine aAk rfl rfl bF sr ?_;intro tP vP
  try simp only[xV,vB]
  exact aNs tP vP (by rw[cQh hcc];rfl) sz
 have hcc: ¬((gS 2 f.xAj 0).2=false∨ndR r ⟨f.fEl,(gS 2 f.xAj 0).1⟩=true):=(by simpa using c0);refine aD (Z2 _ (aB [3,4,5] ?_));refine aL ?_;exact bKv 4 141 rfl sz sr bF rfl (by rw[cPi hcc];rfl)
set_option maxRecDepth 20000 in
theorem aAs (O:aN) (l:aC) (r:bL) (e0:fH) (hl:gO l):aIk Tryz.prog O 150 [.agg (aQ l),.agg (bK r),.agg (fM e0)] ((yK l r 4 e0).map prV):=by
 have hl1:=hl.sec;have hl2:=hl.el;have hl3:=hl.jo;have hl4:=hl.sg;have hl5:=hl.bl;refine aHt Tryz.func150 rfl bF ?_;refine aB [0,1,2] ?_;refine aA fun _ Z1=>aB [3,4,5,6,7] ?_;refine aI (aX [3,4,5,6,7,13] (fun n ρ=> ∃j,∃e,n=4-j∧(j≤4)∧(yK l r 4 e0=yK l r (4-j) e)∧ρ=dU O [(3,.bx (aQ l)),(4,.bx (bK r)),(5,.bx (fM e)),(6,.bx [vi 0,vi 0]),(7,vi 0),(13,vi (j:Nat))]) _ ⟨0,e0,rfl,?_,?_,?_⟩ ?_)
 ·exact bD
 ·rfl
 ·exact dT
 rintro n ρ ⟨j,e,rfl,l0_0,l0_1,rfl⟩ _ Z3;refine aB [3,4,5,6,7,13] ?_;refine aA fun _ Z5=>aO (fun c0=>?_) fun c0=>?_
 ·have h4j:4-j=(4-(j+1))+1:=by omega
  refine aD (Z5 _ (aA fun _ Z6=>aI (aA fun _ Z7=>bN [3,4,5,6,7,13] ?_)));refine f9 (n0 _ l e) ?_;refine Z7 _ (aA fun _ Z8=>aB [3,4,5,6,7,8,9,13] ?_);refine aO (fun c1=>?_) fun c1=>?_
  ·have h1:(bH l e).2=false:=(by simpa using c1);refine aB [6] ?_;refine aL ?_;exact aEx rfl sz (.cons (roC sr rfl bF rfl) (.cons (vU sr rfl rfl) .nil)) (by rw[l0_1,h4j,cOu h1];rfl)
  have h1:(bH l e).2=true:=(by simpa using c1);refine aD (Z8 _ (aA fun _ Z11=>aA fun _ Z12=>bN [3,4,5,6,7,8,13] ?_));refine f9 (lS _ l (bH l e).1) ?_;refine Z12 _ (aB [3,4,5,6,7,8,10,13] ?_);refine aO (fun c2=>?_) fun c2=>?_
  ·have h2:0≤lX l (bH l e).1:=(by simpa using c2);refine aB [6,10] ?_;refine aL ?_;exact aEx rfl sz (.cons (roC sr rfl bF rfl) (.cons (vU sr rfl rfl) .nil)) (by rw[l0_1,h4j,cPj h1 h2];rfl)
  have h2: ¬0≤lX l (bH l e).1:=(by simpa using c2);refine aD (Z11 _ (aA fun _ Z15=>aA fun _ Z16=>bN [3,4,5,6,7,8,13] ?_));refine f9 (aJo _ r (bH l e).1.fEl) ?_;refine Z16 _ (aO (fun c3=>?_) fun c3=>?_)
  ·have h3:(jG r.xAf (bH l e).1.fEl||jG r.xAl (bH l e).1.fEl)=true:=(by simpa using c3);refine aB [6] ?_;refine aL ?_;exact aEx rfl sz (.cons (roC sr rfl bF rfl) (.cons (vU sr rfl rfl) .nil)) (by rw[l0_1,h4j,cRd h1 h2 h3];rfl)
  have h3:(jG r.xAf (bH l e).1.fEl||jG r.xAl (bH l e).1.fEl)=false:=(by simpa using c3);refine aD (Z15 _ (aA fun _ Z18=>aB [3,4,5,6,7,8,13] ?_));refine aO (fun c4=>?_) fun c4=>?_
  ·have h4:(bH l e).1.fEl<0∨(l.xAh.length:Int)≤(bH l e).1.fEl:=(by simpa using c4);refine cM (Le.keepC [3,4,5,6,7,8,13] _) ?_;refine qT ?_;show OWX _ _ _ _ _ _ _;refine nH ?_;refine bV rfl bF bF ?_;refine lL ?_;show OWX _ _ _ _ _ _ _;refine nH ?_;refine bV rfl bF bF ?_;refine lL ?_;show OWX _ _ _ _ _ _ _;refine nH ?_;refine aFq rfl rfl rfl eN bF sz bF ?_;simp (disch:=omega) only[go_sem,seval];show OWX _ _ _ _ _ _ _;refine aAk rfl rfl bF sr ?_;intro tP vP
   try simp only[xV,vB]
   exact aNs tP vP (by rw[l0_1,h4j,cLx h1 h2 h3 h4];rfl) sz
  have h4: ¬((bH l e).1.fEl<0∨(l.xAh.length:Int)≤(bH l e).1.fEl):=(by simpa using c4);refine aD (Z18 _ (aB [3,4,5,6,7,8,13] ?_));refine aA fun _ Z21=>aB [3,4,5,6,7,8,11,13] ?_;refine aO (fun c5=>?_) fun c5=>?_
  ·have h5:(lI l (bH l e).1.fEl.toNat).xAp=2:=(by simpa using c5);refine aA fun _ Z23=>?_;rcases haw:awS r (bH l e).1 with _|sw
   ·refine cM (Le.keepC [4,6,8] _) ?_;refine qT ?_;show OWX _ _ _ _ _ _ _;refine nH ?_;refine bV rfl bF bF ?_;refine lL ?_;show OWX _ _ _ _ _ _ _;refine nH ?_;refine bV rfl bF bF ?_;refine lL ?_;show OWX _ _ _ _ _ _ _;refine aQj rfl rfl rfl eN bF sz sz sr bF (by have h:=fun O=>aBq O r (bH l e).1;simp only[haw,Option.map_none,gG] at h;exact h _) ?_;intro tP vP
    try simp only[xV,vB]
    exact aNs tP vP (by rw[l0_1,h4j,cDi h1 h2 h3 h4 h5,haw];rfl) sz
   refine cS [4,6,8] bF ?_;refine lL ?_;refine f9 (aIk.pcall (by have h:=fun O=>aBq O r (bH l e).1;simp only[haw,Option.map_none,gG] at h;exact h _)) ?_;refine Z23 _ (aL ?_);exact aEx rfl sz (.cons (roC sr rfl bF rfl) (.cons (vU sr rfl rfl) .nil)) (by rw[l0_1,h4j,cDi h1 h2 h3 h4 h5,haw];rfl)
  have h5: ¬(lI l (bH l e).1.fEl.toNat).xAp=2:=(by simpa using c5);refine aD (Z21 _ (aA fun _ Z24=>bN [3,4,5,6,7,8,11,13] ?_));refine f9 (aEm _ (lI l (bH l e).1.fEl.toNat).xAp (bH l e).1.xAj) ?_;refine Z24 _ (aA fun _ Z25=>aB [3,4,5,6,7,8,12,13] ?_);refine aO (fun c6=>?_) fun c6=>?_
  ·have h6:(lE (lI l (bH l e).1.fEl.toNat).xAp (bH l e).1.xAj).length=0:=aV;refine cM (Le.keepC [3,4,5,6,7,8,12,13] _) ?_;refine qT ?_;show OWX _ _ _ _ _ _ _;refine nH ?_;refine bV rfl bF bF ?_;refine lL ?_;show OWX _ _ _ _ _ _ _;refine nH ?_;refine bV rfl bF bF ?_;refine lL ?_;show OWX _ _ _ _ _ _ _;refine nH ?_;refine aFq rfl rfl rfl eN bF sz bF ?_;simp (disch:=omega) only[go_sem,seval];show OWX _ _ _ _ _ _ _;refine aAk rfl rfl bF sr ?_;intro tP vP
   try simp only[xV,vB]
   exact aNs tP vP (by rw[l0_1,h4j,cSf h1 h2 h3 h4 h5 h6];rfl) sz
  have h6: ¬(lE (lI l (bH l e).1.fEl.toNat).xAp (bH l e).1.xAj).length=0:=aV;refine aD (Z25 _ (gJ [3,4,5,6,7,8,12,13] [] ?_));refine Z6 _ (bE [3,4,5,6,7,13] ?_);refine Z3 _ _ bD ⟨j+1,⟨(bH l e).1.fEl,(lE (lI l (bH l e).1.fEl.toNat).xAp (bH l e).1.xAj).getD 0 default⟩,rfl,bD,?_,dT⟩
  ·rw[l0_1,h4j,cRp h1 h2 h3 h4 h5 h6]
 refine bA (Z1 _ (cM (Le.keepC [5,6,7] _) ?_));refine qT ?_;show OWX _ _ _ _ _ _ _;refine nH ?_;refine bV rfl bF bF ?_;refine lL ?_;show OWX _ _ _ _ _ _ _;refine nH ?_;refine bV rfl bF bF ?_;refine lL ?_;show OWX _ _ _ _ _ _ _;refine nH ?_;refine aFq rfl rfl rfl eN bF sz bF ?_;simp (disch:=omega) only[go_sem,seval];show OWX _ _ _ _ _ _ _;refine aAk rfl rfl bF sr ?_;intro tP vP
 try simp only[xV,vB]
 exact aNs tP vP (by rw[l0_1,show 4-j=0 by omega];rfl) sz
def bsN (s:bJ) (n:Nat):List fH:=((List.range n).filter fun (i:Nat)=>decide ((i:Int)≠s.fIn∧(i:Int)≠s.xAv)).map fun i=>⟨s.fEl,(i:Nat)⟩
theorem cDn (s:bJ) (n:Nat):bsN s (n+1)=bsN s n++if (n:Int)≠s.fIn∧(n:Int)≠s.xAv then [⟨s.fEl,(n:Nat)⟩] else []:=by
 unfold bsN;rw[xS,yN,eM];congr 1;by_cases h:(n:Int)≠s.fIn∧(n:Int)≠s.xAv
 ·rw[if_pos h,List.filter_cons_of_pos (by simpa using h)];rfl
 rw[if_neg h,List.filter_cons_of_neg (by simpa using h)];rfl
theorem bGe (s:bJ) (n:Nat):(bsN s n).length≤n:=by
 unfold bsN;rw[cJ];exact eL (aHv _ _) dH
def sdN (l:aC) (s:bJ):Nat:=(mD (lI l s.fEl.toNat).xAp).toNat
def nC (l:aC) (s:bJ):List fH:=if (tN l s).2=true then bsN s (sdN l s) else []
theorem cDv {l:aC} {s:bJ} (h:(tN l s).2=false):nC l s=[]:=by unfold nC;rw[if_neg (by rw[h];simp)]
theorem cNh {l:aC} {s:bJ} (h:(tN l s).2=true):nC l s=bsN s (sdN l s):=by unfold nC;rw[if_pos h]
theorem cRm {l:aC} {s:bJ} (h:s.fEl<0∨(l.xAh.length:Int)≤s.fEl):nC l s=[]:=cDv (by rw[aSd (cLu.2 aV)])
theorem bNc (l:aC) (s:bJ):sdN l s≤4:=by unfold sdN;have:=aFi (lI l s.fEl.toNat).xAp;omega
theorem bHb (l:aC) (s:bJ):(nC l s).length≤4:=by
 unfold nC;split
 ·exact eL (bGe _ _) (bNc l s)
 simp
def qB (l:aC) (q:List bJ):List fH:=q.flatMap (nC l)
theorem cFg (l:aC) {q:List bJ} {i:Nat} (h:i<q.length):qB l (q.take (i+1))=qB l (q.take i)++nC l (q.getD i default):=by
 rw[kX default h];unfold qB;rw[aBl];simp
theorem bQt (l:aC) (q:List bJ):(qB l q).length≤4*q.length:=by
 unfold qB
 induction q with
 |nil=>simp
 |cons a q ih=>rw[aIh,fP,qH];have:=bHb l a;omega
abbrev cQr (l:List fH):DV:=rowL 89 2 fM l
def prT (p:Option (aY×Int)):aY×Int×Bool:=match p with
 |some (s,g)=>(s,g,true)
 |none=>(St0,-1,false)
structure Vld (l:aC):Prop where
 few:gO l
 els:pK l=true
 jo: ∀e,(bH l e).2=true→exB l (bH l e).1=true
theorem aUg {l:aC} (hv:Vld l) {e:fH} (h:(bH l e).2=true):(0≤(bH l e).1.fEl∧(bH l e).1.fEl<(l.xAh.length:Int))∧0≤(bH l e).1.xAj∧(bH l e).1.xAj<mD (lI l (bH l e).1.fEl.toNat).xAp∧1≤(lI l (bH l e).1.fEl.toNat).xAp∧(lI l (bH l e).1.fEl.toNat).xAp≤3:=by
 have h1:=hv.jo e h;unfold exB at h1;rw[cD,dR,dR] at h1;have:=rY (f:=aFn l) hv.els (i:=(bH l e).1.fEl.toNat) aV;unfold aFn at this;have:=dK this;exact ⟨by omega,by omega,by omega,this.1.1,this.1.2⟩
theorem aJn (O:aN) (l:aC) (s:bJ) (hl:gO l):aZ Tryz.prog O 101 [.agg (aQ l),.agg (cV s)] (bRd (nC l s)):=by
 have hl1:=hl.sec;have hl2:=hl.el;have hl3:=hl.jo;have hl4:=hl.sg;have hl5:=hl.bl;have hsl:=bNc l s;refine bG 0 rfl (.agg (d:=sL l.xAh) (by simp[aQ]) (.sl _ _ _)) fun he=>?_;refine eV Tryz.func101 ?_;refine aB [0,1] ?_;refine aA fun _ Z1=>aB [2,3] ?_;refine aO (fun c0=>?_) fun c0=>?_
 ·refine aB [] ?_;refine xL 4 2 fM rfl rfl ?_;refine aL (dN 4 ?_);exact dX.encL rfl (by (rw[cRm aV]))
 refine aD (Z1 _ (aA fun _ Z4=>?_));have hxe:vD l s.fEl=true:=mG.2 aV;refine bE [2,3] ?_;refine Z4 _ (aA fun _ Z5=>aA fun _ Z6=>bN [3,5] ?_);refine f9 (wH _ (lI l s.fEl.toNat).xAp s.fIn s.xAv) ?_;refine Z6 _ (aB [3,5,7] ?_);refine aO (fun c1=>?_) fun c1=>?_
 ·have hps:(tN l s).2=false:=(by rw[aCn hxe];simpa using c1);refine aB [] ?_;refine xL 4 2 fM rfl rfl ?_;refine aL (dN 4 ?_);exact dX.encL rfl (by (rw[cDv hps]))
 have hps:(tN l s).2=true:=(by rw[aCn hxe];simpa using c1);refine aD (Z5 _ (aB [3,5] ?_));refine aA fun _ Z10=>aA fun _ Z11=>bN [3,5,8] ?_;refine f9 (aBj _ (lI l s.fEl.toNat).xAp) ?_;refine Z11 _ (aI (l4 8 89 2 fM rfl rfl ?_));have hsd:mD (lI l s.fEl.toNat).xAp=((sdN l s:Nat):Int):=(by unfold sdN;have:=aFi (lI l s.fEl.toNat).xAp;omega);rw[hsd];refine aX [3,8,40,41] (fun n ρ=> ∃i,n=sdN l s-i∧(i≤sdN l s)∧ρ=dU O [(3,.bx (cV s)),(8,cQr (bsN s i)),(40,vi (sdN l s:Nat)),(41,vi (i:Nat))]) _ ⟨0,rfl,?_,?_⟩ ?_
 ·exact bD
 ·exact dT
 rintro n ρ ⟨i,rfl,l0_0,rfl⟩ _ Z12;have hbl:=bGe s i;refine aB [3,8,40,41] ?_;refine aA fun _ Z14=>aO (fun c2=>?_) fun c2=>?_
 ·refine aD (Z14 _ (aA fun _ Z15=>aI (aB [3,8,40,41] ?_)));refine aB [3,8,9,40,41] ?_;refine aO (fun c3=>?_) fun c3=>?_
  ·have hcc:(i:Int)≠s.fIn∧(i:Int)≠s.xAv:=(by simpa using c3);refine bE [3,8,9,40,41] ?_;refine Z15 _ (bE [3,8,40,41] ?_);refine Z12 _ _ bD ⟨i+1,rfl,bD,?_⟩;simp (disch:=omega) only[go_sem,seval]<;>(rw[cDn,if_pos hcc];first|rfl|simp)
  have hcc: ¬((i:Int)≠s.fIn∧(i:Int)≠s.xAv):=(by rintro ⟨h1,h2⟩;(try simp at c3);rcases c3 with c3|c3;exact h1 c3;exact h2 c3);refine aD (Z15 _ (bE [3,8,40,41] ?_));refine Z12 _ _ bD ⟨i+1,rfl,bD,?_⟩;simp (disch:=omega) only[go_sem,seval]<;>(rw[cDn,if_neg hcc,kZ];rfl)
 refine bA (Z10 _ (aA fun _ Z18=>iS 8 _ rfl rfl ?_));refine bE [8] ?_;refine Z18 _ (aL (dN 4 ?_));exact dX.encL rfl (by (rw[cNh hps,show i=sdN l s by omega]))
section
variable (l:aC)
theorem wJ:(aQ l).length=6:=rfl
theorem wX:kT (fun x=>x+100000) (aQ l)=aQ l:=rfl
theorem wB (p:Nat→Bool):d6 p (aQ l)=true:=rfl
theorem sS:List.take 6 (aQ l)=aQ l:=rfl
theorem aFg:(aQ l).getD 0 .any=vs l.xAq:=rfl
theorem aFf:(aQ l).getD 1 .any=encL 1 eS l.xAe:=rfl
theorem aDt:(aQ l).getD 2 .any=encL 7 gB l.xAh:=rfl
theorem aEb:(aQ l).getD 3 .any=encL 4 pU l.xAd:=rfl
theorem aDk:(aQ l).getD 4 .any=encL 4 jW l.xAa:=rfl
theorem aDj:(aQ l).getD 5 .any=encL 3 nY l.xAu:=rfl
end
section
variable (r:bL)
theorem yO:(bK r).length=14:=rfl
theorem y5:kT (fun x=>x+100000) (bK r)=bK r:=rfl
theorem zC (p:Nat→Bool):d6 p (bK r)=true:=rfl
theorem uO:List.take 14 (bK r)=bK r:=rfl
theorem aHy:(bK r).getD 0 .any=vs r.xAq:=rfl
theorem aHz:(bK r).getD 1 .any=vi r.xBh:=rfl
theorem aIg:(bK r).getD 2 .any=vi r.xBd:=rfl
theorem aIo:(bK r).getD 3 .any=encL 3 cV r.xAf:=rfl
theorem aIa:(bK r).getD 4 .any=encL 2 bO r.xAk:=rfl
theorem aHp:(bK r).getD 5 .any=encL 1 eI r.xAe:=rfl
theorem aIs:(bK r).getD 6 .any=vi r.xBg:=rfl
theorem aHs:(bK r).getD 7 .any=vi r.xAn:=rfl
theorem aHq:(bK r).getD 8 .any=encL 3 cV r.xAl:=rfl
theorem aHo:(bK r).getD 9 .any=encL 2 bO r.xAs:=rfl
theorem yM:(bK r).getD 10 .any=encL 1 eI r.xAr:=rfl
theorem zM:(bK r).getD 11 .any=encL 2 bO r.xAy:=rfl
theorem yH:(bK r).getD 12 .any=encL 1 eI r.xBj:=rfl
theorem yX:(bK r).getD 13 .any=encL 2 fM r.xBk:=rfl
end
abbrev exQ (l:aC) (q:List bJ):Int:=lX l (sJ q)
def nmQ (l:aC) (x:Int):ByteArray:=if 0≤x then (l.xAa.getD x.toNat default).xAq else ⟨#[101,110,100]⟩
def aGk (l:aC) (a:Int) (q:List bJ):bL:=⟨(l.xAa.getD a.toNat default).xAq++⟨#[45]⟩++nmQ l (exQ l q),a,exQ l q,q,rW l q,jK l q,fD l (l.xAa.getD a.toNat default).fAt.fEl,mI l q,[],[],[],[],[],[]⟩
theorem cDy (l:aC) {x:Int} (h:0≤x):nmQ l x=(l.xAa.getD x.toNat default).xAq:=by unfold nmQ;rw[if_pos h]
theorem cDe (l:aC) {x:Int} (h: ¬0≤x):nmQ l x=⟨#[101,110,100]⟩:=by unfold nmQ;rw[if_neg h]
theorem bUi {l:aC} (hs: ∀i,i<l.xAa.length→(l.xAa.getD i default).xAq.size≤1000) {x:Int} (hx:x<(l.xAa.length:Int)):(nmQ l x).size≤1000:=by
 unfold nmQ;split
 ·exact hs _ aV
 decide
theorem cAd {q:List mS} {e:fH}: ∀{n:Nat},aGw q e n<((n+q.length:Nat):Int)∧ -1≤aGw q e n:=by
 induction q with
 |nil=>intro n;unfold aGw;simp;omega
 |cons a q ih=>
  intro n;unfold aGw;split
  ·simp;omega
  have:=ih (n:=n+1);rw[qH];omega
theorem aQg (l:aC) (q:List bJ):exQ l q<(l.xAa.length:Int)∧ -1≤exQ l q:=by
 have:=cAd (q:=l.xAa) (e:=sJ q) (n:=0);unfold exQ;rw[gH] at this;exact this
section
attribute [local go_sem] iP wJ wX wB sS aFg aFf aDt aEb aDk aDj yO y5 zC uO aHy aHz aIg aIo aIa aHp aIs aHs aHq aHo yM zM yH yX
theorem aNe (O:aN) (l:aC) (a:Int) (q:List bJ) (hl:gO l) (hes:pK l=true) (ha:0≤a∧a<(l.xAa.length:Int)) (hs: ∀i,i<l.xAa.length→(l.xAa.getD i default).xAq.size≤1000) (hq0:0<q.length) (hq:q.length≤100) (hnd:(q.map (·.fEl)).Nodup):aZ Tryz.prog O 146 [.agg (aQ l),vi a,fJ q] (.agg (bK (aGk l a q))):=by
 have hl1:=hl.sec;have hl2:=hl.el;have hl3:=hl.jo;have hl4:=hl.sg;have hl5:=hl.bl;have hxb:=aQg l q;have hxs:=bUi hs hxb.1;refine bG 0 rfl (.agg (d:=uK l.xAa) (by simp[aQ]) (.sl _ _ _)) fun hsl=>?_;refine bG 2 rfl (.sl _ _ _) fun hql=>?_;refine eV Tryz.func146 ?_;refine aB [0,1,2] ?_;refine aB [1,2,3,6] ?_;refine aA fun _ Z2=>gJ [1,2,3,6,7] [] ?_;refine cdz (aPf _ q hq0) ?_;refine cdz (lS _ l (sJ q)) ?_;refine Z2 _ (bHv [1,2,3,6,7,8,9] (fun ρ=>ρ=dU O [(1,vi a),(2,fJ q),(3,.bx (aQ l)),(6,.bx [vs ⟨#[]⟩,vi 0,vi 0,.v (.slice none 0 0),.v (.slice none 0 0),.v (.slice none 0 0),vi 0,vi 0,.v (.slice none 0 0),.v (.slice none 0 0),.v (.slice none 0 0),.v (.slice none 0 0),.v (.slice none 0 0),.v (.slice none 0 0)]),(7,.bx (jW (l.xAa.getD a.toNat default))),(8,vs (nmQ l (lX l (sJ q)))),(9,vi (lX l (sJ q)))]) (fun _ Z3=>?_) ?_)
 ·skip
  refine aB [1,2,3,6,7,8,9] ?_;refine aO (fun c0=>?_) fun c0=>?_
  ·have hx:0≤lX l (sJ q):=(by simpa using c0);refine cS [1,2,3,6,7,9] bF ?_;((try simp only[go_sem,seval]);try simp (disch:=omega) only[go_sem,seval])
   repeat refine cP (by first|exact ⟨hx,hxb.1⟩|exact kN) ?_
   refine Z3 _ ?_;((try simp only[go_sem,seval]);try simp (disch:=omega) only[go_sem,seval])<;>first|(rw[cDy l hx];done)|(rw[cDy l hx];rfl)
  have hx: ¬0≤lX l (sJ q):=(by simpa using c0);refine aD (Z3 _ ?_);((try simp only[go_sem,seval]);try simp (disch:=omega) only[go_sem,seval])<;>first|(rw[cDe l hx];done)|(rw[cDe l hx];rfl)
 rintro ρ rfl;refine aA fun _ Z5=>nP [1,2,3,6,7,8,9] [] kR bF ?_;((try simp only[go_sem,seval]);try simp (disch:=omega) only[go_sem,seval])
 repeat refine cP (by first|exact aXp (hs _ aV) eN|exact aLt (hs _ aV) eN hxs|exact kN) ?_
 refine lU (qW _ l q hl hq hnd) ?_ ?_
 ·rfl
 try ((try simp only[go_sem,seval]);try simp (disch:=omega) only[go_sem,seval])
 repeat refine cP (by first|exact aXp (hs _ aV) eN|exact aLt (hs _ aV) eN hxs|exact kN) ?_
 refine lU (vR _ l q hl hes hq) ?_ ?_
 ·rfl
 try ((try simp only[go_sem,seval]);try simp (disch:=omega) only[go_sem,seval])
 repeat refine cP (by first|exact aXp (hs _ aV) eN|exact aLt (hs _ aV) eN hxs|exact kN) ?_
 refine lU (f7 _ l (l.xAa.getD a.toNat default).fAt.fEl) ?_ ?_
 ·rfl
 try ((try simp only[go_sem,seval]);try simp (disch:=omega) only[go_sem,seval])
 repeat refine cP (by first|exact aXp (hs _ aV) eN|exact aLt (hs _ aV) eN hxs|exact kN) ?_
 refine lU (pR _ l q hl hes hq) ?_ ?_
 ·rfl
 try ((try simp only[go_sem,seval]);try simp (disch:=omega) only[go_sem,seval])
 repeat refine cP (by first|exact aXp (hs _ aV) eN|exact aLt (hs _ aV) eN hxs|exact kN) ?_
 refine Z5 _ (pN 6 rfl rfl (ds:=bK (aGk l a q)) (jS (jS (jS (jS (jS (jS (jS (jS (gA (gA (gA (gA (gA (gA .nil)))))))))))))) ?_);refine aL ?_;refine nM 6 157 rfl sz (by ((try simp only[go_sem,seval]);try simp (disch:=omega) only[go_sem,seval])<;>(exact bD)) sz sz
end
def bs (l:List UInt8):ByteArray:=⟨l.toArray⟩
def fmt (n:Int):ByteArray:=bs (Lib.itoa n)
theorem cIi (a b:List UInt8):bs a++bs b=bs (a++b):=by
 apply ByteArray.ext;simp[bs]
theorem bFy (l:List UInt8):(bs l).size=l.length:=by simp[bs,ByteArray.size]
theorem bFu (l:List UInt8):(bs l).data.toList=l:=by simp[bs]
theorem cDt (s:ByteArray):bs s.data.toList=s:=by cases s;simp[bs]
def dgt (d:Nat):UInt8:=UInt8.ofNat (48+d)
theorem bRo (u:Nat):Lib.decDigits u≠[]:=by
 rw[Lib.decDigits];split<;>simp
theorem aFa (u:Nat) (h: ¬u<10):Lib.decDigits u=Lib.decDigits (u/10)++[dgt (u%10)]:=by
 rw[Lib.decDigits,dif_neg h];rfl
theorem aKh (u:Nat) (h:u<10):Lib.decDigits u=[dgt u]:=by
 rw[Lib.decDigits,dif_pos h];rfl
theorem bHa {n:Int} (h: ¬n<0):fmt n=bs (Lib.decDigits n.natAbs):=by
 rw[fmt,Lib.itoa,if_neg h];congr 2;omega
theorem bWe (n:Int) (h0: -9223372036854775808≤n) (h1:n≤9223372036854775807):(fmt n).size≤21:=by
 rw[fmt,bFy];exact Lib.itoa_length_le n h0 h1
end Go.Sg
namespace Go.Sg
open Go.RowKit Go.Proofs
theorem bCi (w:World) (I:Nat→Prop) (k:Nat) (os:Array Obj):oT w I (Sort.grow (w.drewN k) os) I:=by
 refine ⟨rfl,⟨rfl,by simp[Sort.grow,World.drewN]⟩,rfl,by simp[Sort.grow,World.drewN],fun g hg=>?_,fun _ h=>h,fun _ h=>.inl h⟩;show (w.heap++os)[g]?=_;rw[Array.getElem?_append_left hg]
theorem bYo {w:World} {I:Nat→Prop} (h:Imm w I):Lib.TabIs Tryz.prog w "internal/strconv.uint64pow10" .u64 Lib.pow10Tab:=by
 have:=(h.glob 2 _ _ rfl).2;unfold Lib.TabIs World.var?;rw[show Tryz.prog.globalNamed "internal/strconv.uint64pow10" =some 2 from by decide+kernel];simp[this,bEr,Lib.pow10Tab];rfl
theorem bCq (O:aN) (n:Int) (h0: -9223372036854775808≤n) (h1:n≤9223372036854775807):
  aZ Tryz.prog O 147 [.v (.int .i64 n)] (.v (.string (fmt n))):=by
 intro w I A vals hO hl hv;obtain ⟨v0,rfl⟩: ∃v0,vals= #[v0]:=by
  obtain ⟨l⟩:=vals
  match l,hl with
  | [a],_=>exact ⟨a,rfl⟩
 have hh:=hv 0 _ _ rfl rfl;cases hh;refine (Tryz.strconv_Itoa n h0 h1 w (bYo hO.imm)).mono fun e' w' ⟨q1,q2⟩=>?_;obtain ⟨k,os,q2⟩:=q2;subst q2;have hgr:=bCi w I k os;exact ⟨_,I,O,.v (.string (fmt n)),q1,hgr.osim hO,fun _=>fR.refl _,fun _ h=>h,hgr.ext hO,.v A _,rfl,rfl⟩
end Go.Sg
namespace Go.Sg
open Go.Proofs
theorem bXk (a:UInt8) (l:List UInt8):bs [a]++bs l=bs (a::l):=cIi [a] l
attribute [go_sem] bFy bXk uJ
def x3 {α:Type} (nm:α→ByteArray) (P:List α):List (ByteArray×Int):=P.foldl (fun M p=>rI M (nm p) ((lD M (nm p)).getD 0+1)) []
theorem aFz {α:Type} (nm:α→ByteArray) (P:List α) (p:α):x3 nm (P++[p])=rI (x3 nm P) (nm p) ((lD (x3 nm P) (nm p)).getD 0+1):=by
 unfold x3;rw[aVw];rfl
def pJ {α:Type} (nm:α→ByteArray) (P:List α) (x:ByteArray):Nat:=P.countP (fun p=>decide (nm p=x))
theorem aAa {α:Type} (nm:α→ByteArray) (P:List α) (p:α) (x:ByteArray):pJ nm (P++[p]) x=pJ nm P x+(if nm p=x then 1 else 0):=by
 unfold pJ;rw[List.countP_append];by_cases h:nm p=x<;>simp[h]
theorem bGq {α:Type} (nm:α→ByteArray) (P:List α) (x:ByteArray):pJ nm P x≤P.length:=List.countP_le_length
theorem bSf {α:Type} (nm:α→ByteArray) (n:Nat): ∀(P:List α),P.length=n→ ∀x,(lD (x3 nm P) x).getD 0=(pJ nm P x:Nat):=by
 induction n with
 |zero=>intro P h x;rw[aIq.1 h];rfl
 |succ n ih=>
  intro P h x;obtain ⟨Q,p,rfl⟩: ∃Q p,P=Q++[p]:=⟨P.dropLast,P.getLast (by intro e;rw[e] at h;cases h),(List.dropLast_concat_getLast _).symm⟩;have hQ:Q.length=n:=by simpa using h
  rw[aFz,aPr,aAa];by_cases hx:x=nm p
  ·subst hx;rw[if_pos rfl,if_pos rfl,iE,ih Q hQ]
   push_cast;rfl
  rw[if_neg hx,if_neg (fun e=>hx e.symm),ih Q hQ];rfl
theorem aVj {α:Type} (nm:α→ByteArray) (n:Nat): ∀(P:List α),P.length=n→((x3 nm P).map (·.1)).Nodup:=by
 induction n with
 |zero=>intro P h;rw[aIq.1 h];exact List.Pairwise.nil
 |succ n ih=>
  intro P h;obtain ⟨Q,p,rfl⟩: ∃Q p,P=Q++[p]:=⟨P.dropLast,P.getLast (by intro e;rw[e] at h;cases h),(List.dropLast_concat_getLast _).symm⟩;rw[aFz];exact aHg (ih Q (by simpa using h))
def nB (l:aC) (i:Int) (q:List bJ):ByteArray:=(aGk l i q).xAq
def rH (r:bL) (c:Nat):bL:=if 1<c then {r with xAq:=r.xAq++(⟨#[46]⟩++fmt (c:Nat))} else r
def nbR (l:aC) (i:Int) (P:List (List bJ)) (k:Nat):bL:=rH (aGk l i (P.getD k [])) (pJ (nB l i) (P.take (k+1)) (nB l i (P.getD k [])))
def xQ (l:aC) (i:Int) (P:List (List bJ)) (n:Nat):List bL:=(List.range n).map (nbR l i P)
theorem aUp (l:aC) (i:Int) (P:List (List bJ)) (n:Nat):xQ l i P (n+1)=xQ l i P n++[nbR l i P n]:=by
 unfold xQ;rw[xS,eM];rfl
theorem aEc (l:aC) (i:Int) (P:List (List bJ)) (n:Nat):(xQ l i P n).length=n:=by simp[xQ]
def gK (p:aC→fH→fH→List (List bJ)) (l:aC) (i:Int):List bL:=
 if i<0∨(l.xAa.length:Int)≤i then [] else
 let f:=(l.xAa.getD i.toNat default).fAt
 if (bH l f).2=false then [] else xQ l i (p l f (bH l f).1) (p l f (bH l f).1).length
def kP (q:List aY) (s:aY):Nat:=(q.takeWhile fun x=>decide (x.fEl≤s.fEl)).length
def bYs (q:List aY) (s:aY):List aY:=if oV q s=true then q else q.take (kP q s)++[s]++q.drop (kP q s)
theorem bPg {p:aY→Bool}: ∀{l:List aY} {x:aY},x∈l.takeWhile p→p x=true
 | [],_,h=>by simp at h
 |a::l,x,h=>by
  rw[List.takeWhile_cons] at h;cases ha:p a with
  |false=>rw[ha] at h;simp at h
  |true=>
   rw[ha,if_pos rfl] at h;rcases gN.1 h with rfl|h
   ·exact ha
   exact bPg h
theorem cSq {q:List aY} {s:aY} {i:Nat} (h:i<kP q s):(q.getD i default).fEl≤s.fEl:=by
 unfold kP at h;have hm: ∀x∈q.takeWhile (fun x=>decide (x.fEl≤s.fEl)),x.fEl≤s.fEl:=fun x hx=>by
  exact dK (bPg hx)
 have hp:=List.takeWhile_prefix (fun x:aY=>decide (x.fEl≤s.fEl)) (l:=q);have:q.getD i default=(q.takeWhile fun x=>decide (x.fEl≤s.fEl))[i]:=by
  rw[cA,cH (eE h hp.length_le),iE];exact (hp.getElem h).symm
 rw[this];exact hm _ (xY h)
theorem cPk {q:List aY} {s:aY} (h:kP q s<q.length):s.fEl<(q.getD (kP q s) default).fEl:=by
 unfold kP at*
 induction q with
 |nil=>simp at h
 |cons a q ih=>
  rw[List.takeWhile_cons] at*;by_cases ha:a.fEl≤s.fEl
  ·rw[dF ha] at*;simp only[if_pos,qH] at*;have:=ih aV;simpa using this
  rw[e9 ha] at*;simp at*;omega
def mk (l:List Int):List Int:=Lib.compact (srt l)
theorem mkI (l:List Int):(Lib.compact (srt l)).length≤l.length:=by
 have:=Lib.compact_length_le (srt l);simpa using this
abbrev SS (l:List Int):Prop:=l.Pairwise (· < ·)
theorem bCz: ∀{a b:List Int},SS a→SS b→(∀x,x∈a↔x∈b)→a=b
 | [],[],_,_,_=>rfl
 | [],y::b,_,_,h=>by have:=(h y).2 dH;simp at this
 |x::a,[],_,_,h=>by have:=(h x).1 dH;simp at this
 |x::a,y::b,ha,hb,h=>by
  rw[SS,lZ] at ha hb;have hxy:x=y:=by
   have h1:=(h x).1 dH;have h2:=(h y).2 dH;rcases gN.1 h1 with e|e
   ·exact e
   rcases gN.1 h2 with e2|e2
   ·exact e2.symm
   have:=ha.1 y e2;have:=hb.1 x e;omega
  subst hxy;rw[bCz ha.2 hb.2 fun z=>by
   constructor
   ·intro hz;have:=(h z).1 (by simp[hz]);rcases gN.1 this with e|e
    ·subst e;exact absurd (ha.1 z hz) (Int.lt_irrefl _)
    exact e
   intro hz;have:=(h z).2 (by simp[hz]);rcases gN.1 this with e|e
   ·subst e;exact absurd (hb.1 z hz) (Int.lt_irrefl _)
   exact e]
theorem aLs (x:Int): ∀(s:List Int) (y:Int),y∈aEq x s↔y=x∨y∈s
 | [],y=>by simp[aEq]
 |z::s,y=>by
  unfold aEq;split
  ·simp
  simp[aLs x s y,or_left_comm]
theorem bEj (x:Int): ∀(s:List Int),SS s→x∉s→SS (aEq x s)
 | [],_,_=>by simp[aEq,SS]
 |z::s,h,hn=>by
  rw[SS,lZ] at h;unfold aEq;split
  ·rename_i hlt;refine lZ.2 ⟨fun y hy=>?_,lZ.2 h⟩;rcases gN.1 hy with e|e
   ·rw[e];exact hlt
   exact Int.lt_trans hlt (h.1 y e)
  rename_i hlt;refine lZ.2 ⟨fun y hy=>?_,bEj x s h.2 fun hx=>hn (by simp[hx])⟩;rcases (aLs x s y).1 hy with e|e
  ·have:z≠x:=fun e2=>hn (by simp[e2]);omega
  exact h.1 y e
theorem bTa (s:List Int) (x y:Int):y∈uX s x↔y=x∨y∈s:=by
 unfold uX;split
 ·rename_i h;have h:x∈s:=by simpa using h
  constructor
  ·exact .inr
  rintro (e|e)
  ·rw[e];exact h
  exact e
 exact aLs x s y
theorem bYx (s:List Int) (x:Int) (h:SS s):SS (uX s x):=by
 unfold uX;split
 ·exact h
 rename_i hn;exact bEj x s h (by simpa using hn)
theorem aYr: ∀(l s:List Int) (y:Int),y∈l.foldl uX s↔y∈s∨y∈l
 | [],s,y=>by simp
 |x::l,s,y=>by rw[aNh,aYr l _ y,bTa,gN,or_comm (a:=y=x),or_assoc]
theorem bGa: ∀(l s:List Int),SS s→SS (l.foldl uX s)
 | [],_,h=>h
 |x::l,s,h=>bGa l _ (bYx s x h)
theorem aTd (l:List Int) (y:Int):y∈mkR l↔y∈l:=by unfold mkR;rw[aYr];simp
theorem bDd (l:List Int):SS (mkR l):=bGa l [] .nil
theorem bAs (l:List Int):(srt l).Pairwise (· ≤ ·):=by
 have:=List.pairwise_mergeSort (le:=fun x y:Int=>decide (x≤y)) (fun a b c h1 h2=>by simp at*;omega) (fun a b=>by simp;omega) l;exact this.imp fun h=>by simpa using h
theorem bXv (l:List Int) (y:Int):y∈srt l↔y∈l:=by unfold srt;simp
theorem uR (s:List Int) (j:Nat) (hj:j<s.length):Lib.keeps s.toArray j=(j==0||s.getD j 0 !=s.getD (j-1) 0):=by
 unfold Lib.keeps;have h1:s.toArray[j]! =s.getD j 0:=by simp[cA,cH hj,rU,hj]
 have h2:s.toArray[j-1]! =s.getD (j-1) 0:=by
  have:j-1<s.length:=by omega
  simp[cA,cH this,rU,this]
 rw[h1,h2];rcases nL j with e|e
 ·simp[e]
 have h0:(j==0)=false:=by simp;omega
 rw[h0,vE];by_cases h:s.getD j 0=s.getD (j-1) 0<;>simp[h,show j≠0 by omega,bne]<;>simp_all
theorem aMm {s:List Int} (h:s.Pairwise (· ≤ ·)) {i j:Nat} (hij:i≤j) (hj:j<s.length):s.getD i 0≤s.getD j 0:=by
 rcases uU hij with h1|h1
 ·rw[aFj] at h;have:=h i j aV hj h1
  rwa [cA,cH (show i<s.length by omega),cA,cH hj]
 subst h1;exact Int.le_refl _
theorem aKq (s:List Int):Lib.compact s=((List.range s.length).filter (Lib.keeps s.toArray)).map fun j=>s.getD j 0:=by
 unfold Lib.compact Lib.compactUpTo;apply zP;intro j hj;have hj:j<s.length:=by simpa using (aIn.1 hj).1
 simp[cA,cH hj,rU,hj]
theorem bBr (s:List Int) (hs:s.Pairwise (· ≤ ·)):SS (Lib.compact s):=by
 rw[aKq,SS,List.pairwise_map,List.pairwise_filter];refine (List.pairwise_lt_range (n:=s.length)).imp_of_mem ?_;intro i j hi hj hlt ki kj;have hj:j<s.length:=by simpa using hj
 rw[uR s j hj] at kj;have h1:=aMm hs (show i≤j-1 by omega) (show j-1<s.length by omega);have h2:=aMm hs (show j-1≤j by omega) hj;simp[show j≠0 by omega] at kj;simp only[cA] at*;omega
theorem aZg (s:List Int) (y:Int):y∈Lib.compact s↔y∈s:=by
 rw[aKq];constructor
 ·intro h;obtain ⟨j,hj,rfl⟩:=dZ.1 h;have hj:j<s.length:=by simpa using (aIn.1 hj).1
  rw[cA,cH hj];exact xY hj
 intro h;have key: ∀j,j<s.length→s.getD j 0=y→ ∃i,i<s.length∧s.getD i 0=y∧Lib.keeps s.toArray i=true:=by
  intro j
  induction j with
  |zero=>intro hj e;exact ⟨0,hj,e,by rw[uR s 0 hj];rfl⟩
  |succ j ih=>
   intro hj e;cases hk:Lib.keeps s.toArray (j+1) with
   |true=>exact ⟨j+1,hj,e,hk⟩
   |false=>
    rw[uR s (j+1) hj] at hk;have:s.getD (j+1) 0=s.getD j 0:=by
     simp only[uL,bne_eq_false_iff_eq,xN] at hk;exact hk.2
    exact ih aV (this▸e)
 obtain ⟨j,hj,e⟩:=List.getElem_of_mem h;obtain ⟨i,hi,e2,hk⟩:=key j hj (by rw[cA,cH hj];exact e);exact dZ.2 ⟨i,aIn.2 ⟨by simpa using hi,hk⟩,e2⟩
theorem cSy (l:List Int):SS (mk l):=bBr _ (bAs l)
theorem cIv (l:List Int) (y:Int):y∈mk l↔y∈l:=by unfold mk;rw[aZg,bXv]
theorem bXm (s:List Int) (h:SS s):mkR s=s:=bCz (bDd s) h fun x=>aTd s x
theorem bYf (G:List Int) (g:Int):[g].foldl uX (mkR (mkR G))=mkR (G++[g]):=by
 rw[bXm _ (bDd G)];unfold mkR;rw[aVw]
theorem bFd (j:l0) (L:List l0):jR (j::L)=j.fA::j.fB::jR L:=rfl
theorem tR: ∀{L:List l0} {e f:fH},i7 L e=(f,true)→e∈jR L∧f∈jR L
 | [],e,f,h=>by unfold i7 at h;cases h
 |j::L,e,f,h=>by
  rw[bFd];unfold i7 at h;split at h
  ·rename_i hA;injection h with h1;subst hA;subst h1;simp
  split at h
  ·rename_i hB;injection h with h1;subst hB;subst h1;simp
  have:=tR h;simp[this.1,this.2]
theorem aGq: ∀{L:List l0} {e e' f:fH},(jR L).Nodup→i7 L e=(f,true)→i7 L e'=(f,true)→e=e'
 | [],e,e',f,_,h,_=>by unfold i7 at h;cases h
 |j::L,e,e',f,hn,h,h'=>by
  rw[bFd,aXa,aXa] at hn;obtain ⟨n1,n2,n3⟩:=hn;have nA:j.fA∉jR L:=fun hm=>n1 (by simp[hm]);have nAB:j.fA≠j.fB:=fun hm=>n1 (by simp[hm]);have hc: ∀x,i7 (j::L) x=(f,true)→(j.fA=x∧j.fB=f)∨(j.fB=x∧j.fA=f)∨i7 L x=(f,true):=fun x hx=>by
   unfold i7 at hx;split at hx
   ·rename_i hA;injection hx with h1;exact .inl ⟨hA,h1⟩
   split at hx
   ·rename_i hB;injection hx with h1;exact .inr (.inl ⟨hB,h1⟩)
   exact .inr (.inr hx)
  rcases hc e h with ⟨a1,a2⟩|⟨a1,a2⟩|a<;>rcases hc e' h' with ⟨b1,b2⟩|⟨b1,b2⟩|b
  ·exact a1.symm.trans b1
  ·exact absurd (b2.trans a2.symm) nAB
  ·exact absurd (a2▸(tR b).2) n2
  ·exact absurd (a2.trans b2.symm) nAB
  ·exact a1.symm.trans b1
  ·exact absurd (a2▸(tR b).2) nA
  ·exact absurd (b2▸(tR a).2) n2
  ·exact absurd (b2▸(tR a).2) nA
  exact aGq n3 a b
abbrev joE (l:aC) (e:fH):fH:=(bH l e).1
abbrev knE (l:aC) (e:fH):Int:=(lI l e.fEl.toNat).xAp
def inR (r:bL) (x:Int):Bool:=jG r.xAf x||jG r.xAl x
def dsG (l:aC) (r:bL):Nat→fH→Option fH
 |0,_=>none
 |n+1,e=>if (bH l e).2=false then none else if 0≤lX l (bH l e).1 then some (bH l e).1 else if (jG r.xAf (bH l e).1.fEl||jG r.xAl (bH l e).1.fEl)=true then none
  else if (bH l e).1.fEl<0∨(l.xAh.length:Int)≤(bH l e).1.fEl then none else if (lI l (bH l e).1.fEl.toNat).xAp=2 then some (bH l e).1
  else if (lE (lI l (bH l e).1.fEl.toNat).xAp (bH l e).1.xAj).length=0 then none else dsG l r n ⟨(bH l e).1.fEl,(lE (lI l (bH l e).1.fEl.toNat).xAp (bH l e).1.xAj).getD 0 default⟩
def Nx (l:aC) (r:bL) (d x:fH):Prop:=(bH l d).2=true∧inR r (joE l d).fEl=false∧knE l (joE l d)≠2∧x=⟨(joE l d).fEl,(lE (knE l (joE l d)) (joE l d).xAj).getD 0 default⟩
inductive Nxs (l:aC) (r:bL):Nat→fH→fH→Prop
 |nil (e:fH):Nxs l r 0 e e
 |snoc {k:Nat} {e d x:fH} (h:Nxs l r k e d) (n:Nx l r d x):Nxs l r (k+1) e x
theorem Nxs.cons {l:aC} {r:bL} {e d:fH} (n:Nx l r e d): ∀{k:Nat} {x:fH},Nxs l r k d x→Nxs l r (k+1) e x
 |_,_,.nil _=>.snoc (.nil _) n
 |_,_,.snoc h m=>.snoc (Nxs.cons n h) m
theorem aLu {l:aC} {r:bL}: ∀{n:Nat} {e f:fH},dsG l r n e=some f→ ∃k d,Nxs l r k e d∧bH l d=(f,true)
 |0,e,f,h=>by cases h
 |n+1,e,f,h=>by
  unfold dsG at h;split at h
  ·cases h
  rename_i h1;have h1:(bH l e).2=true:=by simpa using h1
  split at h
  ·injection h with h;exact ⟨0,e,.nil _,Prod.ext h h1⟩
  split at h
  ·cases h
  rename_i h3;split at h
  ·cases h
  split at h
  ·injection h with h;exact ⟨0,e,.nil _,Prod.ext h h1⟩
  rename_i h5;split at h
  ·cases h
  obtain ⟨k,d,hk,hd⟩:=aLu h;exact ⟨k+1,d,.cons ⟨h1,by unfold inR;simpa using h3,h5,rfl⟩ hk,hd⟩
theorem bQd {k i j:Int} (hk:k=1∨k=3) (hi:0≤i∧i<mD k) (hj:0≤j∧j<mD k) (h:(lE k i).getD 0 default=(lE k j).getD 0 default):i=j:=by
 rcases hk with rfl|rfl
 ·have h2:mD 1=2:=rfl;have:i=0∨i=1:=by omega
  have:j=0∨j=1:=by omega
  rcases ‹i=0∨i=1› with rfl|rfl<;>rcases ‹j=0∨j=1› with rfl|rfl<;>first|rfl|exact absurd h eN
 have h2:mD 3=4:=rfl;have hi':i=0∨i=1∨i=2∨i=3:=by omega
 have hj':j=0∨j=1∨j=2∨j=3:=by omega
 rcases hi' with rfl|rfl|rfl|rfl<;>rcases hj' with rfl|rfl|rfl|rfl<;>first|rfl|exact absurd h eN
section
variable {l:aC} {r:bL} (hv:Vld l) (hJ:(jR l.xAd).Nodup)
include hv hJ
theorem cHn {d d' x:fH} (h:Nx l r d x) (h':Nx l r d' x):d=d':=by
 obtain ⟨a1,a2,a3,a4⟩:=h;obtain ⟨b1,b2,b3,b4⟩:=h';rw[a4] at b4;have b5:=(mB _ _).1 b4;have e1:(joE l d).fEl=(joE l d').fEl:=b5.1;have e2:(lE (knE l (joE l d)) (joE l d).xAj).getD 0 default=(lE (knE l (joE l d')) (joE l d').xAj).getD 0 default:=b5.2;have v1:=aUg hv a1;have v2:=aUg hv b1;have hk:knE l (joE l d)=knE l (joE l d'):=by unfold knE;rw[e1]
 have e3:(joE l d).xAj=(joE l d').xAj:=by
  refine bQd (k:=knE l (joE l d)) (by have:=v1.2.2.2;have:knE l (joE l d)=(lI l (bH l d).1.fEl.toNat).xAp:=rfl;omega) ⟨v1.2.1,v1.2.2.1⟩ ?_ (by rw[e2,hk]);rw[hk];exact ⟨v2.2.1,v2.2.2.1⟩
 have e4:joE l d=joE l d':=(mB _ _).2 ⟨e1,e3⟩;exact aGq (f:=joE l d) hJ (Prod.ext rfl a1) (Prod.ext e4.symm b1)
theorem aYb: ∀{k k':Nat} {e e' x:fH},Nxs l r k e x→Nxs l r k' e' x→(∃j,Nxs l r j e e')∨ ∃j,Nxs l r j e' e
 |_,k',e,e',_,.nil _,h'=>.inr ⟨k',h'⟩
 |k+1,_,e,e',_,.snoc h n,.nil _=>.inl ⟨k+1,.snoc h n⟩
 |_,_,e,e',_,.snoc h n,.snoc h' n'=>by
  have:=cHn hv hJ n n';subst this;exact aYb h h'
omit hv hJ in
theorem bQi {j:Nat} {e e':fH} (h:Nxs l r j e e') (hin:inR r e'.fEl=true):e=e':=by
 cases h with
 |nil=>rfl
 |snoc h n=>
  obtain ⟨_,n2,_,n4⟩:=n;rw[n4] at hin;rw[n2] at hin;cases hin
theorem cJf {n:Nat} {e e' f:fH} (h:dsG l r n e=some f) (h':dsG l r n e'=some f) (hi:inR r e.fEl=true) (hi':inR r e'.fEl=true):e=e':=by
 obtain ⟨k,d,c1,c2⟩:=aLu h;obtain ⟨k',d',c1',c2'⟩:=aLu h';have:=aGq hJ c2 c2';subst this;rcases aYb hv hJ c1 c1' with ⟨j,h⟩|⟨j,h⟩
 ·exact bQi h hi'
 exact (bQi h hi).symm
end
def wFG (r:bL) (F:List aY) (G:List Int) (P:List fH):bL:=⟨r.xAq,r.xBh,r.xBd,r.xAf,r.xAk,r.xAe,r.xBg,r.xAn,r.xAl,r.xAs,r.xAr,F,G,P⟩
theorem aZc {l:aC} {r r':bL} (h1:r.xAf=r'.xAf) (h2:r.xAl=r'.xAl) (h3: ∀s,ndR r s=ndR r' s): ∀(n:Nat) (e:fH),yK l r n e=yK l r' n e
 |0,_=>rfl
 |n+1,e=>by
  have ha: ∀f,awS r f=awS r' f:=fun f=>by unfold awS;rw[h3]
  unfold yK;rw[h1,h2,ha,aZc h1 h2 h3 n]
theorem aNo {r:bL} {f:fH} {s:aY} (h:awS r f=some s):(f.xAj=1∨f.xAj=2)∧s=⟨f.fEl,3-f.xAj⟩∧ndR r ⟨f.fEl,f.xAj⟩=false:=by
 unfold awS at h;split at h
 ·cases h
 rename_i hc;injection h with h
 have hn:(gS 2 f.xAj 0).2=true∧ndR r ⟨f.fEl,(gS 2 f.xAj 0).1⟩=false:=by
  constructor
  ·cases hx:(gS 2 f.xAj 0).2 with
   |true=>rfl
   |false=>exact absurd (.inl hx) hc
  cases hx:ndR r ⟨f.fEl,(gS 2 f.xAj 0).1⟩ with
  |false=>rfl
  |true=>exact absurd (.inr hx) hc
 have h12:(f.xAj=1∧gS 2 f.xAj 0=(1,true))∨(f.xAj=2∧gS 2 f.xAj 0=(2,true)):=by
  have:=hn.1;rw[aWp] at this ⊢;split at this
  ·rename_i hq;left;refine ⟨by omega,?_⟩;rw[if_pos hq]
  split at this
  ·rename_i hp hq;right;refine ⟨by omega,?_⟩;rw[if_neg hp,if_pos hq]
  cases this
 rcases h12 with ⟨q1,q2⟩|⟨q1,q2⟩
 ·rw[q2] at h hn;refine ⟨.inl q1,?_,?_⟩
  ·rw[← h,q1]
  rw[q1];exact hn.2
 rw[q2] at h hn;refine ⟨.inr q1,?_,?_⟩
 ·rw[← h,q1]
 rw[q1];exact hn.2
theorem aWs {l:aC} {r:bL}: ∀{n:Nat} {e:fH} {s:aY} {g:Int},yK l r n e=some (s,g)→(s=St0∧ -1≤g)∨(g= -1∧ ∃f,dsG l r n e=some f∧awS r f=some s)
 |0,e,s,g,h=>by cases h
 |n+1,e,s,g,h=>by
  unfold yK at h;unfold dsG;split at h
  ·injection h with h;injection h with h1 h2;exact .inl ⟨h1.symm,by omega⟩
  rename_i h1;rw[if_neg h1];split at h
  ·injection h with h;injection h with h1 h2;exact .inl ⟨h1.symm,by omega⟩
  rename_i h2;rw[if_neg h2];split at h
  ·injection h with h;injection h with h1 h2;exact .inl ⟨h1.symm,by omega⟩
  rename_i h3;rw[if_neg h3];split at h
  ·cases h
  rename_i h4;rw[if_neg h4];split at h
  ·rename_i h5;rw[if_pos h5];rw[gC] at h;obtain ⟨s',hs,he⟩:=h;injection he with e1 e2
   subst e1;exact .inr ⟨e2.symm,_,rfl,hs⟩
  rename_i h5;rw[if_neg h5];split at h
  ·cases h
  rename_i h6;rw[if_neg h6];exact aWs h
theorem aYv {l:aC} {r r':bL} (h1:r.xAf=r'.xAf) (h2:r.xAl=r'.xAl): ∀(n:Nat) (e:fH),dsG l r n e=dsG l r' n e
 |0,_=>rfl
 |n+1,e=>by
  unfold dsG;rw[h1,h2,aYv h1 h2 n]
abbrev FS:=List aY×List Int×List fH
def sch (l:aC) (r:bL) (st:FS) (e:fH):aY×Int×Bool:=prT (yK l (wFG r st.1 st.2.1 st.2.2) 4 e)
def flA (l:aC) (r:bL) (st:FS) (e:fH):FS:=
 if (sch l r st e).2.2=false then (st.1,st.2.1,st.2.2++[e]) else if 0≤(sch l r st e).2.1 then (st.1,st.2.1++[(sch l r st e).2.1],st.2.2) else if (sch l r st e).1≠St0 then (st.1++[(sch l r st e).1],st.2.1,st.2.2) else st
def flF (l:aC) (r:bL) (E:List fH):FS:=E.foldl (flA l r) ([],[],[])
def rfA (l:aC) (r:bL) (st:FS) (e:fH):FS:=
 (if (sch l r st e).1.xAo≠0 then bYs st.1 (sch l r st e).1 else st.1,if 0≤(sch l r st e).2.1 then [(sch l r st e).2.1].foldl uX (mkR st.2.1) else st.2.1,if (sch l r st e).2.2=false then st.2.2++[e] else st.2.2)
def rfF (l:aC) (r:bL) (E:List fH):FS:=E.foldl (rfA l r) ([],[],[])
theorem bFa (l:aC) (r:bL) (E:List fH) (e:fH):flF l r (E++[e])=flA l r (flF l r E) e:=by unfold flF;rw[aVw];rfl
theorem cRw (l:aC) (r:bL) (E:List fH) (e:fH):rfF l r (E++[e])=rfA l r (rfF l r E) e:=by unfold rfF;rw[aVw];rfl
theorem bXb (l:aC) (r:bL) (st:FS) (e:fH):(flA l r st e).1.length≤st.1.length+1∧(flA l r st e).2.1.length≤st.2.1.length+1∧(flA l r st e).2.2.length≤st.2.2.length+1:=by
 unfold flA;split
 ·simp
 split
 ·simp
 split<;>simp
theorem aTg (l:aC) (r:bL) (E:List fH):(flF l r E).1.length≤E.length∧(flF l r E).2.1.length≤E.length∧(flF l r E).2.2.length≤E.length:=by
 have key: ∀n (E:List fH),E.length=n→(flF l r E).1.length≤E.length∧(flF l r E).2.1.length≤E.length∧(flF l r E).2.2.length≤E.length:=by
  intro n
  induction n with
  |zero=>intro E h;rw[aIq.1 h];simp[flF]
  |succ n ih=>
   intro E h;obtain ⟨Q,e,rfl⟩: ∃Q p,E=Q++[p]:=⟨E.dropLast,E.getLast (by intro e;rw[e] at h;cases h),(List.dropLast_concat_getLast _).symm⟩;have h1:=ih Q (by simpa using h);have h2:=bXb l r (flF l r Q) e;rw[bFa,fP,aBo];omega
 exact key _ E rfl
theorem bWw {F:List aY} {s:aY} (h:((F++[s]).map (·.fEl)).Nodup):bYs (kM F) s=kM (F++[s]):=by
 rw[eM,nO] at h;have hne: ∀y∈kM F,y.fEl≠s.fEl:=fun y hy e=>h.2.2 y.fEl (dZ.2 ⟨y,(rF F y).1 hy,rfl⟩) s.fEl dH e;have hno:oV (kM F) s=false:=by
  rw[← rL,vM];intro hm;exact hne s hm rfl
 have ha:=aNx F;refine aOa ?_ (aNx _) fun x=>?_
 ·unfold bYs;rw[if_neg (by rw[hno];simp)];have hp:Asc ((kM F).take (kP (kM F) s)++(kM F).drop (kP (kM F) s)):=by rw[u6];exact ha
  unfold Asc at hp ⊢;rw[oI] at hp;have hlo: ∀y∈(kM F).take (kP (kM F) s),sLt y s=true:=fun y hy=>by
   obtain ⟨i,hi,rfl⟩:=aOl.1 hy;rw[iO] at hi;have h1:=cSq (q:=kM F) (s:=s) (i:=i) aV;rw[List.getElem_take];rw[cA,cH (show i<(kM F).length by omega),iE] at h1;have h2:=hne _ (xY (show i<(kM F).length by omega));rw[mX];omega
  have hhi: ∀y∈(kM F).drop (kP (kM F) s),sLt s y=true:=fun y hy=>by
   rcases b9 (kP (kM F) s) (kM F).length with hlt|hge
   ·have h1:=cPk hlt;have h3:=hp.2.1;rw[dL default hlt] at hy h3;have h0:sLt s ((kM F).getD (kP (kM F) s) default)=true:=by rw[mX];exact .inl h1
    rcases gN.1 hy with rfl|hy
    ·exact h0
    exact aZp h0 ((lZ.1 h3).1 y hy)
   rw[List.drop_of_length_le hge] at hy;cases hy
  rw[tB,oI];refine ⟨hp.1,?_,fun a ha' b hb=>?_⟩
  ·rw[List.singleton_append,lZ];exact ⟨hhi,hp.2.1⟩
  rcases iV.1 hb with hb|hb
  ·rw[lH.1 hb];exact hlo a ha'
  exact hp.2.2 a ha' b hb
 unfold bYs;have hr:x∈F++[s]↔x∈kM F∨x=s:=by rw[iV,lH,rF]
 rw[if_neg (by rw[hno];simp),rF,hr];have hm:x∈kM F↔x∈(kM F).take (kP (kM F) s)∨x∈(kM F).drop (kP (kM F) s):=by rw[← iV,u6]
 rw[hm,iV,iV,lH];constructor
 ·rintro ((h|h)|h)
  ·exact .inl (.inl h)
  ·exact .inr h
  exact .inl (.inr h)
 rintro ((h|h)|h)
 ·exact .inl (.inl h)
 ·exact .inr h
 exact .inl (.inr h)
def FlI (l:aC) (r:bL) (E:List fH) (F:List aY):Prop:=(F.map (·.fEl)).Nodup∧ ∀s∈F,∃e∈E,∃f,dsG l r 4 e=some f∧(f.xAj=1∨f.xAj=2)∧s=⟨f.fEl,3-f.xAj⟩
theorem FlI.more {l:aC} {r:bL} {E:List fH} {F:List aY} (h:FlI l r E F) (e:fH):FlI l r (E++[e]) F:=⟨h.1,fun s hs=>by
 obtain ⟨x,hx,y⟩:=h.2 s hs;exact ⟨x,by simp[hx],y⟩⟩
theorem cCr {l:aC} {r:bL} (hv:Vld l) (hJ:(jR l.xAd).Nodup) {E:List fH} {e f:fH} {F:List aY} {G:List Int} {P:List fH} {s:aY} (h:FlI l r E F) (hE: ∀x∈E++[e],inR r x.fEl=true) (hn:e∉E) (hd:dsG l r 4 e=some f) (ha:awS (wFG r F G P) f=some s):FlI l r (E++[e]) (F++[s]):=by
 obtain ⟨a1,a2,a3⟩:=aNo ha;have hnd:⟨f.fEl,f.xAj⟩∉F:=fun hm=>by
  have:oV F ⟨f.fEl,f.xAj⟩=true:=vM.2 hm;have h2:ndR (wFG r F G P) ⟨f.fEl,f.xAj⟩=(oV r.xAk ⟨f.fEl,f.xAj⟩||oV r.xAs ⟨f.fEl,f.xAj⟩||oV F ⟨f.fEl,f.xAj⟩):=rfl;rw[a3,this] at h2;simp at h2
 refine ⟨?_,fun x hx=>?_⟩
 ·rw[eM,nO];refine ⟨h.1,by simp,fun x hx y hy he=>?_⟩;simp only[kH,sI,lH] at hy;obtain ⟨s',hs',rfl⟩:=dZ.1 hx;obtain ⟨e',he',f',hd',hs1,hs2⟩:=h.2 s' hs';rw[hy,a2] at he;simp only at he;have hel:f'.fEl=f.fEl:=by rw[hs2] at he;exact he
  by_cases hsd:f'.xAj=f.xAj
  ·have:f'=f:=(mB _ _).2 ⟨hel,hsd⟩;subst this;have:=cJf hv hJ hd' hd (hE e' (by simp[he'])) (hE e dH);subst this;exact hn he'
  refine hnd ?_;have:s'=⟨f.fEl,f.xAj⟩:=by
   rw[hs2,oZ];exact ⟨hel,by simp only;omega⟩
  rw[← this];exact hs'
 rcases iV.1 hx with hx|hx
 ·obtain ⟨y,hy,q⟩:=h.2 x hx;exact ⟨y,by simp[hy],q⟩
 rw[lH.1 hx];exact ⟨e,by simp,f,hd,a1,a2⟩
theorem cQd (l:aC) (r:bL) (F:List aY) (G G':List Int) (P:List fH) (e:fH):sch l r (kM F,G',P) e=sch l r (F,G,P) e:=by
 show prT (yK l (wFG r (kM F) G' P) 4 e)=prT (yK l (wFG r F G P) 4 e);refine congrArg prT (aZc (r:=wFG r (kM F) G' P) (r':=wFG r F G P) rfl rfl (fun s=>?_) 4 e);have:oV (kM F) s=oV F s:=by rw[rE,vM,vM,rF]
 show (oV r.xAk s||oV r.xAs s||oV (kM F) s)=(oV r.xAk s||oV r.xAs s||oV F s);rw[this]
theorem bMi:kM []=[]:=by
 have:=aFo [];exact nN (by simpa using this)
theorem bLm {l:aC} {r:bL} (hv:Vld l) (hJ:(jR l.xAd).Nodup): ∀(n:Nat) (E:List fH),E.length=n→E.Nodup→(∀x∈E,inR r x.fEl=true)→FlI l r E (flF l r E).1∧rfF l r E=(kM (flF l r E).1,mkR (flF l r E).2.1,(flF l r E).2.2):=by
 intro n
 induction n with
 |zero=>
  intro E h _ _;rw[aIq.1 h];exact ⟨⟨List.Pairwise.nil,fun s hs=>by cases hs⟩,by show ([],[],[])=(kM [],mkR [],[]);rw[bMi];rfl⟩
 |succ n ih=>
  intro E h hnd hin;obtain ⟨Q,e,rfl⟩: ∃Q p,E=Q++[p]:=⟨E.dropLast,E.getLast (by intro e;rw[e] at h;cases h),(List.dropLast_concat_getLast _).symm⟩;rw[nO] at hnd;obtain ⟨h1,h2⟩:=ih Q (by simpa using h) hnd.1 (fun x hx=>hin x (by simp[hx]));have hn:e∉Q:=fun hm=>hnd.2.2 e hm e dH rfl;rw[bFa,cRw,h2];generalize hst:flF l r Q=st at h1 h2 ⊢;obtain ⟨F,G,P⟩:=st;simp only at h1;have hw:sch l r (kM F,mkR G,P) e=sch l r (F,G,P) e:=cQd l r F G (mkR G) P e;unfold flA rfA;rw[hw];cases hp:yK l (wFG r F G P) 4 e with
  |none=>
   have hs:sch l r (F,G,P) e=(St0,-1,false):=by unfold sch;rw[hp];rfl
   rw[hs];exact ⟨h1.more e,rfl⟩
  |some q=>
   obtain ⟨s,g⟩:=q;have hs:sch l r (F,G,P) e=(s,g,true):=by unfold sch;rw[hp];rfl
   rw[hs];simp only[Bool.true_eq_false,s7];rcases aWs hp with ⟨p1,p2⟩|⟨p1,f,p3,p4⟩
   ·subst p1;rw[if_neg (show ¬(St0.xAo≠0) from fun h=>h rfl)];by_cases hg:0≤g
    ·rw[if_pos hg,if_pos hg];exact ⟨h1.more e,by rw[bYf]⟩
    rw[if_neg hg,if_neg hg,if_neg (fun h=>h rfl)];exact ⟨h1.more e,rfl⟩
   subst p1;have p5:dsG l r 4 e=some f:=by rw[← p3];exact aYv rfl rfl 4 e
   have hnew:=cCr hv hJ h1 hin hn p5 p4;obtain ⟨a1,a2,a3⟩:=aNo p4;have hpos:s.xAo≠0:=by rw[a2];simp only;omega
   rw[if_pos hpos,if_neg (show ¬(0:Int)≤ -1 by omega),if_neg (show ¬(0:Int)≤ -1 by omega),if_pos (show s≠St0 from fun h=>hpos (by rw[h]))];exact ⟨hnew,by rw[bWw hnew.1]⟩
theorem cGo (s:bJ) (n:Nat):(bsN s n).Nodup:=by
 unfold bsN List.Nodup;rw[List.pairwise_map];refine (List.nodup_range.filter _).imp fun h e=>h ?_;have:=((mB _ _).1 e).2;simp only at this;omega
theorem cJn (l:aC) (s:bJ):(nC l s).Nodup:=by
 unfold nC;split
 ·exact cGo _ _
 exact List.nodup_nil
theorem aZr {l:aC} {s:bJ} {e:fH} (h:e∈nC l s):e.fEl=s.fEl:=by
 unfold nC at h;split at h
 ·unfold bsN at h;obtain ⟨i,_,rfl⟩:=dZ.1 h;rfl
 cases h
theorem bHl {l:aC}: ∀{q:List bJ},(q.map (·.fEl)).Nodup→(qB l q).Nodup
 | [],_=>List.nodup_nil
 |a::q,h=>by
  rw[kH,aXa] at h;unfold qB;rw[aIh,nO];refine ⟨cJn l a,bHl h.2,fun x hx y hy e=>?_⟩;obtain ⟨s,hs,hy⟩:=y1.1 hy;subst e;have e1:=aZr hx;have e2:=aZr hy;exact h.1 (dZ.2 ⟨s,hs,by rw[← e2,e1]⟩)
theorem cAz {l:aC} {r:bL} {e:fH} (h:e∈qB l (r.xAf++r.xAl)):inR r e.fEl=true:=by
 obtain ⟨s,hs,he⟩:=y1.1 h;unfold inR;rw[aZr he,pQ,qX,qX];rcases iV.1 hs with h|h
 ·exact .inl ⟨s,h,rfl⟩
 exact .inr ⟨s,h,rfl⟩
def aJv (l:aC) (r:bL):bL:=wFG r (kM (flF l r (qB l (r.xAf++r.xAl))).1) (mkR (flF l r (qB l (r.xAf++r.xAl))).2.1) (flF l r (qB l (r.xAf++r.xAl))).2.2
theorem bEz {l:aC} {r:bL} (hv:Vld l) (hJ:(jR l.xAd).Nodup) (hr:((r.xAf++r.xAl).map (·.fEl)).Nodup):
  ((flF l r (qB l (r.xAf++r.xAl))).1.map (·.fEl)).Nodup∧wFG r (rfF l r (qB l (r.xAf++r.xAl))).1 (rfF l r (qB l (r.xAf++r.xAl))).2.1 (rfF l r (qB l (r.xAf++r.xAl))).2.2=aJv l r:=by
 obtain ⟨h1,h2⟩:=bLm hv hJ _ _ rfl (bHl hr) (fun x hx=>cAz hx);exact ⟨h1.1,by rw[h2];rfl⟩
def aTj (l:aC) (sc:List Int) (q:List bJ) (e:Int):Bool:=jG q e||sc.contains (fD l e)
section
attribute [local go_sem] iP wJ wX wB sS aFg aFf aDt aEb aDk aDj yO y5 zC uO aHy aHz aIg aIo aIa aHp aIs aHs aHq aHo yM zM yH yX xK cJ Nat.mul_one iD
theorem aIu (O:aN) (l:aC) (q:List bJ) (s:Nat) (hO:O s=.row 87 3 (q.map cV)) (hl:gO l) (hes:pK l=true) (hq:q.length≤100):aZ Tryz.prog O 127 [.agg (aQ l),.own s q.length] (vi (mI l q)):=by
 have hl1:=hl.sec;have hl2:=hl.el;have hl3:=hl.jo;have hl4:=hl.sg;have hl5:=hl.bl;have hsx:bS O (s+100000)=.row 87 3 (q.map cV):=by rw[cI,hO];rfl
 refine bG 0 rfl (.agg (d:=sL l.xAh) (by simp[aQ]) (.sl _ _ _)) fun he=>?_;refine eV Tryz.func127 ?_;refine bB [0,1] ?_;refine bB [1,2] ?_;refine aA fun _ Z2=>bB [1,2,5] ?_;refine aI (aX [2,5,8,9,10] (fun n ρ=> ∃i,n=q.length-i∧(i≤q.length)∧ρ=dU O [(2,.bx (aQ l)),(5,vi (mI l (q.take i))),(8,.own (s+100000) q.length),(9,vi (q.length:Nat)),(10,vi (i:Nat))]) _ ⟨0,rfl,?_,?_⟩ ?_)
 ·exact bD
 ·simp (disch:=omega) only[go_sem,seval,hsx]<;>rfl
 rintro n ρ ⟨i,rfl,l0_0,rfl⟩ _ Z4;have hlb:=aFy hes q i;have heb:=aZq hes (q.getD i default);refine bB [1,2,5,8,9,10] ?_;refine aA fun _ Z6=>aO (fun c0=>?_) fun c0=>?_
 ·refine aD (Z6 _ (aA fun _ Z7=>aI (bB [1,2,5,8,9,10] ?_)));refine aA fun _ Z9=>eZ [1,2,5,7,8,9,10] ?_;refine pV (lN _ l (q.getD i default).fEl) ?_;refine Z9 _ (aO (fun c1=>?_) fun c1=>?_)
  ·have hex:=mG.1 c1;have heq:aMd l (q.getD i default)=(l.xAh.getD (q.getD i default).fEl.toNat default).xAn:=by unfold aMd;rw[if_pos c1]
   rw[heq] at heb;refine cN [1,2,5,7,8,9,10] ?_;refine Z7 _ (cN [1,2,5,8,9,10] ?_);refine Z4 _ _ bD ⟨i+1,rfl,bD,?_⟩;simp (disch:=omega) only[go_sem,seval,hsx]<;>(rw[aOi l (by assumption),heq];rfl)
  refine aD (Z7 _ (cN [1,2,5,8,9,10] ?_));refine Z4 _ _ bD ⟨i+1,rfl,bD,?_⟩;simp (disch:=omega) only[go_sem,seval,hsx]<;>(rw[aOi l (by assumption)];unfold aMd;rw[if_neg (by simpa using c1)];simp)
 refine bA (Z2 _ (bB [5] ?_));refine aL (mA 4 ?_);exact dX.is (by simp (disch:=omega) only[go_sem,seval,hsx]<;>((rw[jD aV]))) rfl rfl
end
section
attribute [local go_sem] iP wJ wX wB sS aFg aFf aDt aEb aDk aDj yO y5 zC uO aHy aHz aIg aIo aIa aHp aIs aHs aHq aHo yM zM yH yX xK cJ Nat.mul_one iD
theorem tY (O:aN) (q:List bJ) (g b:Nat) (cs:List DV) (p:bJ→Bool) (s:Nat) (hO:O s=.row 87 3 (q.map cV)) (hq:q.length≤1000) (hB:O b=.bx cs) (hcs:kT (· +100000) cs=cs) (hg:aM Tryz.prog g=true) (hk: ∀(ρ:aN) (k:Nat) (x:bJ),ρ k=.bx cs→aZ Tryz.prog ρ g [.agg (cV x),.bp k 0] (vb (p x))):aZ Tryz.prog O 215 [.own s q.length,.fn g [] [.bp b 0]] (vi (if q.any p then (q.findIdx p:Nat) else -1)):=by
 have hxO:bS O (s+100000)=.row 87 3 (q.map cV):=by rw[cI,hO];rfl
 have hsx:=cP hg hxO;refine eV Tryz.func215 ?_;refine bB [0,1] ?_;refine aA fun _ Z1=>bB [0,1] ?_;refine aI (aX [0,1,7,8] (fun n ρ=> ∃i,n=q.length-i∧(i≤q.length)∧((if q.any p then (q.findIdx p:Int) else -1)=(if (q.drop i).any p then (((q.drop i).findIdx p+i:Nat):Int) else -1))∧ρ=dU O [(0,.own (s+100000) q.length),(1,.fn g [] [.bp (b+100000) 0]),(7,vi (q.length:Nat)),(8,vi (i:Nat))]) _ ⟨0,rfl,?_,?_,?_⟩ ?_)
 ·exact bD
 ·simp
 ·exact eX
 rintro n ρ ⟨i,rfl,l0_0,l0_1,rfl⟩ _ Z3;refine bB [0,1,7,8] ?_;refine aA fun _ Z5=>aO (fun c0=>?_) fun c0=>?_
 ·refine aD (Z5 _ (aA fun _ Z6=>aI (bB [0,1,7,8] ?_)));refine aA fun _ Z8=>eZ [0,1,5,7,8] ?_;refine jJ _ (hk _ (b+100000) (q.getD i default) ?_) ?_
  ·repeat rw[aK,if_neg aV]
   rw[cI,hB];exact congrArg DV.bx hcs
  refine gE ?_;refine Z8 _ (aO (fun c1=>?_) fun c1=>?_)
  ·refine bB [5] ?_;refine aL (mA 4 ?_);exact dX.is (by simp (disch:=omega) only[go_sem,seval,hsx]<;>(refine congrArg vi ?_;rw[l0_1,dL default c0,aQr,aQc,c1];simp)) rfl rfl
  refine aD (Z6 _ (cN [0,1,7,8] ?_));refine Z3 _ _ bD ⟨i+1,rfl,bD,?_,?_⟩
  ·rw[l0_1,dL default c0,aQr,aQc,c1];simp only[vE,fI];rw[show List.findIdx p (List.drop (i+1) q)+1+i=List.findIdx p (List.drop (i+1) q)+(i+1) by omega]
  exact eX
 refine bA (Z1 _ (bB [] ?_));refine aL (mA 4 ?_);exact dX.is (by simp (disch:=omega) only[go_sem,seval,hsx]<;>(refine congrArg vi ?_;rw[l0_1,iW c0];rfl)) rfl rfl
end
section
attribute [local go_sem] iP wJ wX wB sS aFg aFf aDt aEb aDk aDj yO y5 zC uO aHy aHz aIg aIo aIa aHp aIs aHs aHq aHo yM zM yH yX xK cJ Nat.mul_one iD
theorem rS (O:aN) (q:List bJ) (g b:Nat) (cs:List DV) (p:bJ→Bool) (s:Nat) (hO:O s=.row 87 3 (q.map cV)) (hq:q.length≤1000) (hB:O b=.bx cs) (hcs:kT (· +100000) cs=cs) (hg:aM Tryz.prog g=true) (hk: ∀(ρ:aN) (k:Nat) (x:bJ),ρ k=.bx cs→aZ Tryz.prog ρ g [.agg (cV x),.bp k 0] (vb (p x))):aZ Tryz.prog O 194 [.own s q.length,.fn g [] [.bp b 0]] (vb (q.any p)):=by
 have hxO:bS O (s+100000)=.row 87 3 (q.map cV):=by rw[cI,hO];rfl
 have hsx:=cP hg hxO;refine eV Tryz.func194 ?_;refine bB [0,1] ?_;refine aA fun _ Z1=>eZ [0,1] ?_;refine jJ _ (tY _ q g (b+100000) cs p (s+100000) ?_ hq ?_ hcs hg hk) ?_
 ·repeat rw[aK,if_neg aV]
  exact hxO
 ·repeat rw[aK,if_neg aV]
  rw[cI,hB];exact congrArg DV.bx hcs
 refine gE ?_;refine Z1 _ (aL (mA 4 ?_));refine xbh ?_
 (cases h:q.any p<;>simp)
end
section
attribute [local go_sem] iP wJ wX wB sS aFg aFf aDt aEb aDk aDj yO y5 zC uO aHy aHz aIg aIo aIa aHp aIs aHs aHq aHo yM zM yH yX xK cJ Nat.mul_one iD
theorem aCr (O:aN) (q:List bJ) (e:Int) (s:Nat) (hO:O s=.row 87 3 (q.map cV)) (hq:q.length≤1000):aZ Tryz.prog O 152 [.own s q.length,vi e] (vb (jG q e)):=by
 have hsx:bS O (s+100000)=.row 87 3 (q.map cV):=by rw[cI,hO];rfl
 refine eV Tryz.func152 ?_;refine bB [0,1] ?_;refine aA fun _ Z1=>eZ [0,3] ?_;refine jJ _ (rS _ q 195 3 [vi e] (fun s=>decide (s.fEl=e)) (s+100000) ?_ hq (by rfl) rfl rfl (fun ρ k r h=>aAw ρ r e k h)) ?_
 ·repeat rw[aK,if_neg aV]
  exact hsx
 refine gE ?_;refine Z1 _ (aL (mA 4 ?_));exact xdh
end
def ovG (l:aC) (ov:Int) (sc:List Int):Nat→List bJ→fH×Bool→List bJ
 |0,o,_=>o
 |n+1,o,a=>if ((a.2=true∧mI l o<ov)∧o.length<12)∧aTj l sc o a.1.fEl=false∧(iZ l a.1).length≠0 then ovG l ov sc n (o++[(iZ l a.1).getD 0 default]) (eT l ((iZ l a.1).getD 0 default)) else o
theorem bVm {l:aC} {ov:Int} {sc:List Int} {n:Nat} {o:List bJ} {a:fH×Bool} (h: ¬(((a.2=true∧mI l o<ov)∧o.length<12)∧aTj l sc o a.1.fEl=false∧(iZ l a.1).length≠0)):ovG l ov sc n o a=o:=by
 cases n with
 |zero=>rfl
 |succ n=>rw[ovG,if_neg h]
theorem cSn {l:aC} {ov:Int} {sc:List Int} {n:Nat} {o:List bJ} {a:fH×Bool} (h:((a.2=true∧mI l o<ov)∧o.length<12)∧aTj l sc o a.1.fEl=false∧(iZ l a.1).length≠0):ovG l ov sc (n+1) o a=ovG l ov sc n (o++[(iZ l a.1).getD 0 default]) (eT l ((iZ l a.1).getD 0 default)):=by rw[ovG,if_pos h]
def uW (l:aC) (r:bL):List bJ:=if (exS l r).2=true then ovG l (exS l r).1.xBn r.xAe 12 [] (bH l (exS l r).1.fAt) else []
theorem bHe {l:aC} {ov:Int} {sc:List Int}: ∀(n:Nat) (o:List bJ) (a:fH×Bool),(ovG l ov sc n o a).length≤o.length+n
 |0,o,a=>by simp[ovG]
 |n+1,o,a=>by
  unfold ovG;split
  ·have:=bHe (l:=l) (ov:=ov) (sc:=sc) n (o++[(iZ l a.1).getD 0 default]) (eT l ((iZ l a.1).getD 0 default));rw[fP,aBo] at this;omega
  omega
theorem aUa (l:aC) (r:bL):(uW l r).length≤12:=by
 unfold uW;split
 ·have:=bHe (l:=l) (ov:=(exS l r).1.xBn) (sc:=r.xAe) 12 [] (bH l (exS l r).1.fAt);simpa using this
 simp
section
attribute [local go_sem] iP wJ wX wB sS aFg aFf aDt aEb aDk aDj yO y5 zC uO aHy aHz aIg aIo aIa aHp aIs aHs aHq aHo yM zM yH yX xK cJ Nat.mul_one iD
set_option maxRecDepth 20000 in
theorem aGi (O:aN) (l:aC) (r:bL) (hl:gO l) (hes:pK l=true):aZ Tryz.prog O 105 [.agg (aQ l),.agg (bK r)] (fJ (uW l r)):=by
 have hl1:=hl.sec;have hl2:=hl.el;have hl3:=hl.jo;have hl4:=hl.sg;have hl5:=hl.bl;refine eV Tryz.func105 ?_;refine aB [0,1] ?_;refine aA fun _ Z1=>bN [2,3] ?_;refine f9 (xZ _ l r) ?_;refine Z1 _ (aA fun _ Z2=>aB [2,3,5,6] ?_);refine aO (fun c0=>?_) fun c0=>?_
 ·have hex:(exS l r).2=false:=(by simpa using c0);refine aB [] ?_;refine xL 4 3 cV rfl rfl ?_;refine aL (dN 4 ?_);exact dX.encL rfl (by (unfold uW;rw[if_neg (by rw[hex];simp)]))
 have hex:(exS l r).2=true:=(by simpa using c0);refine aD (Z2 _ (aB [2,3,5] ?_));refine aA fun _ Z6=>bN [2,3,5,7] ?_;refine f9 (n0 _ l (exS l r).1.fAt) ?_;refine Z6 _ (aA fun _ Z7=>aI (l4 7 87 3 cV rfl rfl ?_));refine aX [2,3,5,6,7,8] (fun n ρ=> ∃o,∃a,n=12-o.length∧(o.length≤12)∧(uW l r=ovG l (exS l r).1.xBn r.xAe (12-o.length) o a)∧ρ=dU O [(2,.bx (aQ l)),(3,.bx (bK r)),(5,.bx (jW (exS l r).1)),(6,vb a.2),(7,yR o),(8,.bx (fM a.1))]) _ ⟨[],bH l (exS l r).1.fAt,rfl,?_,?_,?_⟩ ?_
 ·simp
 ·(unfold uW;rw[if_pos hex];rfl)
 ·exact dT
 rintro n ρ ⟨o,a,rfl,l0_0,l0_1,rfl⟩ _ Z8;refine aA fun _ Z9=>aA fun _ Z10=>gJ [2,3,5,6,7,8] [] ?_;refine rO (fun g0=>aIu _ l o 7 sz hl hes aV) ?_;refine Z10 _ (aO (fun c1=>?_) fun c1=>?_)
 ·have hc1:(a.2=true∧mI l o<(exS l r).1.xBn)∧o.length<12:=(by simpa using c1);obtain ⟨m,hm⟩: ∃m,12-o.length=m+1:=⟨11-o.length,by omega⟩;refine aD (Z9 _ (aI (aA fun _ Z11=>aA fun _ Z12=>gJ [2,3,5,7,8] [] ?_)));refine cdz (aCr _ o a.1.fEl 7 sz aV) ?_;refine rO (fun g1=>f7 _ l a.1.fEl) ?_;refine rO (fun g2=>x9 _ (fD l a.1.fEl) r.xAe) ?_;refine Z12 _ (aO (fun c2=>?_) fun c2=>?_)
  ·have hc2:aTj l r.xAe o a.1.fEl=true:=(by unfold aTj;simpa using c2);refine bA (Z7 _ (aA fun _ Z13=>iS 7 _ rfl rfl ?_));refine bE [7] ?_;refine Z13 _ (aL (dN 4 ?_));exact dX.encL rfl (by (rw[l0_1,bVm (by rintro ⟨h1,h2,h3⟩;rw[hc2] at h2;cases h2)]))
  have hc2:aTj l r.xAe o a.1.fEl=false:=(by unfold aTj;simpa using c2);refine aD (Z11 _ (aA fun _ Z14=>bN [2,3,5,7,8] ?_));refine f9 (vF _ l a.1 hl) ?_;refine Z14 _ (aA fun _ Z15=>aB [2,3,5,7,8,9] ?_);refine aO (fun c3=>?_) fun c3=>?_
  ·refine bA (Z7 _ (aA fun _ Z17=>iS 7 _ rfl rfl ?_));refine bE [7] ?_;refine Z17 _ (aL (dN 4 ?_));exact dX.encL rfl (by (rw[l0_1,bVm (by rintro ⟨h1,h2,h3⟩;omega)]))
  have hc3:(iZ l a.1).length≠0:=aV;refine aD (Z15 _ (aB [2,3,5,7,8,9] ?_));refine aBi 10 [2,3,5,7,8,9] [2,3,5,7,9,65,66,67,68,69,64,70,71,6,8] [] [] [[],[],[1],[1,2],[0,1,2,3],[0,1,2,3,4],[0,1,2,3,4,5],[0,1,2,3,4,5],[0,1,2,3,4,5,6],[0,1,2,3,4,5,6,7,8]] [[8],[8],[8],[8],[8],[8],[8],[],[],[]] (fun bQ=>dU O [(2,.bx (aQ l)),(3,.bx (bK r)),(5,.bx (jW (exS l r).1)),(7,yR (o++[((iZ l a.1).getD 0 default)])),(9,fJ (iZ l a.1)),(65,bC (bQ 0) (.agg (aQ l))),(66,bC (bQ 1) (fJ (iZ l a.1))),(67,bC (bQ 2) (.dp (cV ((iZ l a.1).getD 0 default)))),(68,bC (bQ 3) (.agg (cV ((iZ l a.1).getD 0 default)))),(69,bC (bQ 4) (.tup [.agg (fM (eT l ((iZ l a.1).getD 0 default)).1),vb (eT l ((iZ l a.1).getD 0 default)).2])),(64,bC (bQ 5) (.tup [.agg (fM (eT l ((iZ l a.1).getD 0 default)).1),vb (eT l ((iZ l a.1).getD 0 default)).2])),(70,bC (bQ 6) (.agg (fM (eT l ((iZ l a.1).getD 0 default)).1))),(71,bC (bQ 7) (vb (eT l ((iZ l a.1).getD 0 default)).2)),(6,bC (bQ 9) (vb (eT l ((iZ l a.1).getD 0 default)).2)),(8,rP (bQ 8) true (.bx (fM (eT l ((iZ l a.1).getD 0 default)).1)) (.bx (fM a.1)))]) (fun iQ hiQ oQ hoQ bQ hbQ KQ hKQ=>?_) ?_
  ·match iQ,hiQ with
   |0,_|1,_|2,_|3,_|5,_|6,_|7,_|8,_|9,_=>
    exact mkp hoQ hbQ hKQ
   |4,_=>
    exact mkc hoQ hbQ hKQ (aEs _ l ((iZ l a.1).getD 0 default))
  refine lL ?_;refine Z8 _ _ ?_ ⟨o++[((iZ l a.1).getD 0 default)],eT l ((iZ l a.1).getD 0 default),rfl,?_,?_,dT⟩
  ·simp;omega
  ·simp;omega
  ·rw[l0_1,hm,cSn ⟨hc1,hc2,hc3⟩];congr 1;simp;omega
 have hc1: ¬((a.2=true∧mI l o<(exS l r).1.xBn)∧o.length<12):=(by rintro ⟨⟨h1,h2⟩,h3⟩;rw[h1] at c1;simp at c1;omega);refine bA (Z7 _ (aA fun _ Z19=>iS 7 _ rfl rfl ?_));refine bE [7] ?_;refine Z19 _ (aL (dN 4 ?_));exact dX.encL rfl (by (rw[l0_1,bVm (fun h=>hc1 h.1)]))
end
structure Rtk (r:bL):Prop where
 pa:r.xAf.length≤100
 po:r.xAk.length≤100
 se:r.xAe.length≤100
 ov:r.xAl.length≤100
 op:r.xAs.length≤100
 os:r.xAr.length≤100
 fl:r.xAy.length≤1000
 gu:r.xBj.length≤1000
 ga:r.xBk.length≤1000
def ovF (l:aC) (r:bL):bL:=⟨r.xAq,r.xBh,r.xBd,r.xAf,r.xAk,r.xAe,r.xBg,r.xAn,uW l r,rW l (uW l r),jK l (uW l r),r.xAy,r.xBj,r.xBk⟩
theorem aZn {l:aC} {a:fH} {s:bJ} (h:s∈iZ l a):s.fEl=a.fEl:=by
 cases he:vD l a.fEl with
 |false=>rw[bUx he] at h;cases h
 |true=>
  rw[bOb he] at h;obtain ⟨o,ho,rfl⟩:=dZ.1 h;rfl
theorem bUz {l:aC} {ov:Int} {sc:List Int}: ∀(n:Nat) (o:List bJ) (a:fH×Bool),(o.map (·.fEl)).Nodup→((ovG l ov sc n o a).map (·.fEl)).Nodup
 |0,o,a,h=>h
 |n+1,o,a,h=>by
  unfold ovG;split
  ·rename_i hc;refine bUz n _ _ ?_;rw[eM,nO];refine ⟨h,by simp,fun x hx y hy e=>?_⟩;simp only[kH,sI,lH] at hy;have hb:=hc.2.1;unfold aTj at hb;rw[uL] at hb;have hm:(iZ l a.1).getD 0 default∈iZ l a.1:=kI (by have:=hc.2.2;omega);rw[(aZn hm)] at hy;have:jG o a.1.fEl=true:=qX.2 (by
    obtain ⟨s,hs,hse⟩:=dZ.1 hx;exact ⟨s,hs,by rw[hse,e,hy]⟩)
   rw[this] at hb;cases hb.1
  exact h
theorem bBs (l:aC) (r:bL):((uW l r).map (·.fEl)).Nodup:=by
 unfold uW;split
 ·exact bUz _ _ _ dH
 simp
section
attribute [local go_sem] iP wJ wX wB sS aFg aFf aDt aEb aDk aDj
theorem aJh (O:aN) (l:aC) (r:bL) (hl:gO l) (hes:pK l=true) (hr:Rtk r):aZ Tryz.prog O 58 [.agg (aQ l),.agg (bK r)] (.agg (bK (ovF l r))):=by
 have hl1:=hl.sec;have hl2:=hl.el;have hl3:=hl.jo;have hl4:=hl.sg;have hl5:=hl.bl;have hr1:=hr.pa;have hr2:=hr.po;have hr3:=hr.se;have hr4:=hr.fl;have hr5:=hr.gu;have hr6:=hr.ga;have hos:=aUa l r;refine eV Tryz.func58 ?_;refine aB [0,1] ?_;refine aA fun _ Z1=>bN [2,3,4] ?_;refine f9 (aGi _ l r hl hes) ?_;refine Z1 _ (aA fun _ Z2=>bN [2,3,4,5] ?_);refine f9 (dA (jQ _ r.xAf aV)) ?_;refine Z2 _ (aA fun _ Z3=>bN [2,3,4,5] ?_);refine f9 (dA (jT _ r.xAk aV)) ?_;refine Z3 _ (aA fun _ Z4=>bN [2,3,4,5] ?_);refine f9 (dA (l9 _ r.xAe aV)) ?_;refine Z4 _ (aA fun _ Z5=>bN [2,3,4,5] ?_);refine f9 (dA (jT _ r.xAy aV)) ?_;refine Z5 _ (aA fun _ Z6=>bN [2,3,4,5] ?_);refine f9 (dA (l9 _ r.xBj aV)) ?_;refine Z6 _ (aA fun _ Z7=>bN [2,3,4,5] ?_);refine f9 (dA (aDa _ r.xBk aV)) ?_;refine Z7 _ (aB [2,3,4,5] ?_);refine aA fun _ Z9=>bN [2,3,4,5] ?_;refine f9 (qW _ l (uW l r) hl aV (bBs l r)) ?_;refine Z9 _ (aA fun _ Z10=>bN [2,3,4,5] ?_);refine f9 (vR _ l (uW l r) hl hes aV) ?_;refine Z10 _ (aB [3,4] ?_);refine aL ?_;refine nM 4 157 rfl sz (by simp (disch:=omega) only[go_sem,seval]<;>(rfl)) sz sz
end
abbrev ePt (q:List bJ):List DV:=[fJ q]
abbrev rgP (h:Hd) (P:List (List bJ)):Rg:=.row h 65 1 (P.map ePt)
abbrev rgQ (h:Hd) (q:List bJ):Rg:=.row h 87 3 (q.map cV)
def qF (l:aC) (q:List bJ):List (List bJ):=if rT l (lsN q)=true then [q] else []
def aEg (l:aC) (q:List bJ):fH:=if rT l (lsN q)=true then ⟨-1,0⟩ else (eT l (lsN q)).1
theorem aUh {l:aC} {q:List bJ} (h:rT l (lsN q)=true):qF l q=[q]∧aEg l q=⟨-1,0⟩:=by unfold qF aEg;rw[if_pos h,if_pos h];exact ⟨rfl,rfl⟩
theorem aNi {l:aC} {q:List bJ} (h:rT l (lsN q)=false):qF l q=[]∧aEg l q=(eT l (lsN q)).1:=by unfold qF aEg;rw[if_neg (by rw[h];simp),if_neg (by rw[h];simp)];exact ⟨rfl,rfl⟩
theorem bRz {l:aC} {q:List bJ} (h:0≤lX l (sJ q)):rT l (lsN q)=true:=by unfold rT;rw[show bOl l (lsN q)=lX l (sJ q) from rfl,dF h];rfl
theorem bYr {l:aC} {s:bJ} (h:(eT l s).2=false):rT l s=true:=by unfold rT;rw[h];simp
theorem bYk {l:aC} {q:List bJ} (h: ¬0≤lX l (sJ q)) (h2:(eT l (lsN q)).2=true):rT l (lsN q)=false:=by unfold rT;rw[show bOl l (lsN q)=lX l (sJ q) from rfl,e9 h,h2];rfl
def fnX (l:aC) (h:Hd) (n:Nat):List DV:=aQ l++[h.sl n]
section
variable (l:aC) (h h':Hd) (n m:Nat)
theorem aSl:kT (fun x=>x+100000) (fnX l h n)=fnX l h n:=rfl
theorem aSt:(fnX l h n).length=7:=rfl
theorem aMv:(fnX l h n).take 6=aQ l:=rfl
theorem aMn:(fnX l h n).drop 6=[h.sl n]:=rfl
theorem aVi:(fnX l h n).getD 6 .any=h.sl n:=rfl
theorem aTs:(fnX l h n).set 6 (h'.sl m)=fnX l h' m:=rfl
theorem aUf:spl 6 [h'.sl m] (fnX l h n)=fnX l h' m:=rfl
theorem aVm (p:Nat→Bool):d6 p (fnX l h n)=true:=rfl
end
def cUz (O:aN) (k:Nat) (l:aC) (P:List (List bJ)) (q:List bJ) (rs:List Rg) (O':aN) (r:DV):Prop:=
 ∃h',rs=[rgP h' (P++qF l q)]∧O'=set O k (.bx (fnX l h' (P++qF l q).length))∧r=.agg (fM (aEg l q))
section
attribute [local go_sem] kD nS oX gR fI xK cJ iL Nat.mul_one iD gH aSl aSt aMv aMn aVi aTs aUf aVm iP
set_option maxRecDepth 20000 in
theorem rG (O:aN) (l:aC) (q:List bJ) (P:List (List bJ)) (h:Hd) (k s:Nat) (hk:O k=.bx (fnX l h P.length)) (hO:O s=.row 87 3 (q.map cV)) (nq:Nat) (hnq:nq=q.length) (hq:q.length≤100) (hq0:0<q.length) (hP:P.length≤1000000000000):aNj Tryz.prog O 188 [.bp k 0,.own s nq] [rgP h P] (cUz O k l P q):=by
 subst hnq;have hks:s≠k:=fun e=>by subst e;rw[hk] at hO;cases hO
 obtain ⟨O1,rfl⟩: ∃O1,O=set O1 k (.bx (fnX l h P.length)):=⟨O,by funext j;rw[aK];split<;>simp_all⟩;have hs1:O1 s=.row 87 3 (q.map cV):=by rw[aK,if_neg hks] at hO;exact hO
 have hxO:bS O1 (s+100000)=.row 87 3 (q.map cV):=by rw[cI,hs1];rfl
 have hcast:((q.length:Int)-1).toNat=q.length-1:=by omega
 have hsx:=cP hxO (cP hks hcast);refine sU Tryz.func188 rfl bF fun w0 I0 A0=>?_;have hF:=pS w0 I0 (cG A0) (GOf [rgP h P]);refine lB hF [0,1] ?_;refine bQj [0,1,4] (fun sF ρ=>sF=[rgP h P]∧(rT l (lsN q)=true)∧ρ=dU (set O1 k (.bx (fnX l h P.length))) [(0,.bp (k+100000) 0),(1,.own (s+100000) q.length),(4,.bx [vi 0,vi 0])]) (fun _ Z1=>?_) ?_
 ·skip
  refine aW fun _ Z2=>iU hF ?_;refine jF [0,1,4] [] ?_;refine bKi (aOe _ q (s+100000) xU aV hq0) ?_;refine bKi (lS _ l (sJ q)) ?_;refine Z2 _ _ (cQ (fun c0=>?_) fun c0=>?_)
  ·have hcs: ¬0≤lX l (sJ q):=(by simpa using c0);refine aW fun _ Z3=>iU hF ?_;refine bBx 17 [0,1,4] [0,1,4,16,17,18,19,20,21,22,23,24,25,26,15,27,28,6,5] [] [] [[],[0],[0,1],[0,1,2],[],[],[5],[5,6],[4,5,6,7],[4,5,6,7,8],[0,1,2,3,4,5,6,7,8,9],[0,1,2,3,4,5,6,7,8,9,10],[0,1,2,3,4,5,6,7,8,9,10,11],[0,1,2,3,4,5,6,7,8,9,10,11],[],[0,1,2,3,4,5,6,7,8,9,10,11,12,14],[0,1,2,3,4,5,6,7,8,9,10,11,12,13,14,15]] [[15],[15],[15],[15],[15],[15],[15],[15],[15],[15],[15],[15],[15],[],[15],[],[]] (fun bQ=>dU (set O1 k (.bx (fnX l h P.length))) [(0,.bp (k+100000) 0),(1,.own (s+100000) q.length),(4,.bx [vi 0,vi 0]),(16,bC (bQ 0) (.bp (k+100000) 0)),(17,bC (bQ 1) (.bp (k+100000) 0)),(18,bC (bQ 2) (.bp (k+100000) 0)),(19,bC (bQ 3) (.agg (aQ l))),(20,bC (bQ 4) (.own (s+100000) q.length)),(21,bC (bQ 5) (.own (s+100000) q.length)),(22,bC (bQ 6) (vi (q.length:Nat))),(23,bC (bQ 7) (vi ((q.length:Int)-1))),(24,bC (bQ 8) (.rp (s+100000) 3 (q.length-1) 0)),(25,bC (bQ 9) (.agg (cV (q.getD (q.length-1) default)))),(26,bC (bQ 10) (.tup [.agg (fM (eT l (q.getD (q.length-1) default)).1),vb (eT l (q.getD (q.length-1) default)).2])),(15,bC (bQ 11) (.tup [.agg (fM (eT l (q.getD (q.length-1) default)).1),vb (eT l (q.getD (q.length-1) default)).2])),(27,bC (bQ 12) (.agg (fM (eT l (q.getD (q.length-1) default)).1))),(28,bC (bQ 13) (vb (eT l (q.getD (q.length-1) default)).2)),(6,bC (bQ 16) (vb (eT l (q.getD (q.length-1) default)).2)),(5,rP (bQ 15) (bQ 14) (.bx (fM (eT l (q.getD (q.length-1) default)).1)) (.bx [vi 0,vi 0]))]) (fun iQ hiQ oQ hoQ bQ hbQ KQ hKQ=>?_) ?_
   ·match iQ,hiQ with
    |0,_|1,_|2,_|3,_|4,_|5,_|6,_|7,_|8,_|9,_|11,_|12,_|13,_|14,_|15,_|16,_=>
     exact o0 hoQ hbQ hKQ
    |10,_=>
     exact aWa hoQ hbQ hKQ (aEs _ l (q.getD (q.length-1) default))
   refine gE ?_;refine Z3 _ _ (lB hF [0,1,4,5,6] ?_);refine cQ (fun c1=>?_) fun c1=>?_
   ·have hcn:(eT l (lsN q)).2=true:=(by simpa using c1);obtain ⟨hpP,hpE⟩:=aNi (bYk hcs hcn);refine lB hF [4,5] ?_;refine dV ?_;exact bIv 4 89 rfl xU srh bF rfl ⟨h,by rw[hpP,kZ],by rw[hpP,kZ,nS],by rw[hpE]<;>rfl⟩
   have hcn:(eT l (lsN q)).2=false:=(by simpa using c1);refine bU (Z1 _ _ ⟨rfl,?_,?_⟩)
   ·exact bYr (s:=lsN q) hcn
   exact eX
  have hcs:0≤lX l (sJ q):=(by simpa using c0);refine bU (Z1 _ _ ⟨rfl,?_,?_⟩)
  ·exact bRz hcs
  exact eX
 rintro sF ρ ⟨rfl,j5_0,rfl⟩;obtain ⟨hpP,hpE⟩:=aUh j5_0;refine aW fun _ Z6=>aUi 12 [0,1,4] [0,1,4,31,32,33,34,36,37,38,39,40,41,35] [[],[],[1],[1,2],[1,2,3],[],[5],[5,6],[1,2,3,4,5,6,7],[0,1,2,3,4,5,6,7,8],[0,1,2,3,4,5,6,7,8,9],[0,1,2,3,4,5,6,7,8,9,10]] [[11],[4,8,11],[4,8,11],[4,8,11],[8,11],[8,11],[8,11],[8,11],[11],[11],[11],[]] (fun (hx:Hd) bQ=>dU (cond (bQ 11) (set O1 k (.bx (fnX l hx (P++[q]).length))) (set O1 k (.bx (fnX l h P.length)))) [(0,.bp (k+100000) 0),(1,.own (s+100000) q.length),(4,.bx [vi 0,vi 0]),(31,bC (bQ 0) (.bp (k+100000) 0)),(32,bC (bQ 1) (.bp (k+100000) 0)),(33,bC (bQ 2) (.bp (k+100000) 0)),(34,bC (bQ 3) (.bp (k+100000) 6)),(36,bC (bQ 5) (.own (s+100000) q.length)),(37,bC (bQ 6) (fJ q)),(38,bC (bQ 7) (.sl 1 1 (fun i=>[[fJ q]].getD i []))),(39,bC (bQ 8) (hx.sl (P++[q]).length)),(40,bC (bQ 9) (.bp (k+100000) 0)),(41,bC (bQ 10) (.bp (k+100000) 6)),(35,(cond (bQ 8) (.any) (cond (bQ 4) (h.sl P.length) (.any))))]) (fun (hx:Hd) bQ=>(cond (bQ 8) [rgP hx (P++[q])] [rgP h P])) ⟨none,none,0⟩ hF (fun iQ hiQ oQ hoQ hx bQ hbQ KQ hKQ=>?_) (fun hx=>?_)
 ·match iQ,hiQ with
  |0,_|1,_|2,_|3,_|4,_|5,_|7,_|9,_|10,_|11,_=>
   exact cKg hF hoQ hbQ (hKQ hx)
  |6,_=>
   obtain rfl:=dO hoQ;simp only[stM,tE,tI,oK,oS,pH,jC,jE] at hbQ;show lW _ _ _ _ _ _ _ _;refine fK hF ?_;refine bV rfl bF bF ?_;simp (disch:=omega) only[go_sem,seval,hsx,hbQ]
   repeat refine cP kN ?_
   refine jJ _ (dA (qG _ q (s+100000) xU aV)) ?_;simp (disch:=omega) only[go_sem,seval,hsx,hbQ]
   repeat refine cP kN ?_
   refine hKQ hx _ _ ?_ ?_
   ·first|rfl|(simp (disch:=omega) only[go_sem,seval,hsx,hbQ];done)|(simp (disch:=omega) only[go_sem,seval,hsx,hbQ]<;>rfl)
   simp (disch:=omega) only[go_sem,seval,hsx,hbQ]<;>first|rfl|simp
  |8,_=>
   obtain rfl:=dO hoQ;simp only[stM,tE,tI,oK,oS,pH,jC,jE] at hbQ;rw[hbQ.1];simp only[fI];show lW _ _ _ _ _ _ _ _;refine iI (s1:=[]) (s2:=[]) 35 eN (by simp (disch:=omega) only[go_sem,seval,hsx,hbQ]<;>rfl) rfl ?_;refine nT [] [] 65 1 ((P++[q]).map ePt) 39 eN ?_;show lW _ _ _ _ _ _ _ _;refine fK hF ?_;refine bV rfl bF bF ?_;simp (disch:=omega) only[go_sem,seval,hsx,hbQ]
   repeat refine cP kN ?_
   refine ⟨rfl,by simp (disch:=omega) only[go_sem,seval,hsx,hbQ]<;>(first|rfl|(simp;done)|(simp;rfl)),fun hx=>?_⟩
   try simp (disch:=omega) only[go_sem,seval,hsx,hbQ]
   refine hKQ hx _ _ ?_ ?_
   ·first|rfl|(simp (disch:=omega) only[go_sem,seval,hsx,hbQ];done)|(simp (disch:=omega) only[go_sem,seval,hsx,hbQ]<;>rfl)
   simp (disch:=omega) only[go_sem,seval,hsx,hbQ]<;>first|rfl|simp
 refine gE ?_;refine Z6 _ _ (lB hF [4] ?_);refine dV ?_;exact aZs (s:=k) (cs0:=fnX l h P.length) (cs:=fnX l hx (P++[q]).length) 4 89 rfl (by rw[aK,if_pos rfl]) rfl rfl rfl (by simp (disch:=omega) only[go_sem,seval,hsx]<;>first|rfl|simp) srh bF rfl ⟨hx,by rw[hpP],by rw[hpP],by rw[hpE]<;>rfl⟩
end
end Go.Sg
